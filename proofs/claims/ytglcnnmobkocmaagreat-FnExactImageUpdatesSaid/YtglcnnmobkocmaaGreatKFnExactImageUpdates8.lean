/- What laws.FnExactImageUpdates reaches, part 8: the functions as Lean functions, the proofs that the program's functions answer so, and plain laws about them. -/
import Derived.Test.YtglcnnmobkocmaaGreatKFnExactImageUpdates1
import Derived.Test.YtglcnnmobkocmaaGreatKFnExactImageUpdates3
import Derived.Test.YtglcnnmobkocmaaGreatKFnExactImageUpdates4
import Derived.Test.YtglcnnmobkocmaaGreatKFnExactImageUpdates5
import Derived.Test.YtglcnnmobkocmaaGreatKFnExactImageUpdates7
namespace Go.Proofs.YtglcnnmobkocmaaGreat.Q
open Go.RowKit Go.Proofs.YtglcnnmobkocmaaGreat.Ext Go.Proofs.YtglcnnmobkocmaaGreatW.PrintWords Go.Proofs.YtglcnnmobkocmaaGreatW.PrintLast Go.Proofs.YtglcnnmobkocmaaGreatW.PrintMore
attribute [local go_sem] max2_int min2_int max_two min_two max_three min_three max_four min_four   -- for this text's walks alone
set_option linter.unusedVariables false
set_option linter.unusedSimpArgs false

set_option linter.unusedVariables false
set_option linter.unusedSimpArgs false
/-! ### spec_l11All: function 53 -/
mutual
def spec_l11All.l0 : Nat → List (S77) → Int → List Int → List Int → List (S103) → List Int → Option ((List (S77)))
  | 0, _, _, _, _, _, _ => none
  | k + 1, x3, x4, x724000, x724001, x724002, x724003 => if x4 < (x724002.length : Int) then (if 0 ≤ x4 then ((spec_l09Encode.f k ((rd_T103 x724002 x4).f1)).bind fun t731 => (if x3.length < 5864062014805 then (spec_l11All.l0 k (x3 ++ [(⟨wrap64 (12 + x4), t731⟩ : S77)]) (wrap64 (x4 + 1)) x724000 x724001 x724002 x724003) else (none))) else (none)) else (spec_l11All.l1 k x3 0 x724000 x724001 x724002 x724003)
def spec_l11All.l1 : Nat → List (S77) → Int → List Int → List Int → List (S103) → List Int → Option ((List (S77)))
  | 0, _, _, _, _, _, _ => none
  | k + 1, x3, x5, x724000, x724001, x724002, x724003 => if x5 < 24 then (if 0 ≤ x5 then (if x5 < (x724000.length : Int) then (if (rd x724000 x5) > 0 then (if x5 < (x724003.length : Int) then ((spec_l02Seal.f k 4 (([rd x724003 x5] : List Int))).bind fun t740 => (if x3.length < 5864062014805 then (spec_l11All.l1 k (x3 ++ [(⟨wrap64 (15 + x5), t740⟩ : S77)]) (wrap64 (x5 + 1)) x724000 x724001 x724002 x724003) else (none))) else (none)) else (spec_l11All.l1 k x3 (wrap64 (x5 + 1)) x724000 x724001 x724002 x724003)) else (none)) else (none)) else (some x3)
end
def spec_l11All.f (k : Nat) (l0_0 : List Int) (l0_1 : List Int) (l0_2 : List (S103)) (l0_3 : List Int) : Option ((List (S77))) := (spec_l11Super.f k l0_0 l0_1 l0_2 l0_3).bind fun t724 => ((spec_l08Encode.f k l0_0).bind fun t725 => ((spec_l09Encode.f k l0_1).bind fun t726 => (spec_l11All.l0 k (([(⟨9, t724⟩ : S77), (⟨10, t725⟩ : S77), (⟨11, t726⟩ : S77)] : List (S77))) 0 l0_0 l0_1 l0_2 l0_3)))
theorem spec_l11All.mono_l : ∀ k, (∀ y0 y1 y2 y3 y4 y5, LeO (spec_l11All.l0 k y0 y1 y2 y3 y4 y5) (spec_l11All.l0 (k + 1) y0 y1 y2 y3 y4 y5)) ∧ (∀ y0 y1 y2 y3 y4 y5, LeO (spec_l11All.l1 k y0 y1 y2 y3 y4 y5) (spec_l11All.l1 (k + 1) y0 y1 y2 y3 y4 y5))
  | 0 => ⟨fun _ _ _ _ _ _ r h => by simp [spec_l11All.l0] at h, fun _ _ _ _ _ _ r h => by simp [spec_l11All.l1] at h⟩
  | k + 1 => by
    obtain ⟨ih0, ih1⟩ := spec_l11All.mono_l k
    refine ⟨?_, ?_⟩
    · intro y0 y1 y2 y3 y4 y5
      unfold spec_l11All.l0
      repeat' first
      | (with_reducible exact ih0 _ _ _ _ _ _)
      | (with_reducible exact ih1 _ _ _ _ _ _)
      | (with_reducible exact spec_l02Seal.mono _ _ _)
      | (with_reducible exact spec_l08Encode.mono _ _)
      | (with_reducible exact spec_l09Encode.mono _ _)
      | (with_reducible exact spec_l11Super.mono _ _ _ _ _)
      | (with_reducible exact LeO.refl _)
      | (with_reducible exact LeO.none _)
      | (with_reducible refine LeO.ite ?_ ?_)
      | (with_reducible refine LeO.bind ?_ (fun _ => ?_))
      | exact ih0 _ _ _ _ _ _
      | exact ih1 _ _ _ _ _ _
      | exact spec_l02Seal.mono _ _ _
      | exact spec_l08Encode.mono _ _
      | exact spec_l09Encode.mono _ _
      | exact spec_l11Super.mono _ _ _ _ _
      | exact LeO.none _
      | refine LeO.ite ?_ ?_
      | refine LeO.bind ?_ (fun _ => ?_)
    · intro y0 y1 y2 y3 y4 y5
      unfold spec_l11All.l1
      repeat' first
      | (with_reducible exact ih0 _ _ _ _ _ _)
      | (with_reducible exact ih1 _ _ _ _ _ _)
      | (with_reducible exact spec_l02Seal.mono _ _ _)
      | (with_reducible exact spec_l08Encode.mono _ _)
      | (with_reducible exact spec_l09Encode.mono _ _)
      | (with_reducible exact spec_l11Super.mono _ _ _ _ _)
      | (with_reducible exact LeO.refl _)
      | (with_reducible exact LeO.none _)
      | (with_reducible refine LeO.ite ?_ ?_)
      | (with_reducible refine LeO.bind ?_ (fun _ => ?_))
      | exact ih0 _ _ _ _ _ _
      | exact ih1 _ _ _ _ _ _
      | exact spec_l02Seal.mono _ _ _
      | exact spec_l08Encode.mono _ _
      | exact spec_l09Encode.mono _ _
      | exact spec_l11Super.mono _ _ _ _ _
      | exact LeO.none _
      | refine LeO.ite ?_ ?_
      | refine LeO.bind ?_ (fun _ => ?_)
theorem spec_l11All.mono : ∀ a0 a1 a2 a3 k, LeO (spec_l11All.f k a0 a1 a2 a3) (spec_l11All.f (k + 1) a0 a1 a2 a3) := by
  intro a0 a1 a2 a3 k
  obtain ⟨ih0, ih1⟩ := spec_l11All.mono_l k
  unfold spec_l11All.f
  repeat' first
      | (with_reducible exact ih0 _ _ _ _ _ _)
      | (with_reducible exact ih1 _ _ _ _ _ _)
      | (with_reducible exact spec_l02Seal.mono _ _ _)
      | (with_reducible exact spec_l08Encode.mono _ _)
      | (with_reducible exact spec_l09Encode.mono _ _)
      | (with_reducible exact spec_l11Super.mono _ _ _ _ _)
      | (with_reducible exact LeO.refl _)
      | (with_reducible exact LeO.none _)
      | (with_reducible refine LeO.ite ?_ ?_)
      | (with_reducible refine LeO.bind ?_ (fun _ => ?_))
      | exact ih0 _ _ _ _ _ _
      | exact ih1 _ _ _ _ _ _
      | exact spec_l02Seal.mono _ _ _
      | exact spec_l08Encode.mono _ _
      | exact spec_l09Encode.mono _ _
      | exact spec_l11Super.mono _ _ _ _ _
      | exact LeO.none _
      | refine LeO.ite ?_ ?_
      | refine LeO.bind ?_ (fun _ => ?_)
def spec_l11All.T1 : Bool × List (List Nat × List Nat) := (true, [([], []), ([0], [0]), ([1], [1]), ([], []), ([3], [3]), ([4, 1], [4]), ([5], [5]), ([], []), ([7], [7]), ([8, 5], [8]), ([9], [9]), ([2, 6, 10], [2, 6, 10]), ([11, 9, 0, 1, 2, 3, 4, 5, 6, 7, 8, 9, 10, 11], [11])])
def spec_l11All.B1 : List Nat := [0, 1, 3, 0, 8, 27, 59, 0, 128, 443, 955, 2047, 4095]
theorem spec_l11All.tab1 : rtab .any (opsOf Tryz.f53 1) = spec_l11All.T1 := by kernel_rfl
theorem spec_l11All.bits1 : waitsOk spec_l11All.T1.2 spec_l11All.B1 = true := by kernel_rfl
set_option maxHeartbeats 8000000 in
set_option maxRecDepth 100000 in
theorem spec_l11All.calls (k : Nat) (A0_0 : Option Addr) (c0_0 : Nat) (l0_0 : List Int) (A0_1 : Option Addr) (c0_1 : Nat) (l0_1 : List Int) (A0_2 : Option Addr) (c0_2 : Nat) (l0_2 : List (S103)) (A0_3 : Option Addr) (c0_3 : Nat) (l0_3 : List Int) (r : List (S77)) (w : World) (hr0_0 : Kd.C (Kd.int .i64) w A0_0 l0_0.length l0_0) (hc0_0 : l0_0.length ≤ c0_0) (hr0_1 : Kd.C (Kd.int .i64) w A0_1 l0_1.length l0_1) (hc0_1 : l0_1.length ≤ c0_1) (hr0_2 : Kd.C k103 w A0_2 l0_2.length l0_2) (hc0_2 : l0_2.length ≤ c0_2) (hr0_3 : Kd.C (Kd.int .i64) w A0_3 l0_3.length l0_3) (hc0_3 : l0_3.length ≤ c0_3) (h : spec_l11All.f k l0_0 l0_1 l0_2 l0_3 = some r) :
    Calls Tryz.prog 53 #[.agg #[.slice A0_0 l0_0.length c0_0, .slice A0_1 l0_1.length c0_1, .slice A0_2 l0_2.length c0_2, .slice A0_3 l0_3.length c0_3]] w fun e w' => ∃ v0_ : Value, e = .returned (v0_) ∧ Kd.R k77 77 w' w.heap.size (fun _ => True) v0_ r ∧ Below w.heap.size w w' := by
 have hu26 := Tryz.underlying26
 have hu77 := Tryz.underlying77
 have Ze := zm hr0_0
 have Zh := zm hc0_0
 clear hr0_0 hc0_0
 have Zi := zm hr0_1
 have Zj := zm hc0_1
 clear hr0_1 hc0_1
 have Zk := zm hr0_2
 have Zm := zm hc0_2
 clear hr0_2 hc0_2
 have Zl := zm hr0_3
 have Zn := zm hc0_3
 clear hr0_3 hc0_3
 have HB := zm (Below.refl w.heap.size w)
 have H : ((spec_l11Super.f k l0_0 l0_1 l0_2 l0_3).bind fun t724 => ((spec_l08Encode.f k l0_0).bind fun t725 => ((spec_l09Encode.f k l0_1).bind fun t726 => (spec_l11All.l0 k (([(⟨9, t724⟩ : S77), (⟨10, t725⟩ : S77), (⟨11, t726⟩ : S77)] : List (S77))) 0 l0_0 l0_1 l0_2 l0_3)))) = some r := h
 clear h
 replace H := Option.bind_eq_some_iff.mp H
 obtain ⟨t724, A20, H⟩ := H
 replace H : ((spec_l08Encode.f k l0_0).bind fun t725 => ((spec_l09Encode.f k l0_1).bind fun t726 => (spec_l11All.l0 k (([(⟨9, t724⟩ : S77), (⟨10, t725⟩ : S77), (⟨11, t726⟩ : S77)] : List (S77))) 0 l0_0 l0_1 l0_2 l0_3))) = some r := H
 have A2 := zm A20
 clear A20
 replace H := Option.bind_eq_some_iff.mp H
 obtain ⟨t725, A30, H⟩ := H
 replace H : ((spec_l09Encode.f k l0_1).bind fun t726 => (spec_l11All.l0 k (([(⟨9, t724⟩ : S77), (⟨10, t725⟩ : S77), (⟨11, t726⟩ : S77)] : List (S77))) 0 l0_0 l0_1 l0_2 l0_3)) = some r := H
 have A3 := zm A30
 clear A30
 replace H := Option.bind_eq_some_iff.mp H
 obtain ⟨t726, A40, H⟩ := H
 replace H : (spec_l11All.l0 k (([(⟨9, t724⟩ : S77), (⟨10, t725⟩ : S77), (⟨11, t726⟩ : S77)] : List (S77))) 0 l0_0 l0_1 l0_2 l0_3) = some r := H
 have A4 := zm A40
 clear A40
 obtain ⟨y727, hy727⟩ : ∃ y_ : List (S77), y_ = (([(⟨9, t724⟩ : S77), (⟨10, t725⟩ : S77), (⟨11, t726⟩ : S77)] : List (S77))) := ⟨_, rfl⟩
 replace H : (spec_l11All.l0 k y727 0 l0_0 l0_1 l0_2 l0_3) = some r := by first | (rw [hy727]; with_reducible exact H) | (have H2_ := (Option.bind_some _ _).symm.trans H; rw [hy727]; with_reducible exact H2_) | (have H2_ := (Option.bind_some _ _).symm.trans H; with_reducible exact H2_) | with_reducible exact H | (rw [hy727]; exact H) | exact H
 have Ny727 := zm hy727
 clear hy727
 have H' := zm H
 clear H
 go_enter Tryz.func53, Tryz.ntmps53
 try go_wp2_with (first | ((with_reducible refine gate_dst (N := 1) rfl ?_); refine box_event ?hg (N := 1) ?hd (cs := #[.slice A0_0 l0_0.length c0_0, .slice A0_1 l0_1.length c0_1, .slice A0_2 l0_2.length c0_2, .slice A0_3 l0_3.length c0_3]) (t := 26) ?hr ?_; (case hd => rfl); (case hg => rfl); (case hr => first | (go_simp; done) | (go_simp; rfl)); intro gb723 hg w5 hbox hb; have n0_ := zm (below_step (zg_1 HB.out) hb); have n1_ := zm (hbox); have n2_ := zm ((by rw [hg]; exact (below_size (zg_1 HB.out)) : w.heap.size ≤ gb723)); have n3_ := zm ((by rw [hg]; exact (below_size (zg_1 HB.out)) : w.heap.size ≤ gb723)); clear HB; have HB := n0_; have Za := n1_; have Zr := n2_; have Zb := n3_; clear n0_ n1_ n2_ n3_; clear hb hbox hg))
 have n0_ := zm (blk_drew Za.out)
 have n1_ := zm (below_drew1 HB.out)
 clear Za
 clear HB
 have Za := n0_
 have HB := n1_
 clear n0_ n1_
 refine start_ (n := 13) (S := fun w' => w'.cell? ⟨gb723, 0, none⟩ = some (.slice A0_0 l0_0.length c0_0) ∧ w'.cell? ⟨gb723, 1, none⟩ = some (.slice A0_1 l0_1.length c0_1) ∧ w'.cell? ⟨gb723, 2, none⟩ = some (.slice A0_2 l0_2.length c0_2) ∧ w'.cell? ⟨gb723, 3, none⟩ = some (.slice A0_3 l0_3.length c0_3)) (ds := []) #[false, false, false, false, false, false, false, false, false, false, false, false, false] (by kernel_rfl) rfl rfl ⟨(blk_cell Za.out 0).trans rfl, (blk_cell Za.out 1).trans rfl, (blk_cell Za.out 2).trans rfl, (blk_cell Za.out 3).trans rfl⟩ (fun hHeld => ?_); refine with_tabW spec_l11All.tab1 spec_l11All.bits1 (fun HT_ HW_ => ?_)
 generalize w5.drew = w6 at Za HB hHeld ⊢
 refine pure_ (i := 3) (N := some 9) (v := ?_) (a' := ?_) #[false, false, false, true, false, false, false, false, false, false, false, false, false] rfl rfl (any_of HT_.out (by kernel_rfl)) (fun _ _ _ h => h) (Or.inl ⟨by rfl, ?_⟩) ?_ ?_
 rotate_left
 ·intro w'
  go_simp
  with_reducible rfl
 rotate_left
 ·simp only [Act.put, zs, zz, zt, i64_w, i32_w]
  rfl
 refine pure_ (i := 7) (N := some 13) (v := ?_) (a' := ?_) #[false, false, false, true, false, false, false, true, false, false, false, false, false] rfl rfl (any_of HT_.out (by kernel_rfl)) (fun _ _ _ h => h) (Or.inl ⟨by rfl, ?_⟩) ?_ ?_
 rotate_left
 ·intro w'
  go_simp
  with_reducible rfl
 rotate_left
 ·simp only [Act.put, zs, zz, zt, i64_w, i32_w]
  rfl
 refine take_ (i := 0) (N := some 6) (v := ?_) (a' := ?_) #[true, false, false, true, false, false, false, true, false, false, false, false, false] rfl rfl (take_ofW HT_.out HW_.out (by kernel_rfl)) (fun _ _ _ h => h) (Or.inl ⟨by rfl, ?_⟩) hHeld ?_ ?_
 rotate_left
 ·rintro w' ⟨s0, s1, s2, s3⟩
  go_simp
  with_reducible rfl
 rotate_left
 ·simp only [Act.put, zs, zz, zt, i64_w, i32_w]
  rfl
 refine take_ (i := 4) (N := some 10) (v := ?_) (a' := ?_) #[true, false, false, true, true, false, false, true, false, false, false, false, false] rfl rfl (take_ofW HT_.out HW_.out (by kernel_rfl)) (fun _ _ _ h => h) (Or.inl ⟨by rfl, ?_⟩) hHeld ?_ ?_
 rotate_left
 ·rintro w' ⟨s0, s1, s2, s3⟩
  go_simp
  with_reducible rfl
 rotate_left
 ·simp only [Act.put, zs, zz, zt, i64_w, i32_w]
  rfl
 refine take_ (i := 8) (N := some 14) (v := ?_) (a' := ?_) #[true, false, false, true, true, false, false, true, true, false, false, false, false] rfl rfl (take_ofW HT_.out HW_.out (by kernel_rfl)) (fun _ _ _ h => h) (Or.inl ⟨by rfl, ?_⟩) hHeld ?_ ?_
 rotate_left
 ·rintro w' ⟨s0, s1, s2, s3⟩
  go_simp
  with_reducible rfl
 rotate_left
 ·simp only [Act.put, zs, zz, zt, i64_w, i32_w]
  rfl
 refine one_ (i := 1) (N := some 7) #[true, true, false, true, true, false, false, true, true, false, false, false, false] rfl rfl (one_of HT_.out (by kernel_rfl)) (by decide) (fun K hK => ?_)
 refine goes_ Tryz.func93 (by kernel_rfl) rfl #[.agg #[.slice A0_0 l0_0.length c0_0, .slice A0_1 l0_1.length c0_1, .slice A0_2 l0_2.length c0_2, .slice A0_3 l0_3.length c0_3]] (by rfl) rfl rfl zq ?_
 with_reducible refine (spec_l11Super.calls k _ _ l0_0 _ _ l0_1 _ _ l0_2 _ _ l0_3 t724 _ ?side1 ?side2 ?side3 ?side4 ?side5 ?side6 ?side7 ?side8 A2.out).mono ?_
 (case side1 => exact zC (Kd.C_below Ze.out HB.out))
 (case side2 => exact Zh.out)
 (case side3 => exact zC (Kd.C_below Zi.out HB.out))
 (case side4 => exact Zj.out)
 (case side5 => exact zC (Kd.C_below Zk.out HB.out))
 (case side6 => exact Zm.out)
 (case side7 => exact zC (Kd.C_below Zl.out HB.out))
 (case side8 => exact Zn.out)
 rintro e w7 ⟨rfl, hb⟩
 refine ⟨_, rfl, ?_⟩
 have n0_ := zm (blk_below (g := gb723) (o := .cells #[.slice A0_0 l0_0.length c0_0, .slice A0_1 l0_1.length c0_1, .slice A0_2 l0_2.length c0_2, .slice A0_3 l0_3.length c0_3] 26 (0, 0)) (zg_3 Za.out) hb)
 have n1_ := zm (below_step (zg_2 HB.out Zb.out) hb)
 clear Za
 clear HB
 have Za := n0_
 have HB := n1_
 clear n0_ n1_
 (try clear hb)
 (try clear hb2)
 (try clear hk)
 (try clear hi)
 refine hK.out _ _ ⟨(blk_cell Za.out 0).trans rfl, (blk_cell Za.out 1).trans rfl, (blk_cell Za.out 2).trans rfl, (blk_cell Za.out 3).trans rfl⟩ (fun hHeld => ?_)
 clear hK K
 refine norm_ (a' := ?_) ?_ ?_
 rotate_left
 ·show Act.put _ (some 7) _ = _
  simp only [Act.put, zs, zz, zt, i64_w, i32_w]
  rfl
 refine pure_ (i := 2) (N := some 8) (v := ?_) (a' := ?_) #[true, true, true, true, true, false, false, true, true, false, false, false, false] rfl rfl (any_of HT_.out (by kernel_rfl)) (fun _ _ _ h => h) (Or.inl ⟨by rfl, ?_⟩) ?_ ?_
 rotate_left
 ·intro w'
  go_simp
  with_reducible rfl
 rotate_left
 ·simp only [Act.put, zs, zz, zt, i64_w, i32_w]
  rfl
 refine one_ (i := 5) (N := some 11) #[true, true, true, true, true, true, false, true, true, false, false, false, false] rfl rfl (one_of HT_.out (by kernel_rfl)) (by decide) (fun K hK => ?_)
 refine goes_ Tryz.func94 (by kernel_rfl) rfl #[.slice A0_0 l0_0.length c0_0] (by rfl) rfl rfl zq ?_
 with_reducible refine (spec_l08Encode.calls k _ _ l0_0 t725 _ ?side1 ?side2 A3.out).mono ?_
 (case side1 => exact zC (Kd.C_below Ze.out HB.out))
 (case side2 => exact Zh.out)
 rintro e w8 ⟨rfl, hb⟩
 refine ⟨_, rfl, ?_⟩
 have n0_ := zm (blk_below (g := gb723) (o := .cells #[.slice A0_0 l0_0.length c0_0, .slice A0_1 l0_1.length c0_1, .slice A0_2 l0_2.length c0_2, .slice A0_3 l0_3.length c0_3] 26 (0, 0)) (zg_3 Za.out) hb)
 have n1_ := zm (below_step (zg_2 HB.out Zb.out) hb)
 clear Za
 clear HB
 have Za := n0_
 have HB := n1_
 clear n0_ n1_
 (try clear hb)
 (try clear hb2)
 (try clear hk)
 (try clear hi)
 refine hK.out _ _ ⟨(blk_cell Za.out 0).trans rfl, (blk_cell Za.out 1).trans rfl, (blk_cell Za.out 2).trans rfl, (blk_cell Za.out 3).trans rfl⟩ (fun hHeld => ?_)
 clear hK K
 refine norm_ (a' := ?_) ?_ ?_
 rotate_left
 ·show Act.put _ (some 11) _ = _
  simp only [Act.put, zs, zz, zt, i64_w, i32_w]
  rfl
 refine pure_ (i := 6) (N := some 12) (v := ?_) (a' := ?_) #[true, true, true, true, true, true, true, true, true, false, false, false, false] rfl rfl (any_of HT_.out (by kernel_rfl)) (fun _ _ _ h => h) (Or.inl ⟨by rfl, ?_⟩) ?_ ?_
 rotate_left
 ·intro w'
  go_simp
  with_reducible rfl
 rotate_left
 ·simp only [Act.put, zs, zz, zt, i64_w, i32_w]
  rfl
 refine one_ (i := 9) (N := some 15) #[true, true, true, true, true, true, true, true, true, true, false, false, false] rfl rfl (one_of HT_.out (by kernel_rfl)) (by decide) (fun K hK => ?_)
 refine goes_ Tryz.func95 (by kernel_rfl) rfl #[.slice A0_1 l0_1.length c0_1] (by rfl) rfl rfl zq ?_
 with_reducible refine (spec_l09Encode.calls k _ _ l0_1 t726 _ ?side1 ?side2 A4.out).mono ?_
 (case side1 => exact zC (Kd.C_below Zi.out HB.out))
 (case side2 => exact Zj.out)
 rintro e w9 ⟨rfl, hb⟩
 refine ⟨_, rfl, ?_⟩
 have n0_ := zm (blk_below (g := gb723) (o := .cells #[.slice A0_0 l0_0.length c0_0, .slice A0_1 l0_1.length c0_1, .slice A0_2 l0_2.length c0_2, .slice A0_3 l0_3.length c0_3] 26 (0, 0)) (zg_3 Za.out) hb)
 have n1_ := zm (below_step (zg_2 HB.out Zb.out) hb)
 clear Za
 clear HB
 have Za := n0_
 have HB := n1_
 clear n0_ n1_
 (try clear hb)
 (try clear hb2)
 (try clear hk)
 (try clear hi)
 refine hK.out _ _ ⟨(blk_cell Za.out 0).trans rfl, (blk_cell Za.out 1).trans rfl, (blk_cell Za.out 2).trans rfl, (blk_cell Za.out 3).trans rfl⟩ (fun hHeld => ?_)
 clear hK K
 refine norm_ (a' := ?_) ?_ ?_
 rotate_left
 ·show Act.put _ (some 15) _ = _
  simp only [Act.put, zs, zz, zt, i64_w, i32_w]
  rfl
 refine pure_ (i := 10) (N := some 16) (v := ?_) (a' := ?_) #[true, true, true, true, true, true, true, true, true, true, true, false, false] rfl rfl (any_of HT_.out (by kernel_rfl)) (fun _ _ _ h => h) (Or.inl ⟨by rfl, ?_⟩) ?_ ?_
 rotate_left
 ·intro w'
  go_simp
  with_reducible rfl
 rotate_left
 ·simp only [Act.put, zs, zz, zt, i64_w, i32_w]
  rfl
 refine one_ (i := 11) (N := some 17) #[true, true, true, true, true, true, true, true, true, true, true, true, false] rfl rfl (one_of HT_.out (by kernel_rfl)) (by decide) (fun K hK => ?_)
 refine Kd.R_lit_step k77 _ 77 ?hg (N := 17) ?hd (xs := ([(⟨9, t724⟩ : S77), (⟨10, t725⟩ : S77), (⟨11, t726⟩ : S77)] : List (S77))) (inner := [.int .i64 9, .string t724, .int .i64 10, .string t725, .int .i64 11, .string t726]) (ok := fun _ => True) (okp := fun _ => True) ?hr ?hp (fun _ hk => hk) trivial (Below.refl _ _) (Nat.le_refl _) (by simp) ?_; (case hd => rfl); (case hg => rfl); (case hr => first | (go_simp; done) | (go_simp; rfl)); (case hp => exact (Reps.c2 (show Kd.M k77 _ _ _ (⟨9, t724⟩ : S77) [.int .i64 9, .string t724] from (k77_mkM _ _ _ (⟨9, t724⟩ : S77) )) (Reps.c2 (show Kd.M k77 _ _ _ (⟨10, t725⟩ : S77) [.int .i64 10, .string t725] from (k77_mkM _ _ _ (⟨10, t725⟩ : S77) )) (Reps.c2 (show Kd.M k77 _ _ _ (⟨11, t726⟩ : S77) [.int .i64 11, .string t726] from (k77_mkM _ _ _ (⟨11, t726⟩ : S77) )) (Reps.none _ _)))))
 intro v728 w10 ho11 hb hg_ hnew_
 clear hg_ hnew_
 (first | rw [← Ny727.out] at ho11 | (simp only [Int.reduceToNat] at ho11; rw [← Ny727.out] at ho11))
 have n0_ := zm (Kd.R_lower ho11 (below_size (zg_2 HB.out Zb.out)))
 have n1_ := zm (blk_below (g := gb723) (o := .cells #[.slice A0_0 l0_0.length c0_0, .slice A0_1 l0_1.length c0_1, .slice A0_2 l0_2.length c0_2, .slice A0_3 l0_3.length c0_3] 26 (0, 0)) (zg_3 Za.out) hb)
 have n2_ := zm (below_step (zg_2 HB.out Zb.out) hb)
 clear Za
 clear HB
 have Zo := n0_
 have Za := n1_
 have HB := n2_
 clear n0_ n1_ n2_
 clear hb ho11
 refine hK.out _ _ ⟨(blk_cell Za.out 0).trans rfl, (blk_cell Za.out 1).trans rfl, (blk_cell Za.out 2).trans rfl, (blk_cell Za.out 3).trans rfl⟩ (fun hHeld => ?_)
 clear hK K
 refine norm_ (a' := ?_) ?_ ?_
 rotate_left
 ·show Act.put _ (some 17) _ = _
  simp only [Act.put, zs, zz, zt, i64_w, i32_w]
  rfl
 refine pure_ (i := 12) (N := some 3) (v := ?_) (a' := ?_) #[true, true, true, true, true, true, true, true, true, true, true, true, true] rfl rfl (any_of HT_.out (by kernel_rfl)) (fun _ _ _ h => h) (Or.inl ⟨by rfl, ?_⟩) ?_ ?_
 rotate_left
 ·intro w'
  go_simp
  with_reducible rfl
 rotate_left
 ·simp only [Act.put, zs, zz, zt, i64_w, i32_w]
  rfl
 refine done_ (done_of HT_.out (by kernel_rfl)) ?_
 try go_wp2
 go_loopg [3, 4] k (fun kq v3 v4 w' => ∃ (x3_1 : List (S77)) (x4_1 : Int), v4 = .int .i64 x4_1 ∧ Aside0 (spec_l11All.l0 kq x3_1 x4_1 l0_0 l0_1 l0_2 l0_3 = some r) ∧ Aside0 (kq ≤ k) ∧ Aside0 (Kd.R k77 77 w' w.heap.size (fun _ => True) v3 x3_1) ∧ Aside0 (w'.heap[gb723]? = some (.cells #[(.slice A0_0 l0_0.length c0_0), (.slice A0_1 l0_1.length c0_1), (.slice A0_2 l0_2.length c0_2), (.slice A0_3 l0_3.length c0_3)] 26 (0, 0))) ∧ Aside0 (Below w.heap.size w w'))
 case atStart => exact ⟨(y727), (0), zr, H', ⟨Nat.le_refl _⟩, ⟨by (with_reducible repeat (first | apply Kd.R_alloc | apply Kd.R_drewN | apply Kd.R_drew)); exact Zo.out⟩, ⟨by (with_reducible repeat (first | refine blk_drewN ?_ _ | refine blk_drew ?_ | refine blk_alloc ?_ _)); exact Za.out⟩, ⟨zg_2 HB.out Zb.out⟩⟩
 case round =>
  clear H'
  try clear c2
  try clear p2
  try clear c5
  try clear c9
  obtain ⟨x3_1, x4_1, rfl, HA, HK1, Zc, Za, HB⟩ := hrel
  cases gk with
  | zero => exact absurd HA.out (by simp [spec_l11All.l0])
  | succ k1 =>
   have H := HA.out
   clear HA
   simp only [spec_l11All.l0] at H
   by_cases c12 : x4_1 < (l0_2.length : Int)
   ·rw [if_pos c12] at H
    have c12b0 : decide (x4_1 < (l0_2.length : Int)) = true := decide_eq_true c12
    clear c12
    by_cases c13 : 0 ≤ x4_1
    ·rw [if_pos c13] at H
     have c13b0 : decide (0 ≤ x4_1) = true := decide_eq_true c13
     clear c13
     replace H := Option.bind_eq_some_iff.mp H
     obtain ⟨t731, A140, H⟩ := H
     replace H : (if x3_1.length < 5864062014805 then (spec_l11All.l0 k1 (x3_1 ++ [(⟨wrap64 (12 + x4_1), t731⟩ : S77)]) (wrap64 (x4_1 + 1)) l0_0 l0_1 l0_2 l0_3) else (none)) = some r := H
     have A14 := zm A140
     clear A140
     by_cases c15 : x3_1.length < 5864062014805
     ·rw [if_pos c15] at H
      have LMc15 := zm c15
      clear c15
      obtain ⟨y732, hy732⟩ : ∃ y_ : List (S77), y_ = (x3_1 ++ [(⟨wrap64 (12 + x4_1), t731⟩ : S77)]) := ⟨_, rfl⟩
      replace H : (spec_l11All.l0 k1 y732 (wrap64 (x4_1 + 1)) l0_0 l0_1 l0_2 l0_3) = some r := by first | (rw [hy732]; with_reducible exact H) | (have H2_ := (Option.bind_some _ _).symm.trans H; rw [hy732]; with_reducible exact H2_) | (have H2_ := (Option.bind_some _ _).symm.trans H; with_reducible exact H2_) | with_reducible exact H | (rw [hy732]; exact H) | exact H
      have Ny732 := zm hy732
      clear hy732
      have H' := zm H
      clear H
      have hcz16_0 : wr.cell? ⟨gb723, 0, none⟩ = some (.slice A0_0 l0_0.length c0_0) := (blk_cell Za.out 0).trans rfl
      have hcz16_1 : wr.cell? ⟨gb723, 1, none⟩ = some (.slice A0_1 l0_1.length c0_1) := (blk_cell Za.out 1).trans rfl
      have hcz16_2 : wr.cell? ⟨gb723, 2, none⟩ = some (.slice A0_2 l0_2.length c0_2) := (blk_cell Za.out 2).trans rfl
      have hcz16_3 : wr.cell? ⟨gb723, 3, none⟩ = some (.slice A0_3 l0_3.length c0_3) := (blk_cell Za.out 3).trans rfl
      have hfz16_0 := blk_frozen Za.out 0
      have hfz16_1 := blk_frozen Za.out 1
      have hfz16_2 := blk_frozen Za.out 2
      have hfz16_3 := blk_frozen Za.out 3
      have p730 : 0 ≤ (x4_1 : Int) := zd
      have q730 : x4_1 < (l0_2.length : Int) := zd
      obtain ⟨ad730, A730_1, c730_1, e730, hx730_0, hx730_1, hl730_1, hi730_1⟩ := at_T103 Zk.out x4_1 p730 q730
      cases e730
      replace hx730_0 := (HB.out.cell (World.block_lt_of_cell? w _ hx730_0)).trans hx730_0
      replace hx730_1 := (HB.out.cell (World.block_lt_of_cell? w _ hx730_1)).trans hx730_1
      have Zf := zm hi730_1
      have Zg := zm hl730_1
      clear hi730_1 hl730_1
      replace p730 := eq_true p730
      replace q730 := eq_true q730
      go_wp2_with (first | ((with_reducible refine gate_callee (f := 95) rfl ?_); refine goesL_ (some 34) rfl rfl Tryz.func95 (by kernel_rfl) rfl #[.slice A730_1 ((rd_T103 l0_2 x4_1).f1).length c730_1] rfl zq ?_; (with_reducible refine (spec_l09Encode.calls k1 _ _ ((rd_T103 l0_2 x4_1).f1) t731 _ ?side1 ?side2 A14.out).mono ?_); (case side1 => exact zC (Kd.C_below Zf.out HB.out)); (case side2 => exact Zg.out); rintro e w17 ⟨rfl, hb⟩; refine ⟨_, rfl, ?_⟩; have n0_ := zm (Kd.R_below (zg_6 Zc.out) hb); have n1_ := zm (blk_below (g := gb723) (o := .cells #[.slice A0_0 l0_0.length c0_0, .slice A0_1 l0_1.length c0_1, .slice (some ad730) l0_2.length c0_2, .slice A0_3 l0_3.length c0_3] 26 (0, 0)) (zg_3 Za.out) hb); have n2_ := zm (below_step (zg_2 HB.out Zb.out) hb); clear Zc; clear Za; clear HB; have Zc := n0_; have Za := n1_; have HB := n2_; clear n0_ n1_ n2_; (try clear hb); (try clear hb2); (try clear hk); (try clear hi)) | ((with_reducible refine gate_builtin (b := .append) (xs := #[.tmp 25, .tmp 36]) rfl ?_); at_builtin; refine Kd.R_append k77 (w0 := w) w.heap.size rfl (.tmp 25) (.tmp 36) 49 77 (.agg #[(.int .i64 0), (.string ⟨#[]⟩)]) 24 rfl Tryz.underlying49 info77 rfl (by decide) (by omega) u3 x3_1 (⟨wrap64 (12 + x4_1), t731⟩ : S77) [.int .i64 (wrap64 (12 + x4_1)), .string t731] (fun _ => True) (fun _ => False) rfl rfl ?aP (fun _ hk => hk.elim) ?aF ?aO ?aB ?aS ?aL ?_; (case aP => exact k77_mkM _ _ _ (⟨wrap64 (12 + x4_1), t731⟩ : S77)); (case aB => exact (zg_2 HB.out Zb.out)); (case aF => exact (fun _ _ => trivial)); (case aO => exact (zg_6 Zc.out)); (case aS => exact (below_size (zg_2 HB.out Zb.out))); (case aL => have := LMc15.out; omega); intro v733 w18 ho hb hg hat; rw [← Ny732.out] at ho; have n0_ := zm (blk_grown (g := gb723) (o := .cells #[.slice A0_0 l0_0.length c0_0, .slice A0_1 l0_1.length c0_1, .slice (some ad730) l0_2.length c0_2, .slice A0_3 l0_3.length c0_3] 26 (0, 0)) (zg_3 Za.out) hg (Kd.R_ne Zc.out Za.out (by decide))); have n1_ := zm (hb); have n2_ := zm (ho); clear Za; clear HB; clear Zc; have Za := n0_; have HB := n1_; have Zp := n2_; clear n0_ n1_ n2_; clear ho hb hg hat))
      go_roundg k1
      case measure => have := HK1.out; omega
      case rel => exact ⟨(y732), (wrap64 (x4_1 + 1)), zr, H', ⟨by have := HK1.out; omega⟩, ⟨by (with_reducible repeat (first | apply Kd.R_alloc | apply Kd.R_drewN | apply Kd.R_drew)); exact Zp.out⟩, ⟨by (with_reducible repeat (first | refine blk_drewN ?_ _ | refine blk_drew ?_ | refine blk_alloc ?_ _)); exact Za.out⟩, ⟨zg_2 HB.out Zb.out⟩⟩
     ·rw [if_neg c15] at H
      exact absurd H (by simp)
    ·rw [if_neg c13] at H
     exact absurd H (by simp)
   ·rw [if_neg c12] at H
    have c12b0 : decide (x4_1 < (l0_2.length : Int)) = false := decide_eq_false c12
    clear c12
    have H' := zm H
    clear H
    have hcz19_0 : wr.cell? ⟨gb723, 0, none⟩ = some (.slice A0_0 l0_0.length c0_0) := (blk_cell Za.out 0).trans rfl
    have hcz19_1 : wr.cell? ⟨gb723, 1, none⟩ = some (.slice A0_1 l0_1.length c0_1) := (blk_cell Za.out 1).trans rfl
    have hcz19_2 : wr.cell? ⟨gb723, 2, none⟩ = some (.slice A0_2 l0_2.length c0_2) := (blk_cell Za.out 2).trans rfl
    have hcz19_3 : wr.cell? ⟨gb723, 3, none⟩ = some (.slice A0_3 l0_3.length c0_3) := (blk_cell Za.out 3).trans rfl
    have hfz19_0 := blk_frozen Za.out 0
    have hfz19_1 := blk_frozen Za.out 1
    have hfz19_2 := blk_frozen Za.out 2
    have hfz19_3 := blk_frozen Za.out 3
    go_wp2
    go_loopg [3, 5] k1 (fun kq v3 v5 w' => ∃ (x3_2 : List (S77)) (x5_2 : Int), v5 = .int .i64 x5_2 ∧ Aside0 (spec_l11All.l1 kq x3_2 x5_2 l0_0 l0_1 l0_2 l0_3 = some r) ∧ Aside0 (kq ≤ k1) ∧ Aside0 (Kd.R k77 77 w' w.heap.size (fun _ => True) v3 x3_2) ∧ Aside0 (w'.heap[gb723]? = some (.cells #[(.slice A0_0 l0_0.length c0_0), (.slice A0_1 l0_1.length c0_1), (.slice A0_2 l0_2.length c0_2), (.slice A0_3 l0_3.length c0_3)] 26 (0, 0))) ∧ Aside0 (Below w.heap.size w w'))
    case atStart => exact ⟨(x3_1), (0), zr, H', ⟨Nat.le_refl _⟩, ⟨by (with_reducible repeat (first | apply Kd.R_alloc | apply Kd.R_drewN | apply Kd.R_drew)); exact Zc.out⟩, ⟨by (with_reducible repeat (first | refine blk_drewN ?_ _ | refine blk_drew ?_ | refine blk_alloc ?_ _)); exact Za.out⟩, ⟨zg_2 HB.out Zb.out⟩⟩
    case round =>
     clear H'
     try clear c1
     try clear c2
     try clear p2
     try clear c5
     try clear p6
     try clear c7
     try clear p7
     try clear q7
     try clear hx7
     try clear c9
     try clear c12
     try clear c12b0
     try clear c13
     try clear c13b0
     try clear c15
     try clear hcz16_0
     try clear hcz16_1
     try clear hcz16_2
     try clear hcz16_3
     try clear hcz19_0
     try clear hcz19_1
     try clear hcz19_2
     try clear hcz19_3
     try clear hfz16_0
     try clear hfz16_1
     try clear hfz16_2
     try clear hfz16_3
     try clear hfz19_0
     try clear hfz19_1
     try clear hfz19_2
     try clear hfz19_3
     try clear hx730_0
     try clear hx730_1
     try clear p2
     try clear p730
     try clear q730
     obtain ⟨x3_2, x5_2, rfl, HA, HK2, Zc, Za, HB⟩ := hrel
     cases gk with
     | zero => exact absurd HA.out (by simp [spec_l11All.l1])
     | succ k2 =>
      have H := HA.out
      clear HA
      simp only [spec_l11All.l1] at H
      by_cases c20 : x5_2 < 24
      ·rw [if_pos c20] at H
       have c20b0 : decide (x5_2 < 24) = true := decide_eq_true c20
       clear c20
       by_cases c21 : 0 ≤ x5_2
       ·rw [if_pos c21] at H
        have c21b0 : decide (0 ≤ x5_2) = true := decide_eq_true c21
        clear c21
        by_cases c22 : x5_2 < (l0_0.length : Int)
        ·rw [if_pos c22] at H
         have c22b0 : decide (x5_2 < (l0_0.length : Int)) = true := decide_eq_true c22
         clear c22
         by_cases c23 : (rd l0_0 x5_2) > 0
         ·rw [if_pos c23] at H
          have c23b0 : decide (0 < (rd l0_0 x5_2)) = true := decide_eq_true c23
          clear c23
          by_cases c24 : x5_2 < (l0_3.length : Int)
          ·rw [if_pos c24] at H
           have c24b0 : decide (x5_2 < (l0_3.length : Int)) = true := decide_eq_true c24
           clear c24
           obtain ⟨y737, hy737⟩ : ∃ y_ : List Int, y_ = (([rd l0_3 x5_2] : List Int)) := ⟨_, rfl⟩
           replace H : ((spec_l02Seal.f k2 4 y737).bind fun t740 => (if x3_2.length < 5864062014805 then (spec_l11All.l1 k2 (x3_2 ++ [(⟨wrap64 (15 + x5_2), t740⟩ : S77)]) (wrap64 (x5_2 + 1)) l0_0 l0_1 l0_2 l0_3) else (none))) = some r := by first | (rw [hy737]; with_reducible exact H) | (have H2_ := (Option.bind_some _ _).symm.trans H; rw [hy737]; with_reducible exact H2_) | (have H2_ := (Option.bind_some _ _).symm.trans H; with_reducible exact H2_) | with_reducible exact H | (rw [hy737]; exact H) | exact H
           have Ny737 := zm hy737
           clear hy737
           replace H := Option.bind_eq_some_iff.mp H
           obtain ⟨t740, A250, H⟩ := H
           replace H : (if x3_2.length < 5864062014805 then (spec_l11All.l1 k2 (x3_2 ++ [(⟨wrap64 (15 + x5_2), t740⟩ : S77)]) (wrap64 (x5_2 + 1)) l0_0 l0_1 l0_2 l0_3) else (none)) = some r := H
           have A25 := zm A250
           clear A250
           by_cases c26 : x3_2.length < 5864062014805
           ·rw [if_pos c26] at H
            have LMc26 := zm c26
            clear c26
            obtain ⟨y741, hy741⟩ : ∃ y_ : List (S77), y_ = (x3_2 ++ [(⟨wrap64 (15 + x5_2), t740⟩ : S77)]) := ⟨_, rfl⟩
            replace H : (spec_l11All.l1 k2 y741 (wrap64 (x5_2 + 1)) l0_0 l0_1 l0_2 l0_3) = some r := by first | (rw [hy741]; with_reducible exact H) | (have H2_ := (Option.bind_some _ _).symm.trans H; rw [hy741]; with_reducible exact H2_) | (have H2_ := (Option.bind_some _ _).symm.trans H; with_reducible exact H2_) | with_reducible exact H | (rw [hy741]; exact H) | exact H
            have Ny741 := zm hy741
            clear hy741
            have H' := zm H
            clear H
            have hcz27_0 : wr.cell? ⟨gb723, 0, none⟩ = some (.slice A0_0 l0_0.length c0_0) := (blk_cell Za.out 0).trans rfl
            have hcz27_1 : wr.cell? ⟨gb723, 1, none⟩ = some (.slice A0_1 l0_1.length c0_1) := (blk_cell Za.out 1).trans rfl
            have hcz27_2 : wr.cell? ⟨gb723, 2, none⟩ = some (.slice A0_2 l0_2.length c0_2) := (blk_cell Za.out 2).trans rfl
            have hcz27_3 : wr.cell? ⟨gb723, 3, none⟩ = some (.slice A0_3 l0_3.length c0_3) := (blk_cell Za.out 3).trans rfl
            have hfz27_0 := blk_frozen Za.out 0
            have hfz27_1 := blk_frozen Za.out 1
            have hfz27_2 := blk_frozen Za.out 2
            have hfz27_3 := blk_frozen Za.out 3
            have p735 : 0 ≤ (x5_2 : Int) := zd
            have q735 : x5_2 < (l0_0.length : Int) := zd
            obtain ⟨ad735, e735, hx735_0⟩ := Kd.at_int Ze.out x5_2 p735 q735
            cases e735
            replace hx735_0 := (HB.out.cell (World.block_lt_of_cell? w _ hx735_0)).trans hx735_0
            replace p735 := eq_true p735
            replace q735 := eq_true q735
            have p736 : 0 ≤ (x5_2 : Int) := zd
            have q736 : x5_2 < (l0_3.length : Int) := zd
            obtain ⟨ad736, e736, hx736_0⟩ := Kd.at_int Zl.out x5_2 p736 q736
            cases e736
            replace hx736_0 := (HB.out.cell (World.block_lt_of_cell? w _ hx736_0)).trans hx736_0
            replace p736 := eq_true p736
            replace q736 := eq_true q736
            go_wp2_with (first | ((with_reducible refine gate_dst (N := 56) rfl ?_); refine Kd.R_lit (Kd.int .i64) _ 3 ?hg (N := 56) ?hd (xs := ([rd l0_3 x5_2] : List Int)) (inner := [.int .i64 (rd l0_3 x5_2)]) (ok := fun _ => True) (okp := fun _ => True) ?hr ?hp (fun _ hk => hk) trivial (Below.refl _ _) (Nat.le_refl _) (by simp) ?_; (case hd => rfl); (case hg => rfl); (case hr => first | (go_simp; done) | (go_simp; rfl)); (case hp => exact (Reps.one (show Kd.M (Kd.int .i64) _ _ _ (rd l0_3 x5_2) [.int .i64 (rd l0_3 x5_2)] from rfl) (Reps.none _ _))); intro v738 w28 ho29 hb hg_ hnew_; clear hg_ hnew_; (first | rw [← Ny737.out] at ho29 | (simp only [Int.reduceToNat] at ho29; rw [← Ny737.out] at ho29)); have n0_ := zm (Kd.R_below (zg_6 Zc.out) hb); have n1_ := zm (Kd.R_lower ho29 (below_size (zg_2 HB.out Zb.out))); have n2_ := zm (blk_below (g := gb723) (o := .cells #[.slice (some ad735) l0_0.length c0_0, .slice A0_1 l0_1.length c0_1, .slice A0_2 l0_2.length c0_2, .slice (some ad736) l0_3.length c0_3] 26 (0, 0)) (zg_3 Za.out) hb); have n3_ := zm (below_step (zg_2 HB.out Zb.out) hb); clear Zc; clear Za; clear HB; have Zc := n0_; have Zd := n1_; have Za := n2_; have HB := n3_; clear n0_ n1_ n2_ n3_; clear hb ho29; obtain ⟨Ao30, co30, eo30⟩ := Kd.R_slice Zd.out; subst eo30) | ((with_reducible refine gate_callee (f := 96) rfl ?_); refine goesL_ (some 57) rfl rfl Tryz.func96 (by kernel_rfl) rfl #[.int .i64 4, .slice Ao30 y737.length co30] rfl zq ?_; (with_reducible refine (spec_l02Seal.calls k2 4 _ _ y737 t740 _ ?side1 ?side2 A25.out).mono ?_); (case side1 => exact zC ((Kd.R_reads' Zd.out).2.2)); (case side2 => exact (Kd.R_reads' Zd.out).2.1); rintro e w31 ⟨rfl, hb⟩; refine ⟨_, rfl, ?_⟩; have n0_ := zm (Kd.R_below (zg_6 Zc.out) hb); have n1_ := zm (Kd.R_below (zg_6 Zd.out) hb); have n2_ := zm (blk_below (g := gb723) (o := .cells #[.slice (some ad735) l0_0.length c0_0, .slice A0_1 l0_1.length c0_1, .slice A0_2 l0_2.length c0_2, .slice (some ad736) l0_3.length c0_3] 26 (0, 0)) (zg_3 Za.out) hb); have n3_ := zm (below_step (zg_2 HB.out Zb.out) hb); clear Zc; clear Zd; clear Za; clear HB; have Zc := n0_; have Zd := n1_; have Za := n2_; have HB := n3_; clear n0_ n1_ n2_ n3_; (try clear hb); (try clear hb2); (try clear hk); (try clear hi)) | ((with_reducible refine gate_builtin (b := .append) (xs := #[.tmp 48, .tmp 59]) rfl ?_); at_builtin; refine Kd.R_append k77 (w0 := w) w.heap.size rfl (.tmp 48) (.tmp 59) 49 77 (.agg #[(.int .i64 0), (.string ⟨#[]⟩)]) 24 rfl Tryz.underlying49 info77 rfl (by decide) (by omega) u3 x3_2 (⟨wrap64 (15 + x5_2), t740⟩ : S77) [.int .i64 (wrap64 (15 + x5_2)), .string t740] (fun _ => True) (fun _ => False) rfl rfl ?aP (fun _ hk => hk.elim) ?aF ?aO ?aB ?aS ?aL ?_; (case aP => exact k77_mkM _ _ _ (⟨wrap64 (15 + x5_2), t740⟩ : S77)); (case aB => exact (zg_2 HB.out Zb.out)); (case aF => exact (fun _ _ => trivial)); (case aO => exact (zg_6 Zc.out)); (case aS => exact (below_size (zg_2 HB.out Zb.out))); (case aL => have := LMc26.out; omega); intro v742 w32 ho hb hg hat; rw [← Ny741.out] at ho; have n0_ := zm (blk_grown (g := gb723) (o := .cells #[.slice (some ad735) l0_0.length c0_0, .slice A0_1 l0_1.length c0_1, .slice A0_2 l0_2.length c0_2, .slice (some ad736) l0_3.length c0_3] 26 (0, 0)) (zg_3 Za.out) hg (Kd.R_ne Zc.out Za.out (by decide))); have n1_ := zm (Kd.R_over' (zg_6 Zd.out) (Kd.R_typed (zg_6 Zc.out)) (by decide) hg); have n2_ := zm (hb); have n3_ := zm (ho); clear Za; clear Zd; clear HB; clear Zc; have Za := n0_; have Zd := n1_; have HB := n2_; have Zq := n3_; clear n0_ n1_ n2_ n3_; clear ho hb hg hat))
            go_roundg k2
            case measure => have := HK1.out; have := HK2.out; omega
            case rel => exact ⟨(y741), (wrap64 (x5_2 + 1)), zr, H', ⟨by have := HK1.out; have := HK2.out; omega⟩, ⟨by (with_reducible repeat (first | apply Kd.R_alloc | apply Kd.R_drewN | apply Kd.R_drew)); exact Zq.out⟩, ⟨by (with_reducible repeat (first | refine blk_drewN ?_ _ | refine blk_drew ?_ | refine blk_alloc ?_ _)); exact Za.out⟩, ⟨zg_2 HB.out Zb.out⟩⟩
           ·rw [if_neg c26] at H
            exact absurd H (by simp)
          ·rw [if_neg c24] at H
           exact absurd H (by simp)
         ·rw [if_neg c23] at H
          have c23b0 : decide (0 < (rd l0_0 x5_2)) = false := decide_eq_false c23
          clear c23
          have H' := zm H
          clear H
          have hcz33_0 : wr.cell? ⟨gb723, 0, none⟩ = some (.slice A0_0 l0_0.length c0_0) := (blk_cell Za.out 0).trans rfl
          have hcz33_1 : wr.cell? ⟨gb723, 1, none⟩ = some (.slice A0_1 l0_1.length c0_1) := (blk_cell Za.out 1).trans rfl
          have hcz33_2 : wr.cell? ⟨gb723, 2, none⟩ = some (.slice A0_2 l0_2.length c0_2) := (blk_cell Za.out 2).trans rfl
          have hcz33_3 : wr.cell? ⟨gb723, 3, none⟩ = some (.slice A0_3 l0_3.length c0_3) := (blk_cell Za.out 3).trans rfl
          have hfz33_0 := blk_frozen Za.out 0
          have hfz33_1 := blk_frozen Za.out 1
          have hfz33_2 := blk_frozen Za.out 2
          have hfz33_3 := blk_frozen Za.out 3
          have p735 : 0 ≤ (x5_2 : Int) := zd
          have q735 : x5_2 < (l0_0.length : Int) := zd
          obtain ⟨ad735, e735, hx735_0⟩ := Kd.at_int Ze.out x5_2 p735 q735
          cases e735
          replace hx735_0 := (HB.out.cell (World.block_lt_of_cell? w _ hx735_0)).trans hx735_0
          replace p735 := eq_true p735
          replace q735 := eq_true q735
          go_wp2
          go_roundg k2
          case measure => have := HK1.out; have := HK2.out; omega
          case rel => exact ⟨(x3_2), (wrap64 (x5_2 + 1)), zr, H', ⟨by have := HK1.out; have := HK2.out; omega⟩, ⟨by (with_reducible repeat (first | apply Kd.R_alloc | apply Kd.R_drewN | apply Kd.R_drew)); exact Zc.out⟩, ⟨by (with_reducible repeat (first | refine blk_drewN ?_ _ | refine blk_drew ?_ | refine blk_alloc ?_ _)); exact Za.out⟩, ⟨zg_2 HB.out Zb.out⟩⟩
        ·rw [if_neg c22] at H
         exact absurd H (by simp)
       ·rw [if_neg c21] at H
        exact absurd H (by simp)
      ·rw [if_neg c20] at H
       have c20b0 : decide (x5_2 < 24) = false := decide_eq_false c20
       clear c20
       obtain rfl := Option.some.inj H
       go_wp2
       go_ret
       exact ⟨_, by first | rfl | (simp [errW_none, errW_some] <;> rfl) | (simp [*, errW_none, errW_some] <;> rfl), by (with_reducible repeat (first | apply Kd.R_alloc | apply Kd.R_drewN | apply Kd.R_drew)); exact Zc.out, zg_2 HB.out Zb.out⟩
/-! ### spec_ImageUpdates: function 23 -/
def spec_ImageUpdates.f (k : Nat) (l0_0 : List Int) (l0_1 : List Int) (l0_2 : List (S103)) (l0_3 : List Int) : Option ((List (S77)) × Int) := (spec_ImageOK.f k l0_0 l0_1 l0_2 l0_3).bind fun t745 => (if t745 = true then ((spec_l11All.f k l0_0 l0_1 l0_2 l0_3).bind fun t746 => (some (t746, 0))) else (some ((([] : List (S77))), 1)))
theorem spec_ImageUpdates.mono : ∀ a0 a1 a2 a3 k, LeO (spec_ImageUpdates.f k a0 a1 a2 a3) (spec_ImageUpdates.f (k + 1) a0 a1 a2 a3) := by
  intro a0 a1 a2 a3 k
  unfold spec_ImageUpdates.f
  repeat' first
      | (with_reducible exact spec_ImageOK.mono _ _ _ _ _)
      | (with_reducible exact spec_l11All.mono _ _ _ _ _)
      | (with_reducible exact LeO.refl _)
      | (with_reducible exact LeO.none _)
      | (with_reducible refine LeO.ite ?_ ?_)
      | (with_reducible refine LeO.bind ?_ (fun _ => ?_))
      | exact spec_ImageOK.mono _ _ _ _ _
      | exact spec_l11All.mono _ _ _ _ _
      | exact LeO.none _
      | refine LeO.ite ?_ ?_
      | refine LeO.bind ?_ (fun _ => ?_)
set_option maxHeartbeats 8000000 in
set_option maxRecDepth 100000 in
theorem spec_ImageUpdates.calls (k : Nat) (A0_0 : Option Addr) (c0_0 : Nat) (l0_0 : List Int) (A0_1 : Option Addr) (c0_1 : Nat) (l0_1 : List Int) (A0_2 : Option Addr) (c0_2 : Nat) (l0_2 : List (S103)) (A0_3 : Option Addr) (c0_3 : Nat) (l0_3 : List Int) (r1 : List (S77)) (r2 : Int) (w : World) (hr0_0 : Kd.C (Kd.int .i64) w A0_0 l0_0.length l0_0) (hc0_0 : l0_0.length ≤ c0_0) (hr0_1 : Kd.C (Kd.int .i64) w A0_1 l0_1.length l0_1) (hc0_1 : l0_1.length ≤ c0_1) (hr0_2 : Kd.C k103 w A0_2 l0_2.length l0_2) (hc0_2 : l0_2.length ≤ c0_2) (hr0_3 : Kd.C (Kd.int .i64) w A0_3 l0_3.length l0_3) (hc0_3 : l0_3.length ≤ c0_3) (h : spec_ImageUpdates.f k l0_0 l0_1 l0_2 l0_3 = some (r1, r2)) :
    Calls Tryz.prog 23 #[.agg #[.slice A0_0 l0_0.length c0_0, .slice A0_1 l0_1.length c0_1, .slice A0_2 l0_2.length c0_2, .slice A0_3 l0_3.length c0_3]] w fun e w' => ∃ v0_ : Value, e = .returned (.tuple #[v0_, .int .i64 r2]) ∧ Kd.R k77 77 w' w.heap.size (fun _ => True) v0_ r1 ∧ Below w.heap.size w w' := by
 have hu26 := Tryz.underlying26
 have Zc := zm hr0_0
 have Zd := zm hc0_0
 clear hr0_0 hc0_0
 have Ze := zm hr0_1
 have Zf := zm hc0_1
 clear hr0_1 hc0_1
 have Zg := zm hr0_2
 have Zh := zm hc0_2
 clear hr0_2 hc0_2
 have Zi := zm hr0_3
 have Zj := zm hc0_3
 clear hr0_3 hc0_3
 have HB := zm (Below.refl w.heap.size w)
 have H : ((spec_ImageOK.f k l0_0 l0_1 l0_2 l0_3).bind fun t745 => (if t745 = true then ((spec_l11All.f k l0_0 l0_1 l0_2 l0_3).bind fun t746 => (some (t746, 0))) else (some ((([] : List (S77))), 1)))) = some (r1, r2) := h
 clear h
 replace H := Option.bind_eq_some_iff.mp H
 obtain ⟨t745, A20, H⟩ := H
 replace H : (if t745 = true then ((spec_l11All.f k l0_0 l0_1 l0_2 l0_3).bind fun t746 => (some (t746, 0))) else (some ((([] : List (S77))), 1))) = some (r1, r2) := H
 have A2 := zm A20
 clear A20
 by_cases c3 : t745 = true
 ·subst c3
  have H1 : ((spec_l11All.f k l0_0 l0_1 l0_2 l0_3).bind fun t746 => (some (t746, 0))) = some (r1, r2) := by rw [if_pos rfl] at H; exact H
  clear H
  have H := H1
  clear H1
  replace H := Option.bind_eq_some_iff.mp H
  obtain ⟨t746, A40, H⟩ := H
  replace H : (some (t746, 0)) = some (r1, r2) := H
  have A4 := zm A40
  clear A40
  simp only [Option.some.injEq, Prod.mk.injEq] at H
  obtain ⟨rfl, rfl⟩ := H
  go_enter Tryz.func23, Tryz.ntmps23
  go_wp2_with (first | ((with_reducible refine gate_dst (N := 1) rfl ?_); refine box_event ?hg (N := 1) ?hd (cs := #[.slice A0_0 l0_0.length c0_0, .slice A0_1 l0_1.length c0_1, .slice A0_2 l0_2.length c0_2, .slice A0_3 l0_3.length c0_3]) (t := 26) ?hr ?_; (case hd => rfl); (case hg => rfl); (case hr => first | (go_simp; done) | (go_simp; rfl)); intro gb744 hg w5 hbox hb; have n0_ := zm (below_step (zg_1 HB.out) hb); have n1_ := zm (hbox); have n2_ := zm ((by rw [hg]; exact (below_size (zg_1 HB.out)) : w.heap.size ≤ gb744)); have n3_ := zm ((by rw [hg]; exact (below_size (zg_1 HB.out)) : w.heap.size ≤ gb744)); clear HB; have HB := n0_; have Za := n1_; have Zk := n2_; have Zb := n3_; clear n0_ n1_ n2_ n3_; clear hb hbox hg; have hcz6_0 : w5.cell? ⟨gb744, 0, none⟩ = some (.slice A0_0 l0_0.length c0_0) := (blk_cell Za.out 0).trans rfl; have hcz6_1 : w5.cell? ⟨gb744, 1, none⟩ = some (.slice A0_1 l0_1.length c0_1) := (blk_cell Za.out 1).trans rfl; have hcz6_2 : w5.cell? ⟨gb744, 2, none⟩ = some (.slice A0_2 l0_2.length c0_2) := (blk_cell Za.out 2).trans rfl; have hcz6_3 : w5.cell? ⟨gb744, 3, none⟩ = some (.slice A0_3 l0_3.length c0_3) := (blk_cell Za.out 3).trans rfl; have hfz6_0 := blk_frozen Za.out 0; have hfz6_1 := blk_frozen Za.out 1; have hfz6_2 := blk_frozen Za.out 2; have hfz6_3 := blk_frozen Za.out 3) | ((with_reducible refine gate_callee (f := 40) rfl ?_); refine goesL_ (some 5) rfl rfl Tryz.func40 (by kernel_rfl) rfl #[.agg #[.slice A0_0 l0_0.length c0_0, .slice A0_1 l0_1.length c0_1, .slice A0_2 l0_2.length c0_2, .slice A0_3 l0_3.length c0_3]] rfl zq ?_; (with_reducible refine (spec_ImageOK.calls k _ _ l0_0 _ _ l0_1 _ _ l0_2 _ _ l0_3 true _ ?side1 ?side2 ?side3 ?side4 ?side5 ?side6 ?side7 ?side8 A2.out).mono ?_); (case side1 => exact zC (Kd.C_below Zc.out HB.out)); (case side2 => exact Zd.out); (case side3 => exact zC (Kd.C_below Ze.out HB.out)); (case side4 => exact Zf.out); (case side5 => exact zC (Kd.C_below Zg.out HB.out)); (case side6 => exact Zh.out); (case side7 => exact zC (Kd.C_below Zi.out HB.out)); (case side8 => exact Zj.out); rintro e w7 ⟨rfl, hb⟩; refine ⟨_, rfl, ?_⟩; have n0_ := zm (blk_below (g := gb744) (o := .cells #[.slice A0_0 l0_0.length c0_0, .slice A0_1 l0_1.length c0_1, .slice A0_2 l0_2.length c0_2, .slice A0_3 l0_3.length c0_3] 26 (0, 0)) (zg_3 Za.out) hb); have n1_ := zm (below_step (zg_2 HB.out Zb.out) hb); clear Za; clear HB; have Za := n0_; have HB := n1_; clear n0_ n1_; (try clear hb); (try clear hb2); (try clear hk); (try clear hi); have hcz8_0 : w7.cell? ⟨gb744, 0, none⟩ = some (.slice A0_0 l0_0.length c0_0) := (blk_cell Za.out 0).trans rfl; have hcz8_1 : w7.cell? ⟨gb744, 1, none⟩ = some (.slice A0_1 l0_1.length c0_1) := (blk_cell Za.out 1).trans rfl; have hcz8_2 : w7.cell? ⟨gb744, 2, none⟩ = some (.slice A0_2 l0_2.length c0_2) := (blk_cell Za.out 2).trans rfl; have hcz8_3 : w7.cell? ⟨gb744, 3, none⟩ = some (.slice A0_3 l0_3.length c0_3) := (blk_cell Za.out 3).trans rfl; have hfz8_0 := blk_frozen Za.out 0; have hfz8_1 := blk_frozen Za.out 1; have hfz8_2 := blk_frozen Za.out 2; have hfz8_3 := blk_frozen Za.out 3) | ((with_reducible refine gate_callee (f := 53) rfl ?_); refine goesL_ (some 9) rfl rfl Tryz.func53 (by kernel_rfl) rfl #[.agg #[.slice A0_0 l0_0.length c0_0, .slice A0_1 l0_1.length c0_1, .slice A0_2 l0_2.length c0_2, .slice A0_3 l0_3.length c0_3]] rfl zq ?_; (with_reducible refine (spec_l11All.calls k _ _ l0_0 _ _ l0_1 _ _ l0_2 _ _ l0_3 t746 _ ?side1 ?side2 ?side3 ?side4 ?side5 ?side6 ?side7 ?side8 A4.out).mono ?_); (case side1 => exact zC (Kd.C_below Zc.out HB.out)); (case side2 => exact Zd.out); (case side3 => exact zC (Kd.C_below Ze.out HB.out)); (case side4 => exact Zf.out); (case side5 => exact zC (Kd.C_below Zg.out HB.out)); (case side6 => exact Zh.out); (case side7 => exact zC (Kd.C_below Zi.out HB.out)); (case side8 => exact Zj.out); rintro e w9 ⟨v747, rfl, ho0, hb⟩; refine ⟨_, rfl, ?_⟩; have n0_ := zm (Kd.R_lower ho0 (below_size (zg_2 HB.out Zb.out))); have n1_ := zm (blk_below (g := gb744) (o := .cells #[.slice A0_0 l0_0.length c0_0, .slice A0_1 l0_1.length c0_1, .slice A0_2 l0_2.length c0_2, .slice A0_3 l0_3.length c0_3] 26 (0, 0)) (zg_3 Za.out) hb); have n2_ := zm (below_step (zg_2 HB.out Zb.out) hb); clear Za; clear HB; have Zl := n0_; have Za := n1_; have HB := n2_; clear n0_ n1_ n2_; (try clear hb); (try clear hb2); (try clear hk); (try clear hi); (try clear ho0)))
  go_ret2
  exact ⟨_, by first | rfl | (simp [errW_none, errW_some] <;> rfl) | (simp [*, errW_none, errW_some] <;> rfl), by (with_reducible repeat (first | apply Kd.R_alloc | apply Kd.R_drewN | apply Kd.R_drew)); exact Zl.out, zg_2 HB.out Zb.out⟩
 ·replace c3 := Bool.eq_false_iff.mpr c3
  subst c3
  have H1 : (some ((([] : List (S77))), 1)) = some (r1, r2) := by rw [if_neg (show ¬ (false = true) by decide)] at H; exact H
  clear H
  have H := H1
  clear H1
  obtain ⟨y749, hy749⟩ : ∃ y_ : List (S77), y_ = (([] : List (S77))) := ⟨_, rfl⟩
  replace H : (some (y749, 1)) = some (r1, r2) := by first | (rw [hy749]; with_reducible exact H) | (have H2_ := (Option.bind_some _ _).symm.trans H; rw [hy749]; with_reducible exact H2_) | (have H2_ := (Option.bind_some _ _).symm.trans H; with_reducible exact H2_) | with_reducible exact H | (rw [hy749]; exact H) | exact H
  have Ny749 := zm hy749
  clear hy749
  simp only [Option.some.injEq, Prod.mk.injEq] at H
  obtain ⟨rfl, rfl⟩ := H
  go_enter Tryz.func23, Tryz.ntmps23
  go_wp2_with (first | ((with_reducible refine gate_dst (N := 1) rfl ?_); refine box_event ?hg (N := 1) ?hd (cs := #[.slice A0_0 l0_0.length c0_0, .slice A0_1 l0_1.length c0_1, .slice A0_2 l0_2.length c0_2, .slice A0_3 l0_3.length c0_3]) (t := 26) ?hr ?_; (case hd => rfl); (case hg => rfl); (case hr => first | (go_simp; done) | (go_simp; rfl)); intro gb744 hg w10 hbox hb; have n0_ := zm (below_step (zg_1 HB.out) hb); have n1_ := zm (hbox); have n2_ := zm ((by rw [hg]; exact (below_size (zg_1 HB.out)) : w.heap.size ≤ gb744)); have n3_ := zm ((by rw [hg]; exact (below_size (zg_1 HB.out)) : w.heap.size ≤ gb744)); clear HB; have HB := n0_; have Za := n1_; have Zk := n2_; have Zb := n3_; clear n0_ n1_ n2_ n3_; clear hb hbox hg; have hcz11_0 : w10.cell? ⟨gb744, 0, none⟩ = some (.slice A0_0 l0_0.length c0_0) := (blk_cell Za.out 0).trans rfl; have hcz11_1 : w10.cell? ⟨gb744, 1, none⟩ = some (.slice A0_1 l0_1.length c0_1) := (blk_cell Za.out 1).trans rfl; have hcz11_2 : w10.cell? ⟨gb744, 2, none⟩ = some (.slice A0_2 l0_2.length c0_2) := (blk_cell Za.out 2).trans rfl; have hcz11_3 : w10.cell? ⟨gb744, 3, none⟩ = some (.slice A0_3 l0_3.length c0_3) := (blk_cell Za.out 3).trans rfl; have hfz11_0 := blk_frozen Za.out 0; have hfz11_1 := blk_frozen Za.out 1; have hfz11_2 := blk_frozen Za.out 2; have hfz11_3 := blk_frozen Za.out 3) | ((with_reducible refine gate_callee (f := 40) rfl ?_); refine goesL_ (some 5) rfl rfl Tryz.func40 (by kernel_rfl) rfl #[.agg #[.slice A0_0 l0_0.length c0_0, .slice A0_1 l0_1.length c0_1, .slice A0_2 l0_2.length c0_2, .slice A0_3 l0_3.length c0_3]] rfl zq ?_; (with_reducible refine (spec_ImageOK.calls k _ _ l0_0 _ _ l0_1 _ _ l0_2 _ _ l0_3 false _ ?side1 ?side2 ?side3 ?side4 ?side5 ?side6 ?side7 ?side8 A2.out).mono ?_); (case side1 => exact zC (Kd.C_below Zc.out HB.out)); (case side2 => exact Zd.out); (case side3 => exact zC (Kd.C_below Ze.out HB.out)); (case side4 => exact Zf.out); (case side5 => exact zC (Kd.C_below Zg.out HB.out)); (case side6 => exact Zh.out); (case side7 => exact zC (Kd.C_below Zi.out HB.out)); (case side8 => exact Zj.out); rintro e w12 ⟨rfl, hb⟩; refine ⟨_, rfl, ?_⟩; have n0_ := zm (blk_below (g := gb744) (o := .cells #[.slice A0_0 l0_0.length c0_0, .slice A0_1 l0_1.length c0_1, .slice A0_2 l0_2.length c0_2, .slice A0_3 l0_3.length c0_3] 26 (0, 0)) (zg_3 Za.out) hb); have n1_ := zm (below_step (zg_2 HB.out Zb.out) hb); clear Za; clear HB; have Za := n0_; have HB := n1_; clear n0_ n1_; (try clear hb); (try clear hb2); (try clear hk); (try clear hi)) | ((with_reducible refine gate_dst (N := 7) rfl ?_); refine Kd.R_lit k77 _ 77 ?hg (N := 7) ?hd (xs := ([] : List (S77))) (inner := []) (ok := fun _ => True) (okp := fun _ => True) ?hr ?hp (fun _ hk => hk) trivial (Below.refl _ _) (Nat.le_refl _) (by simp) ?_; (case hd => rfl); (case hg => rfl); (case hr => first | (go_simp; done) | (go_simp; rfl)); (case hp => exact (Reps.none _ _)); intro v750 w13 ho14 hb hg_ hnew_; clear hg_ hnew_; (first | rw [← Ny749.out] at ho14 | (simp only [Int.reduceToNat] at ho14; rw [← Ny749.out] at ho14)); have n0_ := zm (Kd.R_lower ho14 (below_size (zg_2 HB.out Zb.out))); have n1_ := zm (blk_below (g := gb744) (o := .cells #[.slice A0_0 l0_0.length c0_0, .slice A0_1 l0_1.length c0_1, .slice A0_2 l0_2.length c0_2, .slice A0_3 l0_3.length c0_3] 26 (0, 0)) (zg_3 Za.out) hb); have n2_ := zm (below_step (zg_2 HB.out Zb.out) hb); clear Za; clear HB; have Zm := n0_; have Za := n1_; have HB := n2_; clear n0_ n1_ n2_; clear hb ho14))
  go_ret2
  exact ⟨_, by first | rfl | (simp [errW_none, errW_some] <;> rfl) | (simp [*, errW_none, errW_some] <;> rfl), by (with_reducible repeat (first | apply Kd.R_alloc | apply Kd.R_drewN | apply Kd.R_drew)); exact Zm.out, zg_2 HB.out Zb.out⟩
section
attribute [local go_sem high] eqA77
/-! ### laws_FnExactImageUpdates: function 5 -/
def laws_FnExactImageUpdates.f (k : Nat) (l0_0 : List Int) (l0_1 : List Int) (l0_2 : List (S102)) (l0_3 : List Int) : Option (Bool) := (laws_szImage.f k l0_0 l0_1 l0_2 l0_3 1048576).bind fun t821 => (if t821 < 0 then (some true) else ((laws_toImage.f k l0_0 l0_1 l0_2 l0_3).bind fun bt822 => ((spec_ImageUpdates.f k bt822.1 bt822.2.1 bt822.2.2.1 bt822.2.2.2).bind fun bt834 => ((laws_toImage.f k l0_0 l0_1 l0_2 l0_3).bind fun bt838 => ((impl_ImageUpdates.f k bt838.1 bt838.2.1 bt838.2.2.1 bt838.2.2.2).bind fun bt851 => ((laws_eqUpdateS.f k bt851.1 bt834.1).bind fun t855 => (if t855 = true then (if bt851.2 = bt834.2 then ((laws_toImage.f k l0_0 l0_1 l0_2 l0_3).bind fun bt856 => ((laws_eqImage.f k bt838.1 bt838.2.1 bt838.2.2.1 bt838.2.2.2 bt856.1 bt856.2.1 bt856.2.2.1 bt856.2.2.2).bind fun t868 => (if t868 = true then ((laws_markImage.f k bt838.1 bt838.2.1 bt838.2.2.1 bt838.2.2.2 1).bind fun t869 => (if t869 < 0 then (some false) else ((laws_eqUpdateS.f k bt851.1 bt834.1).bind fun t870 => (if t870 = true then ((laws_markUpdateS.f k bt851.1 1).bind fun bt871 => ((laws_heldUpdateS.f k bt871.2 1).bind fun t873 => (if t873 < 0 then (some false) else (if t873 = bt871.1 then ((laws_toImage.f k l0_0 l0_1 l0_2 l0_3).bind fun bt874 => ((impl_ImageUpdates.f k bt874.1 bt874.2.1 bt874.2.2.1 bt874.2.2.2).bind fun bt886 => ((laws_eqUpdateS.f k bt886.1 bt834.1).bind fun t890 => (if t890 = true then (if bt886.2 = bt834.2 then ((laws_heldUpdateS.f k bt871.2 1).bind fun t891 => (if t891 < 0 then (some false) else (if t891 = bt871.1 then (some true) else (some false)))) else (some false)) else (some false))))) else (some false))))) else (some false))))) else (some false)))) else (some false)) else (some false))))))))
theorem laws_FnExactImageUpdates.mono : ∀ a0 a1 a2 a3 k, LeO (laws_FnExactImageUpdates.f k a0 a1 a2 a3) (laws_FnExactImageUpdates.f (k + 1) a0 a1 a2 a3) := by
  intro a0 a1 a2 a3 k
  unfold laws_FnExactImageUpdates.f
  repeat' first
      | (with_reducible exact impl_ImageUpdates.mono _ _ _ _ _)
      | (with_reducible exact laws_eqImage.mono _ _ _ _ _ _ _ _ _)
      | (with_reducible exact laws_eqUpdateS.mono _ _ _)
      | (with_reducible exact laws_heldUpdateS.mono _ _ _)
      | (with_reducible exact laws_markImage.mono _ _ _ _ _ _)
      | (with_reducible exact laws_markUpdateS.mono _ _ _)
      | (with_reducible exact laws_szImage.mono _ _ _ _ _ _)
      | (with_reducible exact laws_toImage.mono _ _ _ _ _)
      | (with_reducible exact spec_ImageUpdates.mono _ _ _ _ _)
      | (with_reducible exact LeO.refl _)
      | (with_reducible exact LeO.none _)
      | (with_reducible refine LeO.ite ?_ ?_)
      | (with_reducible refine LeO.bind ?_ (fun _ => ?_))
      | exact impl_ImageUpdates.mono _ _ _ _ _
      | exact laws_eqImage.mono _ _ _ _ _ _ _ _ _
      | exact laws_eqUpdateS.mono _ _ _
      | exact laws_heldUpdateS.mono _ _ _
      | exact laws_markImage.mono _ _ _ _ _ _
      | exact laws_markUpdateS.mono _ _ _
      | exact laws_szImage.mono _ _ _ _ _ _
      | exact laws_toImage.mono _ _ _ _ _
      | exact spec_ImageUpdates.mono _ _ _ _ _
      | exact LeO.none _
      | refine LeO.ite ?_ ?_
      | refine LeO.bind ?_ (fun _ => ?_)
set_option maxHeartbeats 8000000 in
set_option maxRecDepth 100000 in
theorem laws_FnExactImageUpdates.calls (k : Nat) (A0_0 : Option Addr) (c0_0 : Nat) (l0_0 : List Int) (A0_1 : Option Addr) (c0_1 : Nat) (l0_1 : List Int) (A0_2 : Option Addr) (c0_2 : Nat) (l0_2 : List (S102)) (A0_3 : Option Addr) (c0_3 : Nat) (l0_3 : List Int) (r : Bool) (w : World) (hr0_0 : Kd.C (Kd.int .i64) w A0_0 l0_0.length l0_0) (hc0_0 : l0_0.length ≤ c0_0) (hr0_1 : Kd.C (Kd.int .i64) w A0_1 l0_1.length l0_1) (hc0_1 : l0_1.length ≤ c0_1) (hr0_2 : Kd.C k102 w A0_2 l0_2.length l0_2) (hc0_2 : l0_2.length ≤ c0_2) (hr0_3 : Kd.C (Kd.int .i64) w A0_3 l0_3.length l0_3) (hc0_3 : l0_3.length ≤ c0_3) (h : laws_FnExactImageUpdates.f k l0_0 l0_1 l0_2 l0_3 = some r) (hr_ : Aside0 (r = true)) :
    Calls Tryz.prog 5 #[.agg #[.slice A0_0 l0_0.length c0_0, .slice A0_1 l0_1.length c0_1, .slice A0_2 l0_2.length c0_2, .slice A0_3 l0_3.length c0_3]] w fun e w' => e = .returned (.bool r) ∧ Below w.heap.size w w' := by
 have hu36 := Tryz.underlying36
 have hu26 := Tryz.underlying26
 have Zp := zm hr0_0
 have Zq := zm hc0_0
 clear hr0_0 hc0_0
 have Zr := zm hr0_1
 have Zs := zm hc0_1
 clear hr0_1 hc0_1
 have Zt := zm hr0_2
 have Zu := zm hc0_2
 clear hr0_2 hc0_2
 have Zv := zm hr0_3
 have Zw := zm hc0_3
 clear hr0_3 hc0_3
 have HB := zm (Below.refl w.heap.size w)
 have H : ((laws_szImage.f k l0_0 l0_1 l0_2 l0_3 1048576).bind fun t821 => (if t821 < 0 then (some true) else ((laws_toImage.f k l0_0 l0_1 l0_2 l0_3).bind fun bt822 => ((spec_ImageUpdates.f k bt822.1 bt822.2.1 bt822.2.2.1 bt822.2.2.2).bind fun bt834 => ((laws_toImage.f k l0_0 l0_1 l0_2 l0_3).bind fun bt838 => ((impl_ImageUpdates.f k bt838.1 bt838.2.1 bt838.2.2.1 bt838.2.2.2).bind fun bt851 => ((laws_eqUpdateS.f k bt851.1 bt834.1).bind fun t855 => (if t855 = true then (if bt851.2 = bt834.2 then ((laws_toImage.f k l0_0 l0_1 l0_2 l0_3).bind fun bt856 => ((laws_eqImage.f k bt838.1 bt838.2.1 bt838.2.2.1 bt838.2.2.2 bt856.1 bt856.2.1 bt856.2.2.1 bt856.2.2.2).bind fun t868 => (if t868 = true then ((laws_markImage.f k bt838.1 bt838.2.1 bt838.2.2.1 bt838.2.2.2 1).bind fun t869 => (if t869 < 0 then (some false) else ((laws_eqUpdateS.f k bt851.1 bt834.1).bind fun t870 => (if t870 = true then ((laws_markUpdateS.f k bt851.1 1).bind fun bt871 => ((laws_heldUpdateS.f k bt871.2 1).bind fun t873 => (if t873 < 0 then (some false) else (if t873 = bt871.1 then ((laws_toImage.f k l0_0 l0_1 l0_2 l0_3).bind fun bt874 => ((impl_ImageUpdates.f k bt874.1 bt874.2.1 bt874.2.2.1 bt874.2.2.2).bind fun bt886 => ((laws_eqUpdateS.f k bt886.1 bt834.1).bind fun t890 => (if t890 = true then (if bt886.2 = bt834.2 then ((laws_heldUpdateS.f k bt871.2 1).bind fun t891 => (if t891 < 0 then (some false) else (if t891 = bt871.1 then (some true) else (some false)))) else (some false)) else (some false))))) else (some false))))) else (some false))))) else (some false)))) else (some false)) else (some false))))))))) = some r := h
 clear h
 replace H := Option.bind_eq_some_iff.mp H
 obtain ⟨t821, A20, H⟩ := H
 replace H : (if t821 < 0 then (some true) else ((laws_toImage.f k l0_0 l0_1 l0_2 l0_3).bind fun bt822 => ((spec_ImageUpdates.f k bt822.1 bt822.2.1 bt822.2.2.1 bt822.2.2.2).bind fun bt834 => ((laws_toImage.f k l0_0 l0_1 l0_2 l0_3).bind fun bt838 => ((impl_ImageUpdates.f k bt838.1 bt838.2.1 bt838.2.2.1 bt838.2.2.2).bind fun bt851 => ((laws_eqUpdateS.f k bt851.1 bt834.1).bind fun t855 => (if t855 = true then (if bt851.2 = bt834.2 then ((laws_toImage.f k l0_0 l0_1 l0_2 l0_3).bind fun bt856 => ((laws_eqImage.f k bt838.1 bt838.2.1 bt838.2.2.1 bt838.2.2.2 bt856.1 bt856.2.1 bt856.2.2.1 bt856.2.2.2).bind fun t868 => (if t868 = true then ((laws_markImage.f k bt838.1 bt838.2.1 bt838.2.2.1 bt838.2.2.2 1).bind fun t869 => (if t869 < 0 then (some false) else ((laws_eqUpdateS.f k bt851.1 bt834.1).bind fun t870 => (if t870 = true then ((laws_markUpdateS.f k bt851.1 1).bind fun bt871 => ((laws_heldUpdateS.f k bt871.2 1).bind fun t873 => (if t873 < 0 then (some false) else (if t873 = bt871.1 then ((laws_toImage.f k l0_0 l0_1 l0_2 l0_3).bind fun bt874 => ((impl_ImageUpdates.f k bt874.1 bt874.2.1 bt874.2.2.1 bt874.2.2.2).bind fun bt886 => ((laws_eqUpdateS.f k bt886.1 bt834.1).bind fun t890 => (if t890 = true then (if bt886.2 = bt834.2 then ((laws_heldUpdateS.f k bt871.2 1).bind fun t891 => (if t891 < 0 then (some false) else (if t891 = bt871.1 then (some true) else (some false)))) else (some false)) else (some false))))) else (some false))))) else (some false))))) else (some false)))) else (some false)) else (some false)))))))) = some r := H
 have A2 := zm A20
 clear A20
 by_cases c3 : t821 < 0
 ·rw [if_pos c3] at H
  have c3b0 : decide (t821 < 0) = true := decide_eq_true c3
  clear c3
  obtain rfl := Option.some.inj H
  go_enter Tryz.func5, Tryz.ntmps5
  go_wp2_with (first | ((with_reducible refine gate_dst (N := 1) rfl ?_); refine box_event ?hg (N := 1) ?hd (cs := #[.slice A0_0 l0_0.length c0_0, .slice A0_1 l0_1.length c0_1, .slice A0_2 l0_2.length c0_2, .slice A0_3 l0_3.length c0_3]) (t := 36) ?hr ?_; (case hd => rfl); (case hg => rfl); (case hr => first | (go_simp; done) | (go_simp; rfl)); intro gb820 hg w4 hbox hb; have n0_ := zm (below_step (zg_1 HB.out) hb); have n1_ := zm (hbox); have n2_ := zm ((by rw [hg]; exact (below_size (zg_1 HB.out)) : w.heap.size ≤ gb820)); have n3_ := zm ((by rw [hg]; exact (below_size (zg_1 HB.out)) : w.heap.size ≤ gb820)); clear HB; have HB := n0_; have Za := n1_; have ZH := n2_; have Ze := n3_; clear n0_ n1_ n2_ n3_; clear hb hbox hg; have hcz5_0 : w4.cell? ⟨gb820, 0, none⟩ = some (.slice A0_0 l0_0.length c0_0) := (blk_cell Za.out 0).trans rfl; have hcz5_1 : w4.cell? ⟨gb820, 1, none⟩ = some (.slice A0_1 l0_1.length c0_1) := (blk_cell Za.out 1).trans rfl; have hcz5_2 : w4.cell? ⟨gb820, 2, none⟩ = some (.slice A0_2 l0_2.length c0_2) := (blk_cell Za.out 2).trans rfl; have hcz5_3 : w4.cell? ⟨gb820, 3, none⟩ = some (.slice A0_3 l0_3.length c0_3) := (blk_cell Za.out 3).trans rfl; have hfz5_0 := blk_frozen Za.out 0; have hfz5_1 := blk_frozen Za.out 1; have hfz5_2 := blk_frozen Za.out 2; have hfz5_3 := blk_frozen Za.out 3) | ((with_reducible refine gate_callee (f := 14) rfl ?_); refine goesL_ (some 16) rfl rfl Tryz.func14 (by kernel_rfl) rfl #[.agg #[.slice A0_0 l0_0.length c0_0, .slice A0_1 l0_1.length c0_1, .slice A0_2 l0_2.length c0_2, .slice A0_3 l0_3.length c0_3], .int .i64 1048576] rfl zq ?_; (with_reducible refine (laws_szImage.calls k _ _ l0_0 _ _ l0_1 _ _ l0_2 _ _ l0_3 1048576 t821 _ ?side1 ?side2 ?side3 ?side4 ?side5 ?side6 ?side7 ?side8 A2.out).mono ?_); (case side1 => exact zC (Kd.C_below Zp.out HB.out)); (case side2 => exact Zq.out); (case side3 => exact zC (Kd.C_below Zr.out HB.out)); (case side4 => exact Zs.out); (case side5 => exact zC (Kd.C_below Zt.out HB.out)); (case side6 => exact Zu.out); (case side7 => exact zC (Kd.C_below Zv.out HB.out)); (case side8 => exact Zw.out); rintro e w6 ⟨rfl, hb⟩; refine ⟨_, rfl, ?_⟩; have n0_ := zm (blk_below (g := gb820) (o := .cells #[.slice A0_0 l0_0.length c0_0, .slice A0_1 l0_1.length c0_1, .slice A0_2 l0_2.length c0_2, .slice A0_3 l0_3.length c0_3] 36 (0, 0)) (zg_3 Za.out) hb); have n1_ := zm (below_step (zg_2 HB.out Ze.out) hb); clear Za; clear HB; have Za := n0_; have HB := n1_; clear n0_ n1_; (try clear hb); (try clear hb2); (try clear hk); (try clear hi)))
  go_ret
  exact ⟨by first | rfl | (simp [errW_none, errW_some] <;> rfl) | (simp [*, errW_none, errW_some] <;> rfl), zg_2 HB.out Ze.out⟩
 ·rw [if_neg c3] at H
  have c3b0 : decide (t821 < 0) = false := decide_eq_false c3
  clear c3
  replace H := Option.bind_eq_some_iff.mp H
  obtain ⟨⟨t822, t825, t828, t831⟩, A70, H⟩ := H
  replace H : ((spec_ImageUpdates.f k t822 t825 t828 t831).bind fun bt834 => ((laws_toImage.f k l0_0 l0_1 l0_2 l0_3).bind fun bt838 => ((impl_ImageUpdates.f k bt838.1 bt838.2.1 bt838.2.2.1 bt838.2.2.2).bind fun bt851 => ((laws_eqUpdateS.f k bt851.1 bt834.1).bind fun t855 => (if t855 = true then (if bt851.2 = bt834.2 then ((laws_toImage.f k l0_0 l0_1 l0_2 l0_3).bind fun bt856 => ((laws_eqImage.f k bt838.1 bt838.2.1 bt838.2.2.1 bt838.2.2.2 bt856.1 bt856.2.1 bt856.2.2.1 bt856.2.2.2).bind fun t868 => (if t868 = true then ((laws_markImage.f k bt838.1 bt838.2.1 bt838.2.2.1 bt838.2.2.2 1).bind fun t869 => (if t869 < 0 then (some false) else ((laws_eqUpdateS.f k bt851.1 bt834.1).bind fun t870 => (if t870 = true then ((laws_markUpdateS.f k bt851.1 1).bind fun bt871 => ((laws_heldUpdateS.f k bt871.2 1).bind fun t873 => (if t873 < 0 then (some false) else (if t873 = bt871.1 then ((laws_toImage.f k l0_0 l0_1 l0_2 l0_3).bind fun bt874 => ((impl_ImageUpdates.f k bt874.1 bt874.2.1 bt874.2.2.1 bt874.2.2.2).bind fun bt886 => ((laws_eqUpdateS.f k bt886.1 bt834.1).bind fun t890 => (if t890 = true then (if bt886.2 = bt834.2 then ((laws_heldUpdateS.f k bt871.2 1).bind fun t891 => (if t891 < 0 then (some false) else (if t891 = bt871.1 then (some true) else (some false)))) else (some false)) else (some false))))) else (some false))))) else (some false))))) else (some false)))) else (some false)) else (some false)))))) = some r := H
  have A7 := zm A70
  clear A70
  replace H := Option.bind_eq_some_iff.mp H
  obtain ⟨⟨t834, t837⟩, A80, H⟩ := H
  replace H : ((laws_toImage.f k l0_0 l0_1 l0_2 l0_3).bind fun bt838 => ((impl_ImageUpdates.f k bt838.1 bt838.2.1 bt838.2.2.1 bt838.2.2.2).bind fun bt851 => ((laws_eqUpdateS.f k bt851.1 t834).bind fun t855 => (if t855 = true then (if bt851.2 = t837 then ((laws_toImage.f k l0_0 l0_1 l0_2 l0_3).bind fun bt856 => ((laws_eqImage.f k bt838.1 bt838.2.1 bt838.2.2.1 bt838.2.2.2 bt856.1 bt856.2.1 bt856.2.2.1 bt856.2.2.2).bind fun t868 => (if t868 = true then ((laws_markImage.f k bt838.1 bt838.2.1 bt838.2.2.1 bt838.2.2.2 1).bind fun t869 => (if t869 < 0 then (some false) else ((laws_eqUpdateS.f k bt851.1 t834).bind fun t870 => (if t870 = true then ((laws_markUpdateS.f k bt851.1 1).bind fun bt871 => ((laws_heldUpdateS.f k bt871.2 1).bind fun t873 => (if t873 < 0 then (some false) else (if t873 = bt871.1 then ((laws_toImage.f k l0_0 l0_1 l0_2 l0_3).bind fun bt874 => ((impl_ImageUpdates.f k bt874.1 bt874.2.1 bt874.2.2.1 bt874.2.2.2).bind fun bt886 => ((laws_eqUpdateS.f k bt886.1 t834).bind fun t890 => (if t890 = true then (if bt886.2 = t837 then ((laws_heldUpdateS.f k bt871.2 1).bind fun t891 => (if t891 < 0 then (some false) else (if t891 = bt871.1 then (some true) else (some false)))) else (some false)) else (some false))))) else (some false))))) else (some false))))) else (some false)))) else (some false)) else (some false))))) = some r := H
  have A8 := zm A80
  clear A80
  replace H := Option.bind_eq_some_iff.mp H
  obtain ⟨⟨t838, t841, t844, t847⟩, A90, H⟩ := H
  replace H : ((impl_ImageUpdates.f k t838 t841 t844 t847).bind fun bt851 => ((laws_eqUpdateS.f k bt851.1 t834).bind fun t855 => (if t855 = true then (if bt851.2 = t837 then ((laws_toImage.f k l0_0 l0_1 l0_2 l0_3).bind fun bt856 => ((laws_eqImage.f k t838 t841 t844 t847 bt856.1 bt856.2.1 bt856.2.2.1 bt856.2.2.2).bind fun t868 => (if t868 = true then ((laws_markImage.f k t838 t841 t844 t847 1).bind fun t869 => (if t869 < 0 then (some false) else ((laws_eqUpdateS.f k bt851.1 t834).bind fun t870 => (if t870 = true then ((laws_markUpdateS.f k bt851.1 1).bind fun bt871 => ((laws_heldUpdateS.f k bt871.2 1).bind fun t873 => (if t873 < 0 then (some false) else (if t873 = bt871.1 then ((laws_toImage.f k l0_0 l0_1 l0_2 l0_3).bind fun bt874 => ((impl_ImageUpdates.f k bt874.1 bt874.2.1 bt874.2.2.1 bt874.2.2.2).bind fun bt886 => ((laws_eqUpdateS.f k bt886.1 t834).bind fun t890 => (if t890 = true then (if bt886.2 = t837 then ((laws_heldUpdateS.f k bt871.2 1).bind fun t891 => (if t891 < 0 then (some false) else (if t891 = bt871.1 then (some true) else (some false)))) else (some false)) else (some false))))) else (some false))))) else (some false))))) else (some false)))) else (some false)) else (some false)))) = some r := H
  have A9 := zm A90
  clear A90
  replace H := Option.bind_eq_some_iff.mp H
  obtain ⟨⟨t851, t854⟩, A100, H⟩ := H
  replace H : ((laws_eqUpdateS.f k t851 t834).bind fun t855 => (if t855 = true then (if t854 = t837 then ((laws_toImage.f k l0_0 l0_1 l0_2 l0_3).bind fun bt856 => ((laws_eqImage.f k t838 t841 t844 t847 bt856.1 bt856.2.1 bt856.2.2.1 bt856.2.2.2).bind fun t868 => (if t868 = true then ((laws_markImage.f k t838 t841 t844 t847 1).bind fun t869 => (if t869 < 0 then (some false) else ((laws_eqUpdateS.f k t851 t834).bind fun t870 => (if t870 = true then ((laws_markUpdateS.f k t851 1).bind fun bt871 => ((laws_heldUpdateS.f k bt871.2 1).bind fun t873 => (if t873 < 0 then (some false) else (if t873 = bt871.1 then ((laws_toImage.f k l0_0 l0_1 l0_2 l0_3).bind fun bt874 => ((impl_ImageUpdates.f k bt874.1 bt874.2.1 bt874.2.2.1 bt874.2.2.2).bind fun bt886 => ((laws_eqUpdateS.f k bt886.1 t834).bind fun t890 => (if t890 = true then (if bt886.2 = t837 then ((laws_heldUpdateS.f k bt871.2 1).bind fun t891 => (if t891 < 0 then (some false) else (if t891 = bt871.1 then (some true) else (some false)))) else (some false)) else (some false))))) else (some false))))) else (some false))))) else (some false)))) else (some false)) else (some false))) = some r := H
  have A10 := zm A100
  clear A100
  replace H := Option.bind_eq_some_iff.mp H
  obtain ⟨t855, A110, H⟩ := H
  replace H : (if t855 = true then (if t854 = t837 then ((laws_toImage.f k l0_0 l0_1 l0_2 l0_3).bind fun bt856 => ((laws_eqImage.f k t838 t841 t844 t847 bt856.1 bt856.2.1 bt856.2.2.1 bt856.2.2.2).bind fun t868 => (if t868 = true then ((laws_markImage.f k t838 t841 t844 t847 1).bind fun t869 => (if t869 < 0 then (some false) else ((laws_eqUpdateS.f k t851 t834).bind fun t870 => (if t870 = true then ((laws_markUpdateS.f k t851 1).bind fun bt871 => ((laws_heldUpdateS.f k bt871.2 1).bind fun t873 => (if t873 < 0 then (some false) else (if t873 = bt871.1 then ((laws_toImage.f k l0_0 l0_1 l0_2 l0_3).bind fun bt874 => ((impl_ImageUpdates.f k bt874.1 bt874.2.1 bt874.2.2.1 bt874.2.2.2).bind fun bt886 => ((laws_eqUpdateS.f k bt886.1 t834).bind fun t890 => (if t890 = true then (if bt886.2 = t837 then ((laws_heldUpdateS.f k bt871.2 1).bind fun t891 => (if t891 < 0 then (some false) else (if t891 = bt871.1 then (some true) else (some false)))) else (some false)) else (some false))))) else (some false))))) else (some false))))) else (some false)))) else (some false)) else (some false)) = some r := H
  have A11 := zm A110
  clear A110
  by_cases c12 : t855 = true
  ·subst c12
   have H1 : (if t854 = t837 then ((laws_toImage.f k l0_0 l0_1 l0_2 l0_3).bind fun bt856 => ((laws_eqImage.f k t838 t841 t844 t847 bt856.1 bt856.2.1 bt856.2.2.1 bt856.2.2.2).bind fun t868 => (if t868 = true then ((laws_markImage.f k t838 t841 t844 t847 1).bind fun t869 => (if t869 < 0 then (some false) else ((laws_eqUpdateS.f k t851 t834).bind fun t870 => (if t870 = true then ((laws_markUpdateS.f k t851 1).bind fun bt871 => ((laws_heldUpdateS.f k bt871.2 1).bind fun t873 => (if t873 < 0 then (some false) else (if t873 = bt871.1 then ((laws_toImage.f k l0_0 l0_1 l0_2 l0_3).bind fun bt874 => ((impl_ImageUpdates.f k bt874.1 bt874.2.1 bt874.2.2.1 bt874.2.2.2).bind fun bt886 => ((laws_eqUpdateS.f k bt886.1 t834).bind fun t890 => (if t890 = true then (if bt886.2 = t837 then ((laws_heldUpdateS.f k bt871.2 1).bind fun t891 => (if t891 < 0 then (some false) else (if t891 = bt871.1 then (some true) else (some false)))) else (some false)) else (some false))))) else (some false))))) else (some false))))) else (some false)))) else (some false)) = some r := by rw [if_pos rfl] at H; exact H
   clear H
   have H := H1
   clear H1
   by_cases c13 : t854 = t837
   ·rw [if_pos c13] at H
    have c13b0 : (t854 == t837) = true := beq_iff_eq.mpr c13
    have c13b1 : (t854 != t837) = false := bne_eq_false_iff_eq.mpr c13
    clear c13
    replace H := Option.bind_eq_some_iff.mp H
    obtain ⟨⟨t856, t859, t862, t865⟩, A140, H⟩ := H
    replace H : ((laws_eqImage.f k t838 t841 t844 t847 t856 t859 t862 t865).bind fun t868 => (if t868 = true then ((laws_markImage.f k t838 t841 t844 t847 1).bind fun t869 => (if t869 < 0 then (some false) else ((laws_eqUpdateS.f k t851 t834).bind fun t870 => (if t870 = true then ((laws_markUpdateS.f k t851 1).bind fun bt871 => ((laws_heldUpdateS.f k bt871.2 1).bind fun t873 => (if t873 < 0 then (some false) else (if t873 = bt871.1 then ((laws_toImage.f k l0_0 l0_1 l0_2 l0_3).bind fun bt874 => ((impl_ImageUpdates.f k bt874.1 bt874.2.1 bt874.2.2.1 bt874.2.2.2).bind fun bt886 => ((laws_eqUpdateS.f k bt886.1 t834).bind fun t890 => (if t890 = true then (if bt886.2 = t837 then ((laws_heldUpdateS.f k bt871.2 1).bind fun t891 => (if t891 < 0 then (some false) else (if t891 = bt871.1 then (some true) else (some false)))) else (some false)) else (some false))))) else (some false))))) else (some false))))) else (some false))) = some r := H
    have A14 := zm A140
    clear A140
    replace H := Option.bind_eq_some_iff.mp H
    obtain ⟨t868, A150, H⟩ := H
    replace H : (if t868 = true then ((laws_markImage.f k t838 t841 t844 t847 1).bind fun t869 => (if t869 < 0 then (some false) else ((laws_eqUpdateS.f k t851 t834).bind fun t870 => (if t870 = true then ((laws_markUpdateS.f k t851 1).bind fun bt871 => ((laws_heldUpdateS.f k bt871.2 1).bind fun t873 => (if t873 < 0 then (some false) else (if t873 = bt871.1 then ((laws_toImage.f k l0_0 l0_1 l0_2 l0_3).bind fun bt874 => ((impl_ImageUpdates.f k bt874.1 bt874.2.1 bt874.2.2.1 bt874.2.2.2).bind fun bt886 => ((laws_eqUpdateS.f k bt886.1 t834).bind fun t890 => (if t890 = true then (if bt886.2 = t837 then ((laws_heldUpdateS.f k bt871.2 1).bind fun t891 => (if t891 < 0 then (some false) else (if t891 = bt871.1 then (some true) else (some false)))) else (some false)) else (some false))))) else (some false))))) else (some false))))) else (some false)) = some r := H
    have A15 := zm A150
    clear A150
    by_cases c16 : t868 = true
    ·subst c16
     have H1 : ((laws_markImage.f k t838 t841 t844 t847 1).bind fun t869 => (if t869 < 0 then (some false) else ((laws_eqUpdateS.f k t851 t834).bind fun t870 => (if t870 = true then ((laws_markUpdateS.f k t851 1).bind fun bt871 => ((laws_heldUpdateS.f k bt871.2 1).bind fun t873 => (if t873 < 0 then (some false) else (if t873 = bt871.1 then ((laws_toImage.f k l0_0 l0_1 l0_2 l0_3).bind fun bt874 => ((impl_ImageUpdates.f k bt874.1 bt874.2.1 bt874.2.2.1 bt874.2.2.2).bind fun bt886 => ((laws_eqUpdateS.f k bt886.1 t834).bind fun t890 => (if t890 = true then (if bt886.2 = t837 then ((laws_heldUpdateS.f k bt871.2 1).bind fun t891 => (if t891 < 0 then (some false) else (if t891 = bt871.1 then (some true) else (some false)))) else (some false)) else (some false))))) else (some false))))) else (some false))))) = some r := by rw [if_pos rfl] at H; exact H
     clear H
     have H := H1
     clear H1
     replace H := Option.bind_eq_some_iff.mp H
     obtain ⟨t869, A170, H⟩ := H
     replace H : (if t869 < 0 then (some false) else ((laws_eqUpdateS.f k t851 t834).bind fun t870 => (if t870 = true then ((laws_markUpdateS.f k t851 1).bind fun bt871 => ((laws_heldUpdateS.f k bt871.2 1).bind fun t873 => (if t873 < 0 then (some false) else (if t873 = bt871.1 then ((laws_toImage.f k l0_0 l0_1 l0_2 l0_3).bind fun bt874 => ((impl_ImageUpdates.f k bt874.1 bt874.2.1 bt874.2.2.1 bt874.2.2.2).bind fun bt886 => ((laws_eqUpdateS.f k bt886.1 t834).bind fun t890 => (if t890 = true then (if bt886.2 = t837 then ((laws_heldUpdateS.f k bt871.2 1).bind fun t891 => (if t891 < 0 then (some false) else (if t891 = bt871.1 then (some true) else (some false)))) else (some false)) else (some false))))) else (some false))))) else (some false)))) = some r := H
     have A17 := zm A170
     clear A170
     by_cases c18 : t869 < 0
     ·rw [if_pos c18] at H
      have c18b0 : decide (t869 < 0) = true := decide_eq_true c18
      clear c18
      exact absurd hr_.out (by rw [← Option.some.inj H]; decide)
     ·rw [if_neg c18] at H
      have c18b0 : decide (t869 < 0) = false := decide_eq_false c18
      clear c18
      replace H := Option.bind_eq_some_iff.mp H
      obtain ⟨t870, A190, H⟩ := H
      replace H : (if t870 = true then ((laws_markUpdateS.f k t851 1).bind fun bt871 => ((laws_heldUpdateS.f k bt871.2 1).bind fun t873 => (if t873 < 0 then (some false) else (if t873 = bt871.1 then ((laws_toImage.f k l0_0 l0_1 l0_2 l0_3).bind fun bt874 => ((impl_ImageUpdates.f k bt874.1 bt874.2.1 bt874.2.2.1 bt874.2.2.2).bind fun bt886 => ((laws_eqUpdateS.f k bt886.1 t834).bind fun t890 => (if t890 = true then (if bt886.2 = t837 then ((laws_heldUpdateS.f k bt871.2 1).bind fun t891 => (if t891 < 0 then (some false) else (if t891 = bt871.1 then (some true) else (some false)))) else (some false)) else (some false))))) else (some false))))) else (some false)) = some r := H
      have A19 := zm A190
      clear A190
      by_cases c20 : t870 = true
      ·subst c20
       have H1 : ((laws_markUpdateS.f k t851 1).bind fun bt871 => ((laws_heldUpdateS.f k bt871.2 1).bind fun t873 => (if t873 < 0 then (some false) else (if t873 = bt871.1 then ((laws_toImage.f k l0_0 l0_1 l0_2 l0_3).bind fun bt874 => ((impl_ImageUpdates.f k bt874.1 bt874.2.1 bt874.2.2.1 bt874.2.2.2).bind fun bt886 => ((laws_eqUpdateS.f k bt886.1 t834).bind fun t890 => (if t890 = true then (if bt886.2 = t837 then ((laws_heldUpdateS.f k bt871.2 1).bind fun t891 => (if t891 < 0 then (some false) else (if t891 = bt871.1 then (some true) else (some false)))) else (some false)) else (some false))))) else (some false))))) = some r := by rw [if_pos rfl] at H; exact H
       clear H
       have H := H1
       clear H1
       replace H := Option.bind_eq_some_iff.mp H
       obtain ⟨⟨t871, t872⟩, A210, H⟩ := H
       replace H : ((laws_heldUpdateS.f k t872 1).bind fun t873 => (if t873 < 0 then (some false) else (if t873 = t871 then ((laws_toImage.f k l0_0 l0_1 l0_2 l0_3).bind fun bt874 => ((impl_ImageUpdates.f k bt874.1 bt874.2.1 bt874.2.2.1 bt874.2.2.2).bind fun bt886 => ((laws_eqUpdateS.f k bt886.1 t834).bind fun t890 => (if t890 = true then (if bt886.2 = t837 then ((laws_heldUpdateS.f k t872 1).bind fun t891 => (if t891 < 0 then (some false) else (if t891 = t871 then (some true) else (some false)))) else (some false)) else (some false))))) else (some false)))) = some r := H
       have A21 := zm A210
       clear A210
       replace H := Option.bind_eq_some_iff.mp H
       obtain ⟨t873, A220, H⟩ := H
       replace H : (if t873 < 0 then (some false) else (if t873 = t871 then ((laws_toImage.f k l0_0 l0_1 l0_2 l0_3).bind fun bt874 => ((impl_ImageUpdates.f k bt874.1 bt874.2.1 bt874.2.2.1 bt874.2.2.2).bind fun bt886 => ((laws_eqUpdateS.f k bt886.1 t834).bind fun t890 => (if t890 = true then (if bt886.2 = t837 then ((laws_heldUpdateS.f k t872 1).bind fun t891 => (if t891 < 0 then (some false) else (if t891 = t871 then (some true) else (some false)))) else (some false)) else (some false))))) else (some false))) = some r := H
       have A22 := zm A220
       clear A220
       by_cases c23 : t873 < 0
       ·rw [if_pos c23] at H
        have c23b0 : decide (t873 < 0) = true := decide_eq_true c23
        clear c23
        exact absurd hr_.out (by rw [← Option.some.inj H]; decide)
       ·rw [if_neg c23] at H
        have c23b0 : decide (t873 < 0) = false := decide_eq_false c23
        clear c23
        by_cases c24 : t873 = t871
        ·rw [if_pos c24] at H
         have c24b0 : (t873 == t871) = true := beq_iff_eq.mpr c24
         have c24b1 : (t873 != t871) = false := bne_eq_false_iff_eq.mpr c24
         clear c24
         replace H := Option.bind_eq_some_iff.mp H
         obtain ⟨⟨t874, t877, t880, t883⟩, A250, H⟩ := H
         replace H : ((impl_ImageUpdates.f k t874 t877 t880 t883).bind fun bt886 => ((laws_eqUpdateS.f k bt886.1 t834).bind fun t890 => (if t890 = true then (if bt886.2 = t837 then ((laws_heldUpdateS.f k t872 1).bind fun t891 => (if t891 < 0 then (some false) else (if t891 = t871 then (some true) else (some false)))) else (some false)) else (some false)))) = some r := H
         have A25 := zm A250
         clear A250
         replace H := Option.bind_eq_some_iff.mp H
         obtain ⟨⟨t886, t889⟩, A260, H⟩ := H
         replace H : ((laws_eqUpdateS.f k t886 t834).bind fun t890 => (if t890 = true then (if t889 = t837 then ((laws_heldUpdateS.f k t872 1).bind fun t891 => (if t891 < 0 then (some false) else (if t891 = t871 then (some true) else (some false)))) else (some false)) else (some false))) = some r := H
         have A26 := zm A260
         clear A260
         replace H := Option.bind_eq_some_iff.mp H
         obtain ⟨t890, A270, H⟩ := H
         replace H : (if t890 = true then (if t889 = t837 then ((laws_heldUpdateS.f k t872 1).bind fun t891 => (if t891 < 0 then (some false) else (if t891 = t871 then (some true) else (some false)))) else (some false)) else (some false)) = some r := H
         have A27 := zm A270
         clear A270
         by_cases c28 : t890 = true
         ·subst c28
          have H1 : (if t889 = t837 then ((laws_heldUpdateS.f k t872 1).bind fun t891 => (if t891 < 0 then (some false) else (if t891 = t871 then (some true) else (some false)))) else (some false)) = some r := by rw [if_pos rfl] at H; exact H
          clear H
          have H := H1
          clear H1
          by_cases c29 : t889 = t837
          ·rw [if_pos c29] at H
           have c29b0 : (t889 == t837) = true := beq_iff_eq.mpr c29
           have c29b1 : (t889 != t837) = false := bne_eq_false_iff_eq.mpr c29
           clear c29
           replace H := Option.bind_eq_some_iff.mp H
           obtain ⟨t891, A300, H⟩ := H
           replace H : (if t891 < 0 then (some false) else (if t891 = t871 then (some true) else (some false))) = some r := H
           have A30 := zm A300
           clear A300
           by_cases c31 : t891 < 0
           ·rw [if_pos c31] at H
            have c31b0 : decide (t891 < 0) = true := decide_eq_true c31
            clear c31
            exact absurd hr_.out (by rw [← Option.some.inj H]; decide)
           ·rw [if_neg c31] at H
            have c31b0 : decide (t891 < 0) = false := decide_eq_false c31
            clear c31
            by_cases c32 : t891 = t871
            ·rw [if_pos c32] at H
             have c32b0 : (t891 == t871) = true := beq_iff_eq.mpr c32
             have c32b1 : (t891 != t871) = false := bne_eq_false_iff_eq.mpr c32
             clear c32
             obtain rfl := Option.some.inj H
             go_enter Tryz.func5, Tryz.ntmps5
             try go_wp2_with (first | ((with_reducible refine gate_dst (N := 1) rfl ?_); refine box_event ?hg (N := 1) ?hd (cs := #[.slice A0_0 l0_0.length c0_0, .slice A0_1 l0_1.length c0_1, .slice A0_2 l0_2.length c0_2, .slice A0_3 l0_3.length c0_3]) (t := 36) ?hr ?_; (case hd => rfl); (case hg => rfl); (case hr => first | (go_simp; done) | (go_simp; rfl)); intro gb820 hg w33 hbox hb; have n0_ := zm (below_step (zg_1 HB.out) hb); have n1_ := zm (hbox); have n2_ := zm ((by rw [hg]; exact (below_size (zg_1 HB.out)) : w.heap.size ≤ gb820)); have n3_ := zm ((by rw [hg]; exact (below_size (zg_1 HB.out)) : w.heap.size ≤ gb820)); clear HB; have HB := n0_; have Za := n1_; have ZH := n2_; have Ze := n3_; clear n0_ n1_ n2_ n3_; clear hb hbox hg; have hcz34_0 : w33.cell? ⟨gb820, 0, none⟩ = some (.slice A0_0 l0_0.length c0_0) := (blk_cell Za.out 0).trans rfl; have hcz34_1 : w33.cell? ⟨gb820, 1, none⟩ = some (.slice A0_1 l0_1.length c0_1) := (blk_cell Za.out 1).trans rfl; have hcz34_2 : w33.cell? ⟨gb820, 2, none⟩ = some (.slice A0_2 l0_2.length c0_2) := (blk_cell Za.out 2).trans rfl; have hcz34_3 : w33.cell? ⟨gb820, 3, none⟩ = some (.slice A0_3 l0_3.length c0_3) := (blk_cell Za.out 3).trans rfl; have hfz34_0 := blk_frozen Za.out 0; have hfz34_1 := blk_frozen Za.out 1; have hfz34_2 := blk_frozen Za.out 2; have hfz34_3 := blk_frozen Za.out 3) | ((with_reducible refine gate_callee (f := 14) rfl ?_); refine goesL_ (some 16) rfl rfl Tryz.func14 (by kernel_rfl) rfl #[.agg #[.slice A0_0 l0_0.length c0_0, .slice A0_1 l0_1.length c0_1, .slice A0_2 l0_2.length c0_2, .slice A0_3 l0_3.length c0_3], .int .i64 1048576] rfl zq ?_; (with_reducible refine (laws_szImage.calls k _ _ l0_0 _ _ l0_1 _ _ l0_2 _ _ l0_3 1048576 t821 _ ?side1 ?side2 ?side3 ?side4 ?side5 ?side6 ?side7 ?side8 A2.out).mono ?_); (case side1 => exact zC (Kd.C_below Zp.out HB.out)); (case side2 => exact Zq.out); (case side3 => exact zC (Kd.C_below Zr.out HB.out)); (case side4 => exact Zs.out); (case side5 => exact zC (Kd.C_below Zt.out HB.out)); (case side6 => exact Zu.out); (case side7 => exact zC (Kd.C_below Zv.out HB.out)); (case side8 => exact Zw.out); rintro e w35 ⟨rfl, hb⟩; refine ⟨_, rfl, ?_⟩; have n0_ := zm (blk_below (g := gb820) (o := .cells #[.slice A0_0 l0_0.length c0_0, .slice A0_1 l0_1.length c0_1, .slice A0_2 l0_2.length c0_2, .slice A0_3 l0_3.length c0_3] 36 (0, 0)) (zg_3 Za.out) hb); have n1_ := zm (below_step (zg_2 HB.out Ze.out) hb); clear Za; clear HB; have Za := n0_; have HB := n1_; clear n0_ n1_; (try clear hb); (try clear hb2); (try clear hk); (try clear hi); have hcz36_0 : w35.cell? ⟨gb820, 0, none⟩ = some (.slice A0_0 l0_0.length c0_0) := (blk_cell Za.out 0).trans rfl; have hcz36_1 : w35.cell? ⟨gb820, 1, none⟩ = some (.slice A0_1 l0_1.length c0_1) := (blk_cell Za.out 1).trans rfl; have hcz36_2 : w35.cell? ⟨gb820, 2, none⟩ = some (.slice A0_2 l0_2.length c0_2) := (blk_cell Za.out 2).trans rfl; have hcz36_3 : w35.cell? ⟨gb820, 3, none⟩ = some (.slice A0_3 l0_3.length c0_3) := (blk_cell Za.out 3).trans rfl; have hfz36_0 := blk_frozen Za.out 0; have hfz36_1 := blk_frozen Za.out 1; have hfz36_2 := blk_frozen Za.out 2; have hfz36_3 := blk_frozen Za.out 3) | ((with_reducible refine gate_callee (f := 16) rfl ?_); refine goesL_ (some 21) rfl rfl Tryz.func16 (by kernel_rfl) rfl #[.agg #[.slice A0_0 l0_0.length c0_0, .slice A0_1 l0_1.length c0_1, .slice A0_2 l0_2.length c0_2, .slice A0_3 l0_3.length c0_3]] rfl zq ?_; (with_reducible refine (laws_toImage.calls k _ _ l0_0 _ _ l0_1 _ _ l0_2 _ _ l0_3 t822 t825 t828 t831 _ ?side1 ?side2 ?side3 ?side4 ?side5 ?side6 ?side7 ?side8 A7.out).mono ?_); (case side1 => exact zC (Kd.C_below Zp.out HB.out)); (case side2 => exact Zq.out); (case side3 => exact zC (Kd.C_below Zr.out HB.out)); (case side4 => exact Zs.out); (case side5 => exact zC (Kd.C_below Zt.out HB.out)); (case side6 => exact Zu.out); (case side7 => exact zC (Kd.C_below Zv.out HB.out)); (case side8 => exact Zw.out); rintro e w37 ⟨v823, v826, v829, v832, rfl, ho0, ho1, ho2, ho3, hb⟩; refine ⟨_, rfl, ?_⟩; have n0_ := zm (Kd.R_lower ho0 (below_size (zg_2 HB.out Ze.out))); have n1_ := zm (Kd.R_lower ho1 (below_size (zg_2 HB.out Ze.out))); have n2_ := zm (Kd.S_lower ho2 (below_size (zg_2 HB.out Ze.out))); have n3_ := zm (Kd.R_lower ho3 (below_size (zg_2 HB.out Ze.out))); have n4_ := zm (blk_below (g := gb820) (o := .cells #[.slice A0_0 l0_0.length c0_0, .slice A0_1 l0_1.length c0_1, .slice A0_2 l0_2.length c0_2, .slice A0_3 l0_3.length c0_3] 36 (0, 0)) (zg_3 Za.out) hb); have n5_ := zm (below_step (zg_2 HB.out Ze.out) hb); clear Za; clear HB; have Zx := n0_; have Zy := n1_; have Zz := n2_; have ZA := n3_; have Za := n4_; have HB := n5_; clear n0_ n1_ n2_ n3_ n4_ n5_; (try clear hb); (try clear hb2); (try clear hk); (try clear hi); (try clear ho0); (try clear ho1); (try clear ho2); (try clear ho3); obtain ⟨Ao38, co38, eo38⟩ := Kd.R_slice Zx.out; subst eo38; obtain ⟨Ao39, co39, eo39⟩ := Kd.R_slice Zy.out; subst eo39; obtain ⟨Ao40, co40, eo40⟩ := Kd.S_slice Zz.out; subst eo40; obtain ⟨Ao41, co41, eo41⟩ := Kd.R_slice ZA.out; subst eo41) | ((with_reducible refine gate_callee (f := 23) rfl ?_); refine goesL_ (some 22) rfl rfl Tryz.func23 (by kernel_rfl) rfl #[.agg #[.slice Ao38 t822.length co38, .slice Ao39 t825.length co39, .slice Ao40 t828.length co40, .slice Ao41 t831.length co41]] rfl zq ?_; (with_reducible refine (spec_ImageUpdates.calls k _ _ t822 _ _ t825 _ _ t828 _ _ t831 t834 t837 _ ?side1 ?side2 ?side3 ?side4 ?side5 ?side6 ?side7 ?side8 A8.out).mono ?_); (case side1 => exact zC ((Kd.R_reads' Zx.out).2.2)); (case side2 => exact (Kd.R_reads' Zx.out).2.1); (case side3 => exact zC ((Kd.R_reads' Zy.out).2.2)); (case side4 => exact (Kd.R_reads' Zy.out).2.1); (case side5 => exact zC ((Kd.S_reads' Zz.out).2.2)); (case side6 => exact (Kd.S_reads' Zz.out).2.1); (case side7 => exact zC ((Kd.R_reads' ZA.out).2.2)); (case side8 => exact (Kd.R_reads' ZA.out).2.1); rintro e w42 ⟨v835, rfl, ho0, hb⟩; refine ⟨_, rfl, ?_⟩; have n0_ := zm (Kd.R_lower ho0 (below_size (zg_2 HB.out Ze.out))); have n1_ := zm (blk_below (g := gb820) (o := .cells #[.slice A0_0 l0_0.length c0_0, .slice A0_1 l0_1.length c0_1, .slice A0_2 l0_2.length c0_2, .slice A0_3 l0_3.length c0_3] 36 (0, 0)) (zg_3 Za.out) hb); have n2_ := zm (below_step (zg_2 HB.out Ze.out) hb); clear Za; clear HB; have Zd := n0_; have Za := n1_; have HB := n2_; clear n0_ n1_ n2_; (try clear hb); (try clear hb2); (try clear hk); (try clear hi); (try clear ho0); (try clear Zx); (try clear Zy); (try clear Zz); (try clear ZA); have hcz43_0 : w42.cell? ⟨gb820, 0, none⟩ = some (.slice A0_0 l0_0.length c0_0) := (blk_cell Za.out 0).trans rfl; have hcz43_1 : w42.cell? ⟨gb820, 1, none⟩ = some (.slice A0_1 l0_1.length c0_1) := (blk_cell Za.out 1).trans rfl; have hcz43_2 : w42.cell? ⟨gb820, 2, none⟩ = some (.slice A0_2 l0_2.length c0_2) := (blk_cell Za.out 2).trans rfl; have hcz43_3 : w42.cell? ⟨gb820, 3, none⟩ = some (.slice A0_3 l0_3.length c0_3) := (blk_cell Za.out 3).trans rfl; have hfz43_0 := blk_frozen Za.out 0; have hfz43_1 := blk_frozen Za.out 1; have hfz43_2 := blk_frozen Za.out 2; have hfz43_3 := blk_frozen Za.out 3) | ((with_reducible refine gate_callee (f := 16) rfl ?_); refine goesL_ (some 26) rfl rfl Tryz.func16 (by kernel_rfl) rfl #[.agg #[.slice A0_0 l0_0.length c0_0, .slice A0_1 l0_1.length c0_1, .slice A0_2 l0_2.length c0_2, .slice A0_3 l0_3.length c0_3]] rfl zq ?_; (with_reducible refine (laws_toImage.calls k _ _ l0_0 _ _ l0_1 _ _ l0_2 _ _ l0_3 t838 t841 t844 t847 _ ?side1 ?side2 ?side3 ?side4 ?side5 ?side6 ?side7 ?side8 A9.out).mono ?_); (case side1 => exact zC (Kd.C_below Zp.out HB.out)); (case side2 => exact Zq.out); (case side3 => exact zC (Kd.C_below Zr.out HB.out)); (case side4 => exact Zs.out); (case side5 => exact zC (Kd.C_below Zt.out HB.out)); (case side6 => exact Zu.out); (case side7 => exact zC (Kd.C_below Zv.out HB.out)); (case side8 => exact Zw.out); rintro e w44 ⟨v839, v842, v845, v848, rfl, ho0, ho1, ho2, ho3, hb⟩; refine ⟨_, rfl, ?_⟩; have n0_ := zm (Kd.R_below (zg_6 Zd.out) hb); have n1_ := zm (Kd.R_lower ho0 (below_size (zg_2 HB.out Ze.out))); have n2_ := zm (Kd.R_lower ho1 (below_size (zg_2 HB.out Ze.out))); have n3_ := zm (Kd.S_lower ho2 (below_size (zg_2 HB.out Ze.out))); have n4_ := zm (Kd.R_lower ho3 (below_size (zg_2 HB.out Ze.out))); have n5_ := zm (blk_below (g := gb820) (o := .cells #[.slice A0_0 l0_0.length c0_0, .slice A0_1 l0_1.length c0_1, .slice A0_2 l0_2.length c0_2, .slice A0_3 l0_3.length c0_3] 36 (0, 0)) (zg_3 Za.out) hb); have n6_ := zm (below_step (zg_2 HB.out Ze.out) hb); clear Zd; clear Za; clear HB; have Zd := n0_; have Zf := n1_; have Zg := n2_; have Zi := n3_; have Zh := n4_; have Za := n5_; have HB := n6_; clear n0_ n1_ n2_ n3_ n4_ n5_ n6_; (try clear hb); (try clear hb2); (try clear hk); (try clear hi); (try clear ho0); (try clear ho1); (try clear ho2); (try clear ho3)) | ((with_reducible refine gate_dst (N := 6) rfl ?_); refine box_event ?hg (N := 6) ?hd (cs := #[.slice none 0 0, .slice none 0 0, .slice none 0 0, .slice none 0 0]) (t := 26) ?hr ?_; (case hd => rfl); (case hg => rfl); (case hr => first | (go_simp; done) | (go_simp; rfl)); intro gb850 hg w45 hbox hb; have n0_ := zm (Kd.R_below (zg_6 Zd.out) hb); have n1_ := zm (Kd.R_below (zg_6 Zf.out) hb); have n2_ := zm (Kd.R_below (zg_6 Zg.out) hb); have n3_ := zm (Kd.S_below (zg_8 Zi.out) hb); have n4_ := zm (Kd.R_below (zg_6 Zh.out) hb); have n5_ := zm (blk_below (g := gb820) (o := .cells #[.slice A0_0 l0_0.length c0_0, .slice A0_1 l0_1.length c0_1, .slice A0_2 l0_2.length c0_2, .slice A0_3 l0_3.length c0_3] 36 (0, 0)) (zg_3 Za.out) hb); have n6_ := zm (below_step (zg_2 HB.out Ze.out) hb); have n7_ := zm (hbox); have n8_ := zm ((by rw [hg]; exact (below_size (zg_2 HB.out Ze.out)) : w.heap.size ≤ gb850)); have n9_ := zm ((by rw [hg]; exact (below_size (zg_2 HB.out Ze.out)) : w.heap.size ≤ gb850)); have n10_ := zm ((by rw [hg]; exact Nat.ne_of_lt (blk_lt (g := gb820) (o := .cells #[.slice A0_0 l0_0.length c0_0, .slice A0_1 l0_1.length c0_1, .slice A0_2 l0_2.length c0_2, .slice A0_3 l0_3.length c0_3] 36 (0, 0)) (zg_3 Za.out)) : gb820 ≠ gb850)); have n11_ := zm ((by rw [hg]; exact Nat.ne_of_gt (blk_lt (g := gb820) (o := .cells #[.slice A0_0 l0_0.length c0_0, .slice A0_1 l0_1.length c0_1, .slice A0_2 l0_2.length c0_2, .slice A0_3 l0_3.length c0_3] 36 (0, 0)) (zg_3 Za.out)) : gb850 ≠ gb820)); clear Zd; clear Zf; clear Zg; clear Zi; clear Zh; clear Za; clear HB; have Zd := n0_; have Zf := n1_; have Zg := n2_; have Zi := n3_; have Zh := n4_; have Za := n5_; have HB := n6_; have Zb := n7_; have ZI := n8_; have Zj := n9_; have Zk := n10_; have ZG := n11_; clear n0_ n1_ n2_ n3_ n4_ n5_ n6_ n7_ n8_ n9_ n10_ n11_; clear hb hbox hg; obtain ⟨Ao46, co46, eo46⟩ := Kd.R_slice Zf.out; subst eo46; have hnb47 := ZG.out; have hnc47 := Zk.out; have hcz48_0 : w45.cell? ⟨gb850, 0, none⟩ = some (.slice none 0 0) := (blk_cell Zb.out 0).trans rfl; have hcz48_1 : w45.cell? ⟨gb850, 1, none⟩ = some (.slice none 0 0) := (blk_cell Zb.out 1).trans rfl; have hcz48_2 : w45.cell? ⟨gb850, 2, none⟩ = some (.slice none 0 0) := (blk_cell Zb.out 2).trans rfl; have hcz48_3 : w45.cell? ⟨gb850, 3, none⟩ = some (.slice none 0 0) := (blk_cell Zb.out 3).trans rfl; have hfz48_0 := blk_frozen Zb.out 0; have hfz48_1 := blk_frozen Zb.out 1; have hfz48_2 := blk_frozen Zb.out 2; have hfz48_3 := blk_frozen Zb.out 3; obtain ⟨Ao49, co49, eo49⟩ := Kd.R_slice Zg.out; subst eo49; obtain ⟨Ao50, co50, eo50⟩ := Kd.S_slice Zi.out; subst eo50; obtain ⟨Ao51, co51, eo51⟩ := Kd.R_slice Zh.out; subst eo51) | ((with_reducible refine gate_callee (f := 24) rfl ?_); refine goesL_ (some 29) rfl rfl Tryz.func24 (by kernel_rfl) rfl #[.agg #[.slice Ao46 t838.length co46, .slice Ao49 t841.length co49, .slice Ao50 t844.length co50, .slice Ao51 t847.length co51]] rfl zq ?_; (with_reducible refine (impl_ImageUpdates.calls k _ _ t838 _ _ t841 _ _ t844 _ _ t847 t851 t854 _ ?side1 ?side2 ?side3 ?side4 ?side5 ?side6 ?side7 ?side8 A10.out).mono ?_); (case side1 => refine (Kd.R_reads' (e := 3) (base := w.heap.size) (ok := fun k_ => (some k_ ≠ (.slice Ao49 t841.length co49 : Value).ownBlock ∧ some k_ ≠ (.slice Ao51 t847.length co51 : Value).ownBlock)) (n := t838.length) (c := co46) ?_).2.2; exact (by (with_reducible repeat (first | apply Kd.R_alloc | apply Kd.R_drewN | apply Kd.R_drew)); exact (Kd.R_mono (Kd.R_far (p := ⟨gb850, 3, none⟩) (Kd.R_far (p := ⟨gb850, 2, none⟩) (Kd.R_far (p := ⟨gb850, 1, none⟩) (Kd.R_far (p := ⟨gb850, 0, none⟩) (Kd.R_types Zf.out Zb.out (by decide)) (fun _ hk => hk.2) (.slice Ao46 t838.length co46)) (fun _ hk => hk.2) (.slice Ao49 t841.length co49)) (fun _ hk => hk.2) (.slice Ao50 t844.length co50)) (fun _ hk => hk.2) (.slice Ao51 t847.length co51)) (fun _ h_ => h_.1)))); (case side2 => exact (Kd.R_reads' Zf.out).2.1); (case side3 => refine (Kd.R_reads' (e := 3) (base := w.heap.size) (ok := fun k_ => (some k_ ≠ (.slice Ao46 t838.length co46 : Value).ownBlock ∧ some k_ ≠ (.slice Ao51 t847.length co51 : Value).ownBlock)) (n := t841.length) (c := co49) ?_).2.2; exact (by (with_reducible repeat (first | apply Kd.R_alloc | apply Kd.R_drewN | apply Kd.R_drew)); exact (Kd.R_mono (Kd.R_far (p := ⟨gb850, 3, none⟩) (Kd.R_far (p := ⟨gb850, 2, none⟩) (Kd.R_far (p := ⟨gb850, 1, none⟩) (Kd.R_far (p := ⟨gb850, 0, none⟩) (Kd.R_types Zg.out Zb.out (by decide)) (fun _ hk => hk.2) (.slice Ao46 t838.length co46)) (fun _ hk => hk.2) (.slice Ao49 t841.length co49)) (fun _ hk => hk.2) (.slice Ao50 t844.length co50)) (fun _ hk => hk.2) (.slice Ao51 t847.length co51)) (fun _ h_ => h_.1)))); (case side4 => exact (Kd.R_reads' Zg.out).2.1); (case side5 => refine (Kd.S_reads' (e := 103) (base := w.heap.size) (ok := fun k_ => (some k_ ≠ (.slice Ao46 t838.length co46 : Value).ownBlock ∧ (some k_ ≠ (.slice Ao49 t841.length co49 : Value).ownBlock ∧ some k_ ≠ (.slice Ao51 t847.length co51 : Value).ownBlock))) (n := t844.length) (c := co50) ?_).2.2; exact (by (with_reducible repeat (first | apply Kd.S_alloc | apply Kd.S_drewN | apply Kd.S_drew)); exact (Kd.S_mono (Kd.S_far (p := ⟨gb850, 3, none⟩) (Kd.S_far (p := ⟨gb850, 2, none⟩) (Kd.S_far (p := ⟨gb850, 1, none⟩) (Kd.S_far (p := ⟨gb850, 0, none⟩) (Kd.S_types Zi.out Zb.out (by decide)) (fun _ hk => hk.2) (.slice Ao46 t838.length co46)) (fun _ hk => hk.2) (.slice Ao49 t841.length co49)) (fun _ hk => hk.2) (.slice Ao50 t844.length co50)) (fun _ hk => hk.2) (.slice Ao51 t847.length co51)) (fun _ h_ => h_.1)))); (case side6 => exact (Kd.S_reads' Zi.out).2.1); (case side7 => refine (Kd.R_reads' (e := 3) (base := w.heap.size) (ok := fun k_ => (some k_ ≠ (.slice Ao46 t838.length co46 : Value).ownBlock ∧ some k_ ≠ (.slice Ao49 t841.length co49 : Value).ownBlock)) (n := t847.length) (c := co51) ?_).2.2; exact (by (with_reducible repeat (first | apply Kd.R_alloc | apply Kd.R_drewN | apply Kd.R_drew)); exact (Kd.R_mono (Kd.R_far (p := ⟨gb850, 3, none⟩) (Kd.R_far (p := ⟨gb850, 2, none⟩) (Kd.R_far (p := ⟨gb850, 1, none⟩) (Kd.R_far (p := ⟨gb850, 0, none⟩) (Kd.R_types Zh.out Zb.out (by decide)) (fun _ hk => hk.2) (.slice Ao46 t838.length co46)) (fun _ hk => hk.2) (.slice Ao49 t841.length co49)) (fun _ hk => hk.2) (.slice Ao50 t844.length co50)) (fun _ hk => hk.2) (.slice Ao51 t847.length co51)) (fun _ h_ => h_.1)))); (case side8 => exact (Kd.R_reads' Zh.out).2.1); rintro e w52 ⟨v852, rfl, ho0, hb⟩; refine ⟨_, rfl, ?_⟩; have n0_ := zm (Kd.R_elder' (by (with_reducible repeat (first | apply Kd.R_alloc | apply Kd.R_drewN | apply Kd.R_drew)); exact (Kd.R_mono (Kd.R_far (p := ⟨gb850, 3, none⟩) (Kd.R_far (p := ⟨gb850, 2, none⟩) (Kd.R_far (p := ⟨gb850, 1, none⟩) (Kd.R_far (p := ⟨gb850, 0, none⟩) (Kd.R_types Zd.out Zb.out (by decide)) (fun _ hk => hk.2) (.slice Ao46 t838.length co46)) (fun _ hk => hk.2) (.slice Ao49 t841.length co49)) (fun _ hk => hk.2) (.slice Ao50 t844.length co50)) (fun _ hk => hk.2) (.slice Ao51 t847.length co51)) (fun _ h_ => h_.1))) (Kd.R_base ho0) hb); have n1_ := zm (Kd.R_below (by (with_reducible repeat (first | apply Kd.R_alloc | apply Kd.R_drewN | apply Kd.R_drew)); exact (Kd.R_mono (Kd.R_far (p := ⟨gb850, 3, none⟩) (Kd.R_far (p := ⟨gb850, 2, none⟩) (Kd.R_far (p := ⟨gb850, 1, none⟩) (Kd.R_far (p := ⟨gb850, 0, none⟩) (Kd.R_types Zf.out Zb.out (by decide)) (fun _ hk => hk.2) (.slice Ao46 t838.length co46)) (fun _ hk => hk.2) (.slice Ao49 t841.length co49)) (fun _ hk => hk.2) (.slice Ao50 t844.length co50)) (fun _ hk => hk.2) (.slice Ao51 t847.length co51)) (fun _ h_ => h_.1))) hb); have n2_ := zm (Kd.R_below (by (with_reducible repeat (first | apply Kd.R_alloc | apply Kd.R_drewN | apply Kd.R_drew)); exact (Kd.R_mono (Kd.R_far (p := ⟨gb850, 3, none⟩) (Kd.R_far (p := ⟨gb850, 2, none⟩) (Kd.R_far (p := ⟨gb850, 1, none⟩) (Kd.R_far (p := ⟨gb850, 0, none⟩) (Kd.R_types Zg.out Zb.out (by decide)) (fun _ hk => hk.2) (.slice Ao46 t838.length co46)) (fun _ hk => hk.2) (.slice Ao49 t841.length co49)) (fun _ hk => hk.2) (.slice Ao50 t844.length co50)) (fun _ hk => hk.2) (.slice Ao51 t847.length co51)) (fun _ h_ => h_.1))) hb); have n3_ := zm (Kd.S_below (by (with_reducible repeat (first | apply Kd.S_alloc | apply Kd.S_drewN | apply Kd.S_drew)); exact (Kd.S_mono (Kd.S_far (p := ⟨gb850, 3, none⟩) (Kd.S_far (p := ⟨gb850, 2, none⟩) (Kd.S_far (p := ⟨gb850, 1, none⟩) (Kd.S_far (p := ⟨gb850, 0, none⟩) (Kd.S_types Zi.out Zb.out (by decide)) (fun _ hk => hk.2) (.slice Ao46 t838.length co46)) (fun _ hk => hk.2) (.slice Ao49 t841.length co49)) (fun _ hk => hk.2) (.slice Ao50 t844.length co50)) (fun _ hk => hk.2) (.slice Ao51 t847.length co51)) (fun _ h_ => h_.1))) hb); have n4_ := zm (Kd.R_below (by (with_reducible repeat (first | apply Kd.R_alloc | apply Kd.R_drewN | apply Kd.R_drew)); exact (Kd.R_mono (Kd.R_far (p := ⟨gb850, 3, none⟩) (Kd.R_far (p := ⟨gb850, 2, none⟩) (Kd.R_far (p := ⟨gb850, 1, none⟩) (Kd.R_far (p := ⟨gb850, 0, none⟩) (Kd.R_types Zh.out Zb.out (by decide)) (fun _ hk => hk.2) (.slice Ao46 t838.length co46)) (fun _ hk => hk.2) (.slice Ao49 t841.length co49)) (fun _ hk => hk.2) (.slice Ao50 t844.length co50)) (fun _ hk => hk.2) (.slice Ao51 t847.length co51)) (fun _ h_ => h_.1))) hb); have n5_ := zm (Kd.R_lower (Kd.R_new' ho0 (Kd.R_lt (by (with_reducible repeat (first | apply Kd.R_alloc | apply Kd.R_drewN | apply Kd.R_drew)); exact (Kd.R_mono (Kd.R_far (p := ⟨gb850, 3, none⟩) (Kd.R_far (p := ⟨gb850, 2, none⟩) (Kd.R_far (p := ⟨gb850, 1, none⟩) (Kd.R_far (p := ⟨gb850, 0, none⟩) (Kd.R_types Zd.out Zb.out (by decide)) (fun _ hk => hk.2) (.slice Ao46 t838.length co46)) (fun _ hk => hk.2) (.slice Ao49 t841.length co49)) (fun _ hk => hk.2) (.slice Ao50 t844.length co50)) (fun _ hk => hk.2) (.slice Ao51 t847.length co51)) (fun _ h_ => h_.1))))) (below_size (zg_5 HB.out Ze.out Zj.out))); have n6_ := zm (blk_below (g := gb820) (o := .cells #[.slice A0_0 l0_0.length c0_0, .slice A0_1 l0_1.length c0_1, .slice A0_2 l0_2.length c0_2, .slice A0_3 l0_3.length c0_3] 36 (0, 0)) (by (with_reducible repeat (first | refine blk_drewN ?_ _ | refine blk_drew ?_ | refine blk_alloc ?_ _)); refine blk_far ?_ Zk.out _; (with_reducible repeat (first | refine blk_drewN ?_ _ | refine blk_drew ?_ | refine blk_alloc ?_ _)); refine blk_far ?_ Zk.out _; (with_reducible repeat (first | refine blk_drewN ?_ _ | refine blk_drew ?_ | refine blk_alloc ?_ _)); refine blk_far ?_ Zk.out _; (with_reducible repeat (first | refine blk_drewN ?_ _ | refine blk_drew ?_ | refine blk_alloc ?_ _)); refine blk_far ?_ Zk.out _; (with_reducible repeat (first | refine blk_drewN ?_ _ | refine blk_drew ?_ | refine blk_alloc ?_ _)); exact Za.out) hb); have n7_ := zm (blk_below (g := gb850) (o := .cells #[.slice Ao46 t838.length co46, .slice Ao49 t841.length co49, .slice Ao50 t844.length co50, .slice Ao51 t847.length co51] 26 (0, 0)) (by (with_reducible repeat (first | refine blk_drewN ?_ _ | refine blk_drew ?_ | refine blk_alloc ?_ _)); refine blk_put (cs := #[.slice Ao46 t838.length co46, .slice Ao49 t841.length co49, .slice Ao50 t844.length co50, .slice none 0 0]) ?_ 3 _ rfl; (with_reducible repeat (first | refine blk_drewN ?_ _ | refine blk_drew ?_ | refine blk_alloc ?_ _)); refine blk_put (cs := #[.slice Ao46 t838.length co46, .slice Ao49 t841.length co49, .slice none 0 0, .slice none 0 0]) ?_ 2 _ rfl; (with_reducible repeat (first | refine blk_drewN ?_ _ | refine blk_drew ?_ | refine blk_alloc ?_ _)); refine blk_put (cs := #[.slice Ao46 t838.length co46, .slice none 0 0, .slice none 0 0, .slice none 0 0]) ?_ 1 _ rfl; (with_reducible repeat (first | refine blk_drewN ?_ _ | refine blk_drew ?_ | refine blk_alloc ?_ _)); refine blk_put (cs := #[.slice none 0 0, .slice none 0 0, .slice none 0 0, .slice none 0 0]) ?_ 0 _ rfl; (with_reducible repeat (first | refine blk_drewN ?_ _ | refine blk_drew ?_ | refine blk_alloc ?_ _)); exact Zb.out) hb); have n8_ := zm (below_step (zg_5 HB.out Ze.out Zj.out) hb); clear Zd; clear Zf; clear Zg; clear Zi; clear Zh; clear Za; clear Zb; clear HB; have Zd := n0_; have Zf := n1_; have Zg := n2_; have Zi := n3_; have Zh := n4_; have Zc := n5_; have Za := n6_; have Zb := n7_; have HB := n8_; clear n0_ n1_ n2_ n3_ n4_ n5_ n6_ n7_ n8_; (try clear hb); (try clear hb2); (try clear hk); (try clear hi); (try clear ho0); obtain ⟨Ao53, co53, eo53⟩ := Kd.R_slice Zc.out; subst eo53; obtain ⟨Ao54, co54, eo54⟩ := Kd.R_slice Zd.out; subst eo54) | ((with_reducible refine gate_callee (f := 25) rfl ?_); refine goesL_ (some 34) rfl rfl Tryz.func25 (by kernel_rfl) rfl #[.slice Ao53 t851.length co53, .slice Ao54 t834.length co54] rfl zq ?_; (with_reducible refine (laws_eqUpdateS.calls k _ _ t851 _ _ t834 true _ ?side1 ?side2 ?side3 ?side4 A11.out).mono ?_); (case side1 => exact zC ((Kd.R_reads' Zc.out).2.2)); (case side2 => exact (Kd.R_reads' Zc.out).2.1); (case side3 => exact zC ((Kd.R_reads' Zd.out).2.2)); (case side4 => exact (Kd.R_reads' Zd.out).2.1); rintro e w55 ⟨rfl, hb⟩; refine ⟨_, rfl, ?_⟩; have n0_ := zm (Kd.R_below (zg_6 Zd.out) hb); have n1_ := zm (Kd.R_below (zg_6 Zf.out) hb); have n2_ := zm (Kd.R_below (zg_6 Zg.out) hb); have n3_ := zm (Kd.S_below (zg_8 Zi.out) hb); have n4_ := zm (Kd.R_below (zg_6 Zh.out) hb); have n5_ := zm (Kd.R_below (zg_6 Zc.out) hb); have n6_ := zm (blk_below (g := gb820) (o := .cells #[.slice A0_0 l0_0.length c0_0, .slice A0_1 l0_1.length c0_1, .slice A0_2 l0_2.length c0_2, .slice A0_3 l0_3.length c0_3] 36 (0, 0)) (zg_3 Za.out) hb); have n7_ := zm (blk_below (g := gb850) (o := .cells #[.slice Ao46 t838.length co46, .slice Ao49 t841.length co49, .slice Ao50 t844.length co50, .slice Ao51 t847.length co51] 26 (0, 0)) (zg_3 Zb.out) hb); have n8_ := zm (below_step (zg_5 HB.out Ze.out Zj.out) hb); clear Zd; clear Zf; clear Zg; clear Zi; clear Zh; clear Zc; clear Za; clear Zb; clear HB; have Zd := n0_; have Zf := n1_; have Zg := n2_; have Zi := n3_; have Zh := n4_; have Zc := n5_; have Za := n6_; have Zb := n7_; have HB := n8_; clear n0_ n1_ n2_ n3_ n4_ n5_ n6_ n7_ n8_; (try clear hb); (try clear hb2); (try clear hk); (try clear hi)))
             have n0_ := zm (Kd.R_drew Zd.out)
             have n1_ := zm (Kd.R_drew Zf.out)
             have n2_ := zm (Kd.R_drew Zg.out)
             have n3_ := zm (Kd.S_drew Zi.out)
             have n4_ := zm (Kd.R_drew Zh.out)
             have n5_ := zm (Kd.R_drew Zc.out)
             have n6_ := zm (blk_drew Za.out)
             have n7_ := zm (blk_drew Zb.out)
             have n8_ := zm (below_drew1 HB.out)
             clear Zd
             clear Zf
             clear Zg
             clear Zi
             clear Zh
             clear Zc
             clear Za
             clear Zb
             clear HB
             have Zd := n0_
             have Zf := n1_
             have Zg := n2_
             have Zi := n3_
             have Zh := n4_
             have Zc := n5_
             have Za := n6_
             have Zb := n7_
             have HB := n8_
             clear n0_ n1_ n2_ n3_ n4_ n5_ n6_ n7_ n8_
             refine start_ (n := 5) (S := fun w' => w'.cell? ⟨gb850, 0, none⟩ = some (.slice Ao46 t838.length co46) ∧ w'.cell? ⟨gb850, 1, none⟩ = some (.slice Ao49 t841.length co49) ∧ w'.cell? ⟨gb850, 2, none⟩ = some (.slice Ao50 t844.length co50) ∧ w'.cell? ⟨gb850, 3, none⟩ = some (.slice Ao51 t847.length co51) ∧ w'.cell? ⟨gb820, 0, none⟩ = some (.slice A0_0 l0_0.length c0_0) ∧ w'.cell? ⟨gb820, 1, none⟩ = some (.slice A0_1 l0_1.length c0_1) ∧ w'.cell? ⟨gb820, 2, none⟩ = some (.slice A0_2 l0_2.length c0_2) ∧ w'.cell? ⟨gb820, 3, none⟩ = some (.slice A0_3 l0_3.length c0_3)) (ds := []) #[false, false, false, false, false] (by kernel_rfl) rfl rfl ⟨(blk_cell Zb.out 0).trans rfl, (blk_cell Zb.out 1).trans rfl, (blk_cell Zb.out 2).trans rfl, (blk_cell Zb.out 3).trans rfl, (blk_cell Za.out 0).trans rfl, (blk_cell Za.out 1).trans rfl, (blk_cell Za.out 2).trans rfl, (blk_cell Za.out 3).trans rfl⟩ (fun hHeld => ?_)
             generalize w55.drew = w56 at Zd Zf Zg Zi Zh Zc Za Zb HB hHeld ⊢
             refine take_ (i := 0) (N := some 41) (v := ?_) (a' := ?_) #[true, false, false, false, false] rfl rfl (by kernel_rfl) (fun _ _ _ h => h) (Or.inl ⟨by rfl, ?_⟩) hHeld ?_ ?_
             rotate_left
             ·rintro w' ⟨s0, s1, s2, s3, s4, s5, s6, s7⟩
              go_simp
              with_reducible rfl
             rotate_left
             ·simp only [Act.put, zs, zz, zt, i64_w, i32_w]
              rfl
             refine take_ (i := 1) (N := some 42) (v := ?_) (a' := ?_) #[true, true, false, false, false] rfl rfl (by kernel_rfl) (fun _ _ _ h => h) (Or.inl ⟨by rfl, ?_⟩) hHeld ?_ ?_
             rotate_left
             ·rintro w' ⟨s0, s1, s2, s3, s4, s5, s6, s7⟩
              go_simp
              with_reducible rfl
             rotate_left
             ·simp only [Act.put, zs, zz, zt, i64_w, i32_w]
              rfl
             refine one_ (i := 2) (N := some 43) #[true, true, true, false, false] rfl rfl (by kernel_rfl) (by decide) (fun K hK => ?_)
             refine goes_ Tryz.func16 (by kernel_rfl) rfl #[.agg #[.slice A0_0 l0_0.length c0_0, .slice A0_1 l0_1.length c0_1, .slice A0_2 l0_2.length c0_2, .slice A0_3 l0_3.length c0_3]] (by rfl) rfl rfl zq ?_
             with_reducible refine (laws_toImage.calls k _ _ l0_0 _ _ l0_1 _ _ l0_2 _ _ l0_3 t856 t859 t862 t865 _ ?side1 ?side2 ?side3 ?side4 ?side5 ?side6 ?side7 ?side8 A14.out).mono ?_
             (case side1 => exact zC (Kd.C_below Zp.out HB.out))
             (case side2 => exact Zq.out)
             (case side3 => exact zC (Kd.C_below Zr.out HB.out))
             (case side4 => exact Zs.out)
             (case side5 => exact zC (Kd.C_below Zt.out HB.out))
             (case side6 => exact Zu.out)
             (case side7 => exact zC (Kd.C_below Zv.out HB.out))
             (case side8 => exact Zw.out)
             rintro e w57 ⟨v857, v860, v863, v866, rfl, ho0, ho1, ho2, ho3, hb⟩
             refine ⟨_, rfl, ?_⟩
             have n0_ := zm (Kd.R_below (zg_6 Zd.out) hb)
             have n1_ := zm (Kd.R_mono (Kd.R_told (Kd.R_told (Kd.R_told (Kd.R_old (zg_6 Zf.out) hb) (Kd.R_base ho0)) (Kd.R_base ho1)) (Kd.R_base ho3)) (fun _ h_ => h_.1))
             have n2_ := zm (Kd.R_mono (Kd.R_told (Kd.R_told (Kd.R_told (Kd.R_old (zg_6 Zg.out) hb) (Kd.R_base ho0)) (Kd.R_base ho1)) (Kd.R_base ho3)) (fun _ h_ => h_.1))
             have n3_ := zm (Kd.S_mono (Kd.S_told (Kd.S_told (Kd.S_told (Kd.S_told (Kd.S_old (zg_8 Zi.out) hb) (Kd.R_base ho0)) (Kd.R_base ho1)) (Kd.S_base ho2)) (Kd.R_base ho3)) (fun _ h_ => h_.1))
             have n4_ := zm (Kd.R_mono (Kd.R_told (Kd.R_told (Kd.R_told (Kd.R_old (zg_6 Zh.out) hb) (Kd.R_base ho0)) (Kd.R_base ho1)) (Kd.R_base ho3)) (fun _ h_ => h_.1))
             have n5_ := zm (Kd.R_below (zg_6 Zc.out) hb)
             have n6_ := zm (Kd.R_lower (Kd.R_new' (Kd.R_new' (Kd.R_new' ho0 (Kd.R_lt (zg_6 Zf.out))) (Kd.R_lt (zg_6 Zg.out))) (Kd.R_lt (zg_6 Zh.out))) (below_size (zg_5 HB.out Ze.out Zj.out)))
             have n7_ := zm (Kd.R_lower (Kd.R_new' (Kd.R_new' (Kd.R_new' ho1 (Kd.R_lt (zg_6 Zf.out))) (Kd.R_lt (zg_6 Zg.out))) (Kd.R_lt (zg_6 Zh.out))) (below_size (zg_5 HB.out Ze.out Zj.out)))
             have n8_ := zm (Kd.S_lower (Kd.S_new' (Kd.S_new' (Kd.S_new' (Kd.S_new' ho2 (Kd.R_lt (zg_6 Zf.out))) (Kd.R_lt (zg_6 Zg.out))) (Kd.S_lt (zg_8 Zi.out))) (Kd.R_lt (zg_6 Zh.out))) (below_size (zg_5 HB.out Ze.out Zj.out)))
             have n9_ := zm (Kd.R_lower (Kd.R_new' (Kd.R_new' (Kd.R_new' ho3 (Kd.R_lt (zg_6 Zf.out))) (Kd.R_lt (zg_6 Zg.out))) (Kd.R_lt (zg_6 Zh.out))) (below_size (zg_5 HB.out Ze.out Zj.out)))
             have n10_ := zm (blk_below (g := gb820) (o := .cells #[.slice A0_0 l0_0.length c0_0, .slice A0_1 l0_1.length c0_1, .slice A0_2 l0_2.length c0_2, .slice A0_3 l0_3.length c0_3] 36 (0, 0)) (zg_3 Za.out) hb)
             have n11_ := zm (blk_below (g := gb850) (o := .cells #[.slice Ao46 t838.length co46, .slice Ao49 t841.length co49, .slice Ao50 t844.length co50, .slice Ao51 t847.length co51] 26 (0, 0)) (zg_3 Zb.out) hb)
             have n12_ := zm (below_step (zg_5 HB.out Ze.out Zj.out) hb)
             clear Zd
             clear Zf
             clear Zg
             clear Zi
             clear Zh
             clear Zc
             clear Za
             clear Zb
             clear HB
             have Zd := n0_
             have Zf := n1_
             have Zg := n2_
             have Zi := n3_
             have Zh := n4_
             have Zc := n5_
             have Zl := n6_
             have Zm := n7_
             have Zn := n8_
             have Zo := n9_
             have Za := n10_
             have Zb := n11_
             have HB := n12_
             clear n0_ n1_ n2_ n3_ n4_ n5_ n6_ n7_ n8_ n9_ n10_ n11_ n12_
             (try clear hb)
             (try clear hb2)
             (try clear hk)
             (try clear hi)
             (try clear ho0)
             (try clear ho1)
             (try clear ho2)
             (try clear ho3)
             obtain ⟨Ao58, co58, eo58⟩ := Kd.R_slice Zl.out
             (first | subst eo58 | (injection eo58 with f1_ f2_ f3_; have f4_ := f1_.symm; have f5_ := f3_.symm; clear f1_ f2_ f3_; subst f4_; subst f5_))
             obtain ⟨Ao59, co59, eo59⟩ := Kd.R_slice Zm.out
             (first | subst eo59 | (injection eo59 with f1_ f2_ f3_; have f4_ := f1_.symm; have f5_ := f3_.symm; clear f1_ f2_ f3_; subst f4_; subst f5_))
             obtain ⟨Ao60, co60, eo60⟩ := Kd.S_slice Zn.out
             (first | subst eo60 | (injection eo60 with f1_ f2_ f3_; have f4_ := f1_.symm; have f5_ := f3_.symm; clear f1_ f2_ f3_; subst f4_; subst f5_))
             obtain ⟨Ao61, co61, eo61⟩ := Kd.R_slice Zo.out
             (first | subst eo61 | (injection eo61 with f1_ f2_ f3_; have f4_ := f1_.symm; have f5_ := f3_.symm; clear f1_ f2_ f3_; subst f4_; subst f5_))
             refine hK.out _ _ ⟨(blk_cell Zb.out 0).trans rfl, (blk_cell Zb.out 1).trans rfl, (blk_cell Zb.out 2).trans rfl, (blk_cell Zb.out 3).trans rfl, (blk_cell Za.out 0).trans rfl, (blk_cell Za.out 1).trans rfl, (blk_cell Za.out 2).trans rfl, (blk_cell Za.out 3).trans rfl⟩ (fun hHeld => ?_)
             clear hK K
             refine norm_ (a' := ?_) ?_ ?_
             rotate_left
             ·show Act.put _ (some 43) _ = _
              simp only [Act.put, zs, zz, zt, i64_w, i32_w]
              rfl
             refine one_ (i := 3) (N := some 44) #[true, true, true, true, false] rfl rfl (by kernel_rfl) (by decide) (fun K hK => ?_)
             refine goes_ Tryz.func19 (by kernel_rfl) rfl #[.agg #[.slice Ao46 t838.length co46, .slice Ao49 t841.length co49, .slice Ao50 t844.length co50, .slice Ao51 t847.length co51], .agg #[.slice Ao58 t856.length co58, .slice Ao59 t859.length co59, .slice Ao60 t862.length co60, .slice Ao61 t865.length co61]] (by rfl) rfl rfl zq ?_
             with_reducible refine (laws_eqImage.calls k _ _ t838 _ _ t841 _ _ t844 _ _ t847 _ _ t856 _ _ t859 _ _ t862 _ _ t865 true _ ?side1 ?side2 ?side3 ?side4 ?side5 ?side6 ?side7 ?side8 ?side9 ?side10 ?side11 ?side12 ?side13 ?side14 ?side15 ?side16 A15.out).mono ?_
             (case side1 => exact zC ((Kd.R_reads' Zf.out).2.2))
             (case side2 => exact (Kd.R_reads' Zf.out).2.1)
             (case side3 => exact zC ((Kd.R_reads' Zg.out).2.2))
             (case side4 => exact (Kd.R_reads' Zg.out).2.1)
             (case side5 => exact zC ((Kd.S_reads' Zi.out).2.2))
             (case side6 => exact (Kd.S_reads' Zi.out).2.1)
             (case side7 => exact zC ((Kd.R_reads' Zh.out).2.2))
             (case side8 => exact (Kd.R_reads' Zh.out).2.1)
             (case side9 => exact zC ((Kd.R_reads' Zl.out).2.2))
             (case side10 => exact (Kd.R_reads' Zl.out).2.1)
             (case side11 => exact zC ((Kd.R_reads' Zm.out).2.2))
             (case side12 => exact (Kd.R_reads' Zm.out).2.1)
             (case side13 => exact zC ((Kd.S_reads' Zn.out).2.2))
             (case side14 => exact (Kd.S_reads' Zn.out).2.1)
             (case side15 => exact zC ((Kd.R_reads' Zo.out).2.2))
             (case side16 => exact (Kd.R_reads' Zo.out).2.1)
             rintro e w62 ⟨rfl, hb⟩
             refine ⟨_, rfl, ?_⟩
             have n0_ := zm (Kd.R_below (zg_6 Zd.out) hb)
             have n1_ := zm (Kd.R_below (zg_6 Zf.out) hb)
             have n2_ := zm (Kd.R_below (zg_6 Zg.out) hb)
             have n3_ := zm (Kd.S_below (zg_8 Zi.out) hb)
             have n4_ := zm (Kd.R_below (zg_6 Zh.out) hb)
             have n5_ := zm (Kd.R_below (zg_6 Zc.out) hb)
             have n6_ := zm (Kd.R_below (zg_6 Zl.out) hb)
             have n7_ := zm (Kd.R_below (zg_6 Zm.out) hb)
             have n8_ := zm (Kd.S_below (zg_8 Zn.out) hb)
             have n9_ := zm (Kd.R_below (zg_6 Zo.out) hb)
             have n10_ := zm (blk_below (g := gb820) (o := .cells #[.slice A0_0 l0_0.length c0_0, .slice A0_1 l0_1.length c0_1, .slice A0_2 l0_2.length c0_2, .slice A0_3 l0_3.length c0_3] 36 (0, 0)) (zg_3 Za.out) hb)
             have n11_ := zm (blk_below (g := gb850) (o := .cells #[.slice Ao46 t838.length co46, .slice Ao49 t841.length co49, .slice Ao50 t844.length co50, .slice Ao51 t847.length co51] 26 (0, 0)) (zg_3 Zb.out) hb)
             have n12_ := zm (below_step (zg_5 HB.out Ze.out Zj.out) hb)
             clear Zd
             clear Zf
             clear Zg
             clear Zi
             clear Zh
             clear Zc
             clear Zl
             clear Zm
             clear Zn
             clear Zo
             clear Za
             clear Zb
             clear HB
             have Zd := n0_
             have Zf := n1_
             have Zg := n2_
             have Zi := n3_
             have Zh := n4_
             have Zc := n5_
             have Zl := n6_
             have Zm := n7_
             have Zn := n8_
             have Zo := n9_
             have Za := n10_
             have Zb := n11_
             have HB := n12_
             clear n0_ n1_ n2_ n3_ n4_ n5_ n6_ n7_ n8_ n9_ n10_ n11_ n12_
             (try clear hb)
             (try clear hb2)
             (try clear hk)
             (try clear hi)
             refine hK.out _ _ ⟨(blk_cell Zb.out 0).trans rfl, (blk_cell Zb.out 1).trans rfl, (blk_cell Zb.out 2).trans rfl, (blk_cell Zb.out 3).trans rfl, (blk_cell Za.out 0).trans rfl, (blk_cell Za.out 1).trans rfl, (blk_cell Za.out 2).trans rfl, (blk_cell Za.out 3).trans rfl⟩ (fun hHeld => ?_)
             clear hK K
             refine norm_ (a' := ?_) ?_ ?_
             rotate_left
             ·show Act.put _ (some 44) _ = _
              simp only [Act.put, zs, zz, zt, i64_w, i32_w]
              rfl
             refine pure_ (i := 4) (N := some 45) (v := ?_) (a' := ?_) #[true, true, true, true, true] rfl rfl (by kernel_rfl) (fun _ _ _ h => h) (Or.inl ⟨by rfl, ?_⟩) ?_ ?_
             rotate_left
             ·intro w'
              go_simp
              with_reducible rfl
             rotate_left
             ·simp only [Act.put, zs, zz, zt, i64_w, i32_w]
              rfl
             refine done_ (by kernel_rfl) ?_
             have hcz63_0 : w62.cell? ⟨gb850, 0, none⟩ = some (.slice Ao46 t838.length co46) := (blk_cell Zb.out 0).trans rfl
             have hcz63_1 : w62.cell? ⟨gb850, 1, none⟩ = some (.slice Ao49 t841.length co49) := (blk_cell Zb.out 1).trans rfl
             have hcz63_2 : w62.cell? ⟨gb850, 2, none⟩ = some (.slice Ao50 t844.length co50) := (blk_cell Zb.out 2).trans rfl
             have hcz63_3 : w62.cell? ⟨gb850, 3, none⟩ = some (.slice Ao51 t847.length co51) := (blk_cell Zb.out 3).trans rfl
             have hfz63_0 := blk_frozen Zb.out 0
             have hfz63_1 := blk_frozen Zb.out 1
             have hfz63_2 := blk_frozen Zb.out 2
             have hfz63_3 := blk_frozen Zb.out 3
             clear Zl Zm Zn Zo
             have n_ := zm (Kd.R_mono (ok' := (fun k_ => some k_ ≠ (.slice Ao53 t851.length co53 : Value).ownBlock)) Zd.out (fun k_ hk => hk.2))
             clear Zd
             have Zd := n_
             clear n_
             have n_ := zm (Kd.R_mono (ok' := (fun k_ => some k_ ≠ (.slice Ao49 t841.length co49 : Value).ownBlock ∧ some k_ ≠ (.slice Ao51 t847.length co51 : Value).ownBlock)) Zf.out (fun k_ hk => ⟨hk.1.1.1.1, hk.1.1.1.2⟩))
             clear Zf
             have Zf := n_
             clear n_
             have n_ := zm (Kd.R_mono (ok' := (fun k_ => some k_ ≠ (.slice Ao46 t838.length co46 : Value).ownBlock ∧ some k_ ≠ (.slice Ao51 t847.length co51 : Value).ownBlock)) Zg.out (fun k_ hk => ⟨hk.1.1.1.1, hk.1.1.1.2⟩))
             clear Zg
             have Zg := n_
             clear n_
             have n_ := zm (Kd.S_mono (ok' := (fun k_ => some k_ ≠ (.slice Ao46 t838.length co46 : Value).ownBlock ∧ some k_ ≠ (.slice Ao49 t841.length co49 : Value).ownBlock ∧ some k_ ≠ (.slice Ao51 t847.length co51 : Value).ownBlock)) Zi.out (fun k_ hk => ⟨hk.1.1.1.1.1, ⟨hk.1.1.1.1.2.1, hk.1.1.1.1.2.2⟩⟩))
             clear Zi
             have Zi := n_
             clear n_
             have n_ := zm (Kd.R_mono (ok' := (fun k_ => some k_ ≠ (.slice Ao46 t838.length co46 : Value).ownBlock ∧ some k_ ≠ (.slice Ao49 t841.length co49 : Value).ownBlock)) Zh.out (fun k_ hk => ⟨hk.1.1.1.1, hk.1.1.1.2⟩))
             clear Zh
             have Zh := n_
             clear n_
             have n_ := zm (Kd.R_mono (ok' := (fun k_ => some k_ ≠ (.slice Ao54 t834.length co54 : Value).ownBlock)) Zc.out (fun k_ hk => hk.2))
             clear Zc
             have Zc := n_
             clear n_
             try go_wp2_with (first | ((with_reducible refine gate_callee (f := 20) rfl ?_); refine goesL_ (some 48) rfl rfl Tryz.func20 (by kernel_rfl) rfl #[.agg #[.slice Ao46 t838.length co46, .slice Ao49 t841.length co49, .slice Ao50 t844.length co50, .slice Ao51 t847.length co51], .int .i64 1] rfl zq ?_; (with_reducible refine (laws_markImage.calls k (fun k_ => some k_ = (.slice Ao46 t838.length co46 : Value).ownBlock) (.slice Ao46 t838.length co46) t838 (fun k_ => some k_ = (.slice Ao49 t841.length co49 : Value).ownBlock) (.slice Ao49 t841.length co49) t841 (fun k_ => ((some k_ ≠ (.slice Ao46 t838.length co46 : Value).ownBlock ∧ (some k_ ≠ (.slice Ao49 t841.length co49 : Value).ownBlock ∧ some k_ ≠ (.slice Ao51 t847.length co51 : Value).ownBlock))) ∧ ∃ q_, q_ ∈ (103 :: (k103).E) ∧ ∃ cs_, w62.heap[k_]? = some (.cells cs_ q_ (0, 0))) (.slice Ao50 t844.length co50) t844 (fun k_ => some k_ = (.slice Ao51 t847.length co51 : Value).ownBlock) (.slice Ao51 t847.length co51) t847 1 t869 w _ ?side1 ?side2 ?side3 ?side4 ?side5 ?side6 ?side7 ?side8 ?side9 ?side10 ?side11 ?side12 ?side13 ?side14 ?side15 ?side16 ?side17 A17.out).mono ?_); (case side1 => repeat (first | (with_reducible first | exact HB.out | apply below_alloc | apply pw_below_drewN | apply below_drew1 | refine below_set ?_ Ze.out | refine below_set ?_ Zj.out) | exact HB.out)); (case side2 => exact Kd.R_tight rfl Zf.out); (case side3 => exact fun k_ e_ => (Zf.out.1 k_ e_.symm).1); (case side4 => exact fun k_ e_ hP_ => (hP_.1.1) e_); (case side5 => exact fun k_ e_ => (Zf.out.1 k_ e_.symm).2); (case side6 => exact Kd.R_tight rfl Zg.out); (case side7 => exact fun k_ e_ => (Zg.out.1 k_ e_.symm).1); (case side8 => exact fun k_ e_ hP_ => (hP_.1.2.1) e_); (case side9 => exact fun k_ e_ => (Zg.out.1 k_ e_.symm).2); (case side10 => exact Kd.S_mono (Kd.S_bound (Zi.out)) (fun k_ h_ => ⟨h_.1, h_.2.2.2⟩)); (case side11 => exact fun k_ hP_ e_ => (hP_.1.1) e_); (case side12 => exact fun k_ hP_ e_ => (hP_.1.2.1) e_); (case side13 => exact fun k_ hP_ e_ => (hP_.1.2.2) e_); (case side14 => exact Kd.R_tight rfl Zh.out); (case side15 => exact fun k_ e_ => (Zh.out.1 k_ e_.symm).1); (case side16 => exact fun k_ e_ => (Zh.out.1 k_ e_.symm).2); (case side17 => exact fun k_ e_ hP_ => (hP_.1.2.2) e_); rintro e w64 ⟨rfl, hb, hkp⟩; refine ⟨_, rfl, ?_⟩; have n0_ := zm (blk_kept (zg_3 Za.out) hkp (fun hs_ => Or.elim hs_ (fun e_ => (fun e_ => (Kd.R_ne Zf.out Za.out (by decide)) e_) e_) (fun e_ => Or.elim e_ (fun e_ => (fun e_ => (Kd.R_ne Zg.out Za.out (by decide)) e_) e_) (fun e_ => Or.elim e_ (fun e_ => (fun hP_ => (by obtain ⟨_, q_, hq_, cs_, hc_⟩ := hP_; have hb_ := Za.out; rw [hb_] at hc_; injection hc_ with hc_; injection hc_ with _ h2_; rw [← h2_] at hq_; exact absurd hq_ (by decide))) e_) (fun e_ => (fun e_ => (Kd.R_ne Zh.out Za.out (by decide)) e_) e_))))); have n1_ := zm (Kd.R_mono (ok' := fun k_ => some k_ ≠ (.slice Ao53 t851.length co53 : Value).ownBlock) (Kd.R_keptB ((Kd.R_apart' (Kd.R_mono (ok' := fun k_ => ((some k_ ≠ (.slice Ao53 t851.length co53 : Value).ownBlock ∧ some k_ ≠ (.slice Ao46 t838.length co46 : Value).ownBlock) ∧ some k_ ≠ (.slice Ao49 t841.length co49 : Value).ownBlock) ∧ ¬ (((some k_ ≠ (.slice Ao46 t838.length co46 : Value).ownBlock ∧ (some k_ ≠ (.slice Ao49 t841.length co49 : Value).ownBlock ∧ some k_ ≠ (.slice Ao51 t847.length co51 : Value).ownBlock))) ∧ ∃ q_, q_ ∈ (103 :: (k103).E) ∧ ∃ cs_, w62.heap[k_]? = some (.cells cs_ q_ (0, 0)))) (Kd.R_tight2 rfl (Kd.R_apart' (Kd.R_apart' Zd.out (Kd.R_typed Zf.out) (by decide)) (Kd.R_typed Zg.out) (by decide))) (fun k_ hk => ⟨hk.2, fun hP_ => (by obtain ⟨_, q_, hq_, cs_, hc_⟩ := hP_; obtain ⟨c2_, h2_⟩ := Kd.R_typed ((Kd.R_apart' (Kd.R_apart' Zd.out (Kd.R_typed Zf.out) (by decide)) (Kd.R_typed Zg.out) (by decide))) _ hk.1.symm; rw [h2_] at hc_; injection hc_ with hc_; injection hc_ with _ h3_; rw [← h3_] at hq_; exact absurd hq_ (by decide))⟩)) (Kd.R_typed Zh.out) (by decide))) hkp (fun k_ hk_ hs_ => Or.elim hs_ (fun e_ => (hk_.1.1.1.2) e_) (fun e_ => Or.elim e_ (fun e_ => (hk_.1.1.2) e_) (fun e_ => Or.elim e_ (fun e_ => (hk_.1.2) e_) (fun e_ => (hk_.2) e_))))) (fun k_ hk_ => hk_.1.1.1.1.1)); have n2_ := zm (blk_kept (zg_3 Zb.out) hkp (fun hs_ => Or.elim hs_ (fun e_ => (fun e_ => (Kd.R_ne Zf.out Zb.out (by decide)) e_) e_) (fun e_ => Or.elim e_ (fun e_ => (fun e_ => (Kd.R_ne Zg.out Zb.out (by decide)) e_) e_) (fun e_ => Or.elim e_ (fun e_ => (fun hP_ => (by obtain ⟨_, q_, hq_, cs_, hc_⟩ := hP_; have hb_ := Zb.out; rw [hb_] at hc_; injection hc_ with hc_; injection hc_ with _ h2_; rw [← h2_] at hq_; exact absurd hq_ (by decide))) e_) (fun e_ => (fun e_ => (Kd.R_ne Zh.out Zb.out (by decide)) e_) e_))))); have n3_ := zm (Kd.R_mono (ok' := fun k_ => some k_ ≠ (.slice Ao54 t834.length co54 : Value).ownBlock) (Kd.R_keptB ((Kd.R_apart' (Kd.R_mono (ok' := fun k_ => ((some k_ ≠ (.slice Ao54 t834.length co54 : Value).ownBlock ∧ some k_ ≠ (.slice Ao46 t838.length co46 : Value).ownBlock) ∧ some k_ ≠ (.slice Ao49 t841.length co49 : Value).ownBlock) ∧ ¬ (((some k_ ≠ (.slice Ao46 t838.length co46 : Value).ownBlock ∧ (some k_ ≠ (.slice Ao49 t841.length co49 : Value).ownBlock ∧ some k_ ≠ (.slice Ao51 t847.length co51 : Value).ownBlock))) ∧ ∃ q_, q_ ∈ (103 :: (k103).E) ∧ ∃ cs_, w62.heap[k_]? = some (.cells cs_ q_ (0, 0)))) (Kd.R_tight2 rfl (Kd.R_apart' (Kd.R_apart' Zc.out (Kd.R_typed Zf.out) (by decide)) (Kd.R_typed Zg.out) (by decide))) (fun k_ hk => ⟨hk.2, fun hP_ => (by obtain ⟨_, q_, hq_, cs_, hc_⟩ := hP_; obtain ⟨c2_, h2_⟩ := Kd.R_typed ((Kd.R_apart' (Kd.R_apart' Zc.out (Kd.R_typed Zf.out) (by decide)) (Kd.R_typed Zg.out) (by decide))) _ hk.1.symm; rw [h2_] at hc_; injection hc_ with hc_; injection hc_ with _ h3_; rw [← h3_] at hq_; exact absurd hq_ (by decide))⟩)) (Kd.R_typed Zh.out) (by decide))) hkp (fun k_ hk_ hs_ => Or.elim hs_ (fun e_ => (hk_.1.1.1.2) e_) (fun e_ => Or.elim e_ (fun e_ => (hk_.1.1.2) e_) (fun e_ => Or.elim e_ (fun e_ => (hk_.1.2) e_) (fun e_ => (hk_.2) e_))))) (fun k_ hk_ => hk_.1.1.1.1.1)); have n4_ := zm (hb); clear Za; clear Zd; clear Zb; clear Zc; clear HB; clear Zf; clear Zg; clear Zi; clear Zh; have Za := n0_; have Zd := n1_; have Zb := n2_; have Zc := n3_; have HB := n4_; clear n0_ n1_ n2_ n3_ n4_; (try clear hb); (try clear hkp)) | (go_at_call 25; (with_reducible refine (laws_eqUpdateS.calls k _ _ t851 _ _ t834 true _ ?side1 ?side2 ?side3 ?side4 A19.out).mono ?_); (case side1 => exact zC ((Kd.R_reads' Zc.out).2.2)); (case side2 => exact (Kd.R_reads' Zc.out).2.1); (case side3 => exact zC ((Kd.R_reads' Zd.out).2.2)); (case side4 => exact (Kd.R_reads' Zd.out).2.1); rintro e w65 ⟨rfl, hb⟩; have n0_ := zm (Kd.R_below (zg_6 Zd.out) hb); have n1_ := zm (Kd.R_below (zg_6 Zc.out) hb); have n2_ := zm (blk_below (g := gb820) (o := .cells #[.slice A0_0 l0_0.length c0_0, .slice A0_1 l0_1.length c0_1, .slice A0_2 l0_2.length c0_2, .slice A0_3 l0_3.length c0_3] 36 (0, 0)) (zg_3 Za.out) hb); have n3_ := zm (blk_below (g := gb850) (o := .cells #[.slice Ao46 t838.length co46, .slice Ao49 t841.length co49, .slice Ao50 t844.length co50, .slice Ao51 t847.length co51] 26 (0, 0)) (zg_3 Zb.out) hb); have n4_ := zm (below_step (zg_5 HB.out Ze.out Zj.out) hb); clear Zd; clear Zc; clear Za; clear Zb; clear HB; have Zd := n0_; have Zc := n1_; have Za := n2_; have Zb := n3_; have HB := n4_; clear n0_ n1_ n2_ n3_ n4_; (try clear hb); (try clear hb2); (try clear hk); (try clear hi)) | ((with_reducible refine gate_callee (f := 26) rfl ?_); refine goesL_ (some 64) rfl rfl Tryz.func26 (by kernel_rfl) rfl #[.slice Ao53 t851.length co53, .int .i64 1] rfl zq ?_; (with_reducible refine (laws_markUpdateS.calls k (fun k_ => some k_ = (.slice Ao53 t851.length co53 : Value).ownBlock) (.slice Ao53 t851.length co53) t851 1 t871 t872 w _ ?side1 ?side2 A21.out).mono ?_); (case side1 => repeat (first | (with_reducible first | exact HB.out | apply below_alloc | apply pw_below_drewN | apply below_drew1 | refine below_set ?_ Ze.out | refine below_set ?_ Zj.out) | exact HB.out)); (case side2 => exact Kd.R_tight rfl Zc.out); rintro e w66 ⟨rfl, hy0, hb, hkp⟩; refine ⟨_, rfl, ?_⟩; have n0_ := zm (blk_kept (zg_3 Za.out) hkp (fun hs_ => (fun e_ => (Kd.R_ne Zc.out Za.out (by decide)) e_) hs_)); have n1_ := zm (Kd.R_mono (ok' := fun k_ => some k_ ≠ (.slice Ao53 t851.length co53 : Value).ownBlock) (Kd.R_keptB (Zd.out) hkp (fun k_ hk_ hs_ => (hk_) hs_)) (fun k_ hk_ => hk_.1)); have n2_ := zm (blk_kept (zg_3 Zb.out) hkp (fun hs_ => (fun e_ => (Kd.R_ne Zc.out Zb.out (by decide)) e_) hs_)); have n3_ := zm (Kd.R_reok rfl hy0 (fun k_ e_ => Zc.out.1 k_ e_)); have n4_ := zm (hb); clear Za; clear Zd; clear Zb; clear Zc; clear HB; have Za := n0_; have Zd := n1_; have Zb := n2_; have Zc := n3_; have HB := n4_; clear n0_ n1_ n2_ n3_ n4_; (try clear hb); (try clear hkp); (try clear hy0)) | ((with_reducible refine gate_callee (f := 27) rfl ?_); refine goesL_ (some 67) rfl rfl Tryz.func27 (by kernel_rfl) rfl #[.slice Ao53 t872.length co53, .int .i64 1] rfl (by (try simp only [List.map_toArray, List.map_cons, List.map_nil]); first | done | (rw [show t872.length = t851.length from (Kd.R_reads' Zc.out).1.symm] <;> rfl) | rfl | (simp only [List.length_drop, List.length_take]; rfl)) ?_; (with_reducible refine (laws_heldUpdateS.calls k _ _ t872 1 t873 _ ?side1 ?side2 A22.out).mono ?_); (case side1 => exact zC ((Kd.R_reads' Zc.out).2.2)); (case side2 => rw [show t872.length = t851.length from (Kd.R_reads' Zc.out).1.symm]; exact (Kd.R_reads' Zc.out).2.1); rintro e w67 ⟨rfl, hb⟩; refine ⟨_, rfl, ?_⟩; have n0_ := zm (Kd.R_below (zg_6 Zd.out) hb); have n1_ := zm (Kd.R_below (zg_6 Zc.out) hb); have n2_ := zm (blk_below (g := gb820) (o := .cells #[.slice A0_0 l0_0.length c0_0, .slice A0_1 l0_1.length c0_1, .slice A0_2 l0_2.length c0_2, .slice A0_3 l0_3.length c0_3] 36 (0, 0)) (zg_3 Za.out) hb); have n3_ := zm (blk_below (g := gb850) (o := .cells #[.slice Ao46 t838.length co46, .slice Ao49 t841.length co49, .slice Ao50 t844.length co50, .slice Ao51 t847.length co51] 26 (0, 0)) (zg_3 Zb.out) hb); have n4_ := zm (below_step (zg_5 HB.out Ze.out Zj.out) hb); clear Zd; clear Zc; clear Za; clear Zb; clear HB; have Zd := n0_; have Zc := n1_; have Za := n2_; have Zb := n3_; have HB := n4_; clear n0_ n1_ n2_ n3_ n4_; (try clear hb); (try clear hb2); (try clear hk); (try clear hi); have hcz68_0 : w67.cell? ⟨gb820, 0, none⟩ = some (.slice A0_0 l0_0.length c0_0) := (blk_cell Za.out 0).trans rfl; have hcz68_1 : w67.cell? ⟨gb820, 1, none⟩ = some (.slice A0_1 l0_1.length c0_1) := (blk_cell Za.out 1).trans rfl; have hcz68_2 : w67.cell? ⟨gb820, 2, none⟩ = some (.slice A0_2 l0_2.length c0_2) := (blk_cell Za.out 2).trans rfl; have hcz68_3 : w67.cell? ⟨gb820, 3, none⟩ = some (.slice A0_3 l0_3.length c0_3) := (blk_cell Za.out 3).trans rfl; have hfz68_0 := blk_frozen Za.out 0; have hfz68_1 := blk_frozen Za.out 1; have hfz68_2 := blk_frozen Za.out 2; have hfz68_3 := blk_frozen Za.out 3) | ((with_reducible refine gate_callee (f := 16) rfl ?_); refine goesL_ (some 75) rfl rfl Tryz.func16 (by kernel_rfl) rfl #[.agg #[.slice A0_0 l0_0.length c0_0, .slice A0_1 l0_1.length c0_1, .slice A0_2 l0_2.length c0_2, .slice A0_3 l0_3.length c0_3]] rfl zq ?_; (with_reducible refine (laws_toImage.calls k _ _ l0_0 _ _ l0_1 _ _ l0_2 _ _ l0_3 t874 t877 t880 t883 _ ?side1 ?side2 ?side3 ?side4 ?side5 ?side6 ?side7 ?side8 A25.out).mono ?_); (case side1 => exact zC (Kd.C_below Zp.out HB.out)); (case side2 => exact Zq.out); (case side3 => exact zC (Kd.C_below Zr.out HB.out)); (case side4 => exact Zs.out); (case side5 => exact zC (Kd.C_below Zt.out HB.out)); (case side6 => exact Zu.out); (case side7 => exact zC (Kd.C_below Zv.out HB.out)); (case side8 => exact Zw.out); rintro e w69 ⟨v875, v878, v881, v884, rfl, ho0, ho1, ho2, ho3, hb⟩; refine ⟨_, rfl, ?_⟩; have n0_ := zm (Kd.R_below (zg_6 Zd.out) hb); have n1_ := zm (Kd.R_below (zg_6 Zc.out) hb); have n2_ := zm (Kd.R_lower ho0 (below_size (zg_5 HB.out Ze.out Zj.out))); have n3_ := zm (Kd.R_lower ho1 (below_size (zg_5 HB.out Ze.out Zj.out))); have n4_ := zm (Kd.S_lower ho2 (below_size (zg_5 HB.out Ze.out Zj.out))); have n5_ := zm (Kd.R_lower ho3 (below_size (zg_5 HB.out Ze.out Zj.out))); have n6_ := zm (blk_below (g := gb820) (o := .cells #[.slice A0_0 l0_0.length c0_0, .slice A0_1 l0_1.length c0_1, .slice A0_2 l0_2.length c0_2, .slice A0_3 l0_3.length c0_3] 36 (0, 0)) (zg_3 Za.out) hb); have n7_ := zm (blk_below (g := gb850) (o := .cells #[.slice Ao46 t838.length co46, .slice Ao49 t841.length co49, .slice Ao50 t844.length co50, .slice Ao51 t847.length co51] 26 (0, 0)) (zg_3 Zb.out) hb); have n8_ := zm (below_step (zg_5 HB.out Ze.out Zj.out) hb); clear Zd; clear Zc; clear Za; clear Zb; clear HB; have Zd := n0_; have Zc := n1_; have ZB := n2_; have ZC := n3_; have ZD := n4_; have ZE := n5_; have Za := n6_; have Zb := n7_; have HB := n8_; clear n0_ n1_ n2_ n3_ n4_ n5_ n6_ n7_ n8_; (try clear hb); (try clear hb2); (try clear hk); (try clear hi); (try clear ho0); (try clear ho1); (try clear ho2); (try clear ho3); obtain ⟨Ao70, co70, eo70⟩ := Kd.R_slice ZB.out; subst eo70; obtain ⟨Ao71, co71, eo71⟩ := Kd.R_slice ZC.out; subst eo71; obtain ⟨Ao72, co72, eo72⟩ := Kd.S_slice ZD.out; subst eo72; obtain ⟨Ao73, co73, eo73⟩ := Kd.R_slice ZE.out; subst eo73) | ((with_reducible refine gate_callee (f := 24) rfl ?_); refine goesL_ (some 76) rfl rfl Tryz.func24 (by kernel_rfl) rfl #[.agg #[.slice Ao70 t874.length co70, .slice Ao71 t877.length co71, .slice Ao72 t880.length co72, .slice Ao73 t883.length co73]] rfl zq ?_; (with_reducible refine (impl_ImageUpdates.calls k _ _ t874 _ _ t877 _ _ t880 _ _ t883 t886 t889 _ ?side1 ?side2 ?side3 ?side4 ?side5 ?side6 ?side7 ?side8 A26.out).mono ?_); (case side1 => exact zC ((Kd.R_reads' ZB.out).2.2)); (case side2 => exact (Kd.R_reads' ZB.out).2.1); (case side3 => exact zC ((Kd.R_reads' ZC.out).2.2)); (case side4 => exact (Kd.R_reads' ZC.out).2.1); (case side5 => exact zC ((Kd.S_reads' ZD.out).2.2)); (case side6 => exact (Kd.S_reads' ZD.out).2.1); (case side7 => exact zC ((Kd.R_reads' ZE.out).2.2)); (case side8 => exact (Kd.R_reads' ZE.out).2.1); rintro e w74 ⟨v887, rfl, ho0, hb⟩; refine ⟨_, rfl, ?_⟩; have n0_ := zm (Kd.R_elder' (zg_6 Zd.out) (Kd.R_base ho0) hb); have n1_ := zm (Kd.R_elder' (zg_6 Zc.out) (Kd.R_base ho0) hb); have n2_ := zm (Kd.R_lower (Kd.R_new' (Kd.R_new' ho0 (Kd.R_lt (zg_6 Zd.out))) (Kd.R_lt (zg_6 Zc.out))) (below_size (zg_5 HB.out Ze.out Zj.out))); have n3_ := zm (blk_below (g := gb820) (o := .cells #[.slice A0_0 l0_0.length c0_0, .slice A0_1 l0_1.length c0_1, .slice A0_2 l0_2.length c0_2, .slice A0_3 l0_3.length c0_3] 36 (0, 0)) (zg_3 Za.out) hb); have n4_ := zm (blk_below (g := gb850) (o := .cells #[.slice Ao46 t838.length co46, .slice Ao49 t841.length co49, .slice Ao50 t844.length co50, .slice Ao51 t847.length co51] 26 (0, 0)) (zg_3 Zb.out) hb); have n5_ := zm (below_step (zg_5 HB.out Ze.out Zj.out) hb); clear Zd; clear Zc; clear Za; clear Zb; clear HB; have Zd := n0_; have Zc := n1_; have ZF := n2_; have Za := n3_; have Zb := n4_; have HB := n5_; clear n0_ n1_ n2_ n3_ n4_ n5_; (try clear hb); (try clear hb2); (try clear hk); (try clear hi); (try clear ho0); (try clear ZB); (try clear ZC); (try clear ZD); (try clear ZE); obtain ⟨Ao75, co75, eo75⟩ := Kd.R_slice ZF.out; subst eo75) | ((with_reducible refine gate_callee (f := 25) rfl ?_); refine goesL_ (some 81) rfl rfl Tryz.func25 (by kernel_rfl) rfl #[.slice Ao75 t886.length co75, .slice Ao54 t834.length co54] rfl zq ?_; (with_reducible refine (laws_eqUpdateS.calls k _ _ t886 _ _ t834 true _ ?side1 ?side2 ?side3 ?side4 A27.out).mono ?_); (case side1 => exact zC ((Kd.R_reads' ZF.out).2.2)); (case side2 => exact (Kd.R_reads' ZF.out).2.1); (case side3 => exact zC ((Kd.R_reads' Zd.out).2.2)); (case side4 => exact (Kd.R_reads' Zd.out).2.1); rintro e w76 ⟨rfl, hb⟩; refine ⟨_, rfl, ?_⟩; have n0_ := zm (Kd.R_mono (ok := fun k_ => (some k_ ≠ (.slice Ao54 t834.length co54 : Value).ownBlock ∧ some k_ ≠ (.slice Ao75 t886.length co75 : Value).ownBlock)) (ok' := fun k_ => True) (Kd.R_below (zg_6 Zc.out) hb) (fun k_ hk => trivial)); have n1_ := zm (blk_below (g := gb820) (o := .cells #[.slice A0_0 l0_0.length c0_0, .slice A0_1 l0_1.length c0_1, .slice A0_2 l0_2.length c0_2, .slice A0_3 l0_3.length c0_3] 36 (0, 0)) (zg_3 Za.out) hb); have n2_ := zm (blk_below (g := gb850) (o := .cells #[.slice Ao46 t838.length co46, .slice Ao49 t841.length co49, .slice Ao50 t844.length co50, .slice Ao51 t847.length co51] 26 (0, 0)) (zg_3 Zb.out) hb); have n3_ := zm (below_step (zg_5 HB.out Ze.out Zj.out) hb); clear Zc; clear Za; clear Zb; clear HB; have Zc := n0_; have Za := n1_; have Zb := n2_; have HB := n3_; clear n0_ n1_ n2_ n3_; (try clear hb); (try clear hb2); (try clear hk); (try clear hi); (try clear Zd); (try clear ZF)) | ((with_reducible refine gate_callee (f := 27) rfl ?_); refine goesL_ (some 90) rfl rfl Tryz.func27 (by kernel_rfl) rfl #[.slice Ao53 t872.length co53, .int .i64 1] rfl (by (try simp only [List.map_toArray, List.map_cons, List.map_nil]); first | done | (rw [show t872.length = t851.length from (Kd.R_reads' Zc.out).1.symm] <;> rfl) | rfl | (simp only [List.length_drop, List.length_take]; rfl)) ?_; (with_reducible refine (laws_heldUpdateS.calls k _ _ t872 1 t891 _ ?side1 ?side2 A30.out).mono ?_); (case side1 => exact zC ((Kd.R_reads' Zc.out).2.2)); (case side2 => rw [show t872.length = t851.length from (Kd.R_reads' Zc.out).1.symm]; exact (Kd.R_reads' Zc.out).2.1); rintro e w77 ⟨rfl, hb⟩; refine ⟨_, rfl, ?_⟩; have n0_ := zm (blk_below (g := gb820) (o := .cells #[.slice A0_0 l0_0.length c0_0, .slice A0_1 l0_1.length c0_1, .slice A0_2 l0_2.length c0_2, .slice A0_3 l0_3.length c0_3] 36 (0, 0)) (zg_3 Za.out) hb); have n1_ := zm (blk_below (g := gb850) (o := .cells #[.slice Ao46 t838.length co46, .slice Ao49 t841.length co49, .slice Ao50 t844.length co50, .slice Ao51 t847.length co51] 26 (0, 0)) (zg_3 Zb.out) hb); have n2_ := zm (below_step (zg_5 HB.out Ze.out Zj.out) hb); clear Za; clear Zb; clear HB; have Za := n0_; have Zb := n1_; have HB := n2_; clear n0_ n1_ n2_; (try clear hb); (try clear hb2); (try clear hk); (try clear hi); (try clear Zc)))
             go_ret
             exact ⟨by first | rfl | (simp [errW_none, errW_some] <;> rfl) | (simp [*, errW_none, errW_some] <;> rfl), zg_5 HB.out Ze.out Zj.out⟩
            ·rw [if_neg c32] at H
             have c32b0 : (t891 == t871) = false := beq_eq_false_iff_ne.mpr c32
             have c32b1 : (t891 != t871) = true := bne_iff_ne.mpr c32
             exact absurd hr_.out (by rw [← Option.some.inj H]; decide)
          ·rw [if_neg c29] at H
           have c29b0 : (t889 == t837) = false := beq_eq_false_iff_ne.mpr c29
           have c29b1 : (t889 != t837) = true := bne_iff_ne.mpr c29
           exact absurd hr_.out (by rw [← Option.some.inj H]; decide)
         ·replace c28 := Bool.eq_false_iff.mpr c28
          subst c28
          have H1 : (some false) = some r := by rw [if_neg (show ¬ (false = true) by decide)] at H; exact H
          clear H
          have H := H1
          clear H1
          exact absurd hr_.out (by rw [← Option.some.inj H]; decide)
        ·rw [if_neg c24] at H
         have c24b0 : (t873 == t871) = false := beq_eq_false_iff_ne.mpr c24
         have c24b1 : (t873 != t871) = true := bne_iff_ne.mpr c24
         exact absurd hr_.out (by rw [← Option.some.inj H]; decide)
      ·replace c20 := Bool.eq_false_iff.mpr c20
       subst c20
       have H1 : (some false) = some r := by rw [if_neg (show ¬ (false = true) by decide)] at H; exact H
       clear H
       have H := H1
       clear H1
       exact absurd hr_.out (by rw [← Option.some.inj H]; decide)
    ·replace c16 := Bool.eq_false_iff.mpr c16
     subst c16
     have H1 : (some false) = some r := by rw [if_neg (show ¬ (false = true) by decide)] at H; exact H
     clear H
     have H := H1
     clear H1
     exact absurd hr_.out (by rw [← Option.some.inj H]; decide)
   ·rw [if_neg c13] at H
    have c13b0 : (t854 == t837) = false := beq_eq_false_iff_ne.mpr c13
    have c13b1 : (t854 != t837) = true := bne_iff_ne.mpr c13
    exact absurd hr_.out (by rw [← Option.some.inj H]; decide)
  ·replace c12 := Bool.eq_false_iff.mpr c12
   subst c12
   have H1 : (some false) = some r := by rw [if_neg (show ¬ (false = true) by decide)] at H; exact H
   clear H
   have H := H1
   clear H1
   exact absurd hr_.out (by rw [← Option.some.inj H]; decide)
end
/-! ### Base -/
def okI (x : Int) : Prop := (Lit.int .i64 x).wf = true
def okU8 (x : Int) : Prop := (Lit.int .u8 x).wf = true
def okB (_ : Bool) : Prop := True
def okS (x : ByteArray) : Prop := x.size ≤ maxLen
theorem w64 {n : Int} (h0 : -9223372036854775808 ≤ n) (h1 : n ≤ 9223372036854775807) : wrap64 n = n := by unfold wrap64; omega
theorem okI_iff {n : Int} (h : (Lit.int .i64 n).wf = true) : -9223372036854775808 ≤ n ∧ n ≤ 9223372036854775807 := by
  simp [Lit.wf, IntKind.min, IntKind.max, IntKind.signed, IntKind.bits] at h
  omega
theorem Ev.k {α : Type} {g : Nat → Option α} {r : α} (K : Nat) (h : ∀ k, K ≤ k → g k = some r) : Ev g r := ⟨K, h⟩
theorem ev_some {α : Type} (r : α) : Ev (fun _ => some r) r := ⟨0, fun _ _ => rfl⟩
theorem ev_of_eq {α : Type} {g : Nat → Option α} {r : α} (h : ∀ k, g k = some r) : Ev g r := ⟨0, fun k _ => h k⟩
theorem ev_bind {α β : Type} {g : Nat → Option α} {f : Nat → α → Option β} {a : α} {r : β} (h : Ev g a) (k : Ev (fun n => f n a) r) : Ev (fun n => (g n).bind (f n)) r := Ev.bind h k
theorem ev_if {α : Type} {c : Prop} [Decidable c] {g f : Nat → Option α} {r : α} (h : c → Ev g r) (h' : ¬ c → Ev f r) : Ev (fun n => if c then g n else f n) r := by
  by_cases hc : c
  · simp only [if_pos hc]; exact h hc
  · simp only [if_neg hc]; exact h' hc
theorem ev_pos {α : Type} {c : Prop} [Decidable c] {g f : Nat → Option α} {r : α} (hc : c) (h : Ev g r) : Ev (fun n => if c then g n else f n) r := by
  simp only [if_pos hc]; exact h
theorem ev_neg {α : Type} {c : Prop} [Decidable c] {g f : Nat → Option α} {r : α} (hc : ¬ c) (h : Ev f r) : Ev (fun n => if c then g n else f n) r := by
  simp only [if_neg hc]; exact h
theorem strOfNums_size (l : List Int) : (strOfNums l).size = l.length := by show (List.map _ l).toArray.size = _; simp
theorem ba_size_append (a b : ByteArray) : (a ++ b).size = a.size + b.size := by simp
theorem toList_inj {a b : ByteArray} : a.toList = b.toList ↔ a = b := by
  constructor
  · intro h
    have h1 : a.data.toList = b.data.toList := by simpa [ByteArray.toList_eq] using h
    have : a.data = b.data := Array.toList_inj.1 h1
    cases a; cases b; simp_all
  · rintro rfl; rfl
/-! ### In -/
def inB (n a b : Int) : Bool := decide (a ≤ n) && decide (n ≤ b)
theorem inB_iff {n a b : Int} : inB n a b = true ↔ a ≤ n ∧ n ≤ b := by simp [inB]
theorem inB_no {n a b : Int} : inB n a b = false ↔ ¬ (a ≤ n ∧ n ≤ b) := by rw [← inB_iff]; simp
theorem l01In_eq (n a b : Int) : spec_l01In.f n a b = some (inB n a b) := by
  unfold spec_l01In.f inB; by_cases h : a ≤ n <;> simp [h]
theorem within_eq (n a b : Int) : impl_within.f n a b = some (inB n a b) := by
  unfold impl_within.f inB; by_cases h : a ≤ n <;> simp [h]
theorem and_opt {b : Bool} {c : Option Bool} {c' : Bool} (h : c = some c') : (if b = true then c else some false) = some (b && c') := by
  cases b <;> simp [h]
/-! ### Mark -/
theorem ev_loop {α : Type} {g : Nat → Nat → Option α} {r : α} (n : Nat) (hend : Ev (fun k => g k n) r) (hstep : ∀ i, i < n → ∃ c, ∀ k, g (k + c) i = g k (i + 1) ∧ 1 ≤ c) : ∀ d i, i ≤ n → n - i = d → Ev (fun k => g k i) r := by
  intro d
  induction d with
  | zero =>
    intro i hi hd
    have e : i = n := by omega
    rw [e]; exact hend
  | succ d ih =>
    intro i hi hd
    obtain ⟨K, hK⟩ := ih (i + 1) (by omega) (by omega)
    obtain ⟨c, hc⟩ := hstep i (by omega)
    refine ⟨K + c, fun k hk => ?_⟩
    obtain ⟨m, rfl⟩ : ∃ m, k = m + c := ⟨k - c, by omega⟩
    show g (m + c) i = _
    rw [(hc m).1]; exact hK m (by omega)
theorem rdn (l : List Int) (i : Nat) (h : i < l.length) : rd l (i : Int) = l[i] := by simp [rd, h]
theorem wnext (i : Nat) (h : i < 1000000000000000000) : wrap64 ((i : Int) + 1) = ((i + 1 : Nat) : Int) := by rw [w64 (by omega) (by omega)]; omega
theorem eqIntS_ev (l : List Int) (hl : l.length ≤ 1000000000) : Ev (fun k => laws_eqIntS.f k l l) true := by
  unfold laws_eqIntS.f
  refine ev_pos rfl ?_
  refine ev_loop (g := fun k i => laws_eqIntS.l0 k l l (i : Int)) l.length ?_ ?_ l.length 0 (by omega) (by omega)
  · refine Ev.step (f := fun _ => some true) (fun k => ?_) (ev_some _)
    simp only [laws_eqIntS.l0]; rw [if_neg (by omega)]
  · intro i hi
    refine ⟨1, fun k => ⟨?_, by omega⟩⟩
    simp only [laws_eqIntS.l0]
    rw [if_pos (by omega), if_pos (by omega), if_pos (by omega), if_pos trivial, wnext i (by omega)]
/-- Consecutive numbers from a on, as many as a list has. -/
def countUp (a : Int) (n : Nat) : List Int := (List.range n).map (fun j : Nat => a + (j : Int))
theorem countUp_length (a : Int) (n : Nat) : (countUp a n).length = n := by simp [countUp]
theorem countUp_get (a : Int) (n i : Nat) (h : i < n) : (countUp a n)[i]'(by rw [countUp_length]; exact h) = a + (i : Int) := by simp [countUp]
theorem set_mid {α : Type} (l m : List α) (hlm : m.length = l.length) (i : Nat) (h : i < l.length) (x : α) (hx : m[i]'(by omega) = x) : (m.take i ++ l.drop i).set i x = m.take (i + 1) ++ l.drop (i + 1) := by
  subst hx
  rw [List.drop_eq_getElem_cons h, List.set_append_right _ _ (by rw [List.length_take]; omega)]
  have : i - (m.take i).length = 0 := by rw [List.length_take]; omega
  rw [this, List.set_cons_zero, List.take_succ_eq_append_getElem (by omega), List.append_assoc]
  rfl
/-! ### Ev -/
theorem Ev.succ {α : Type} {g : Nat → Option α} {r : α} (h : Ev (fun k => g (k + 1)) r) : Ev g r := Ev.step (f := fun k => g (k + 1)) (fun _ => rfl) h
theorem ev_all {α : Type} {g : Nat → Nat → Option Bool} (l : List α) (q : α → Bool) (r : Bool) (hend : Ev (fun k => g k l.length) r) (hstep : ∀ i (h : i < l.length) k, g (k + 1) i = if q l[i] = true then g k (i + 1) else some false) : Ev (fun k => g k 0) (l.all q && r) := by
  have hgo : ∀ d i, i ≤ l.length → l.length - i = d → Ev (fun k => g k i) ((l.drop i).all q && r) := by
    intro d
    induction d with
    | zero =>
      intro i hi hd
      have e : i = l.length := by omega
      subst e
      rw [List.drop_of_length_le (by omega)]; simp only [List.all_nil, Bool.true_and]; exact hend
    | succ d ih =>
      intro i hi hd
      have hlt : i < l.length := by omega
      refine Ev.step (f := fun k => if q l[i] = true then g k (i + 1) else some false) (hstep i hlt) ?_
      rw [List.drop_eq_getElem_cons hlt, List.all_cons]
      cases hq : q l[i]
      · simp only [Bool.false_and, Bool.false_eq_true, if_false]; exact ev_some _
      · simp only [Bool.true_and, if_true]; exact ih (i + 1) (by omega) (by omega)
  have := hgo l.length 0 (by omega) (by omega)
  rwa [List.drop_zero] at this
theorem ev_asks {α β : Type} {g : Nat → Nat → Option β} (l : List α) (q : α → Bool) (r bad : β) (hend : Ev (fun k => g k l.length) r) (hstep : ∀ i (h : i < l.length) k, g (k + 1) i = if q l[i] = true then g k (i + 1) else some bad) : Ev (fun k => g k 0) (if l.all q = true then r else bad) := by
  have hgo : ∀ d i, i ≤ l.length → l.length - i = d → Ev (fun k => g k i) (if (l.drop i).all q = true then r else bad) := by
    intro d
    induction d with
    | zero =>
      intro i hi hd
      have e : i = l.length := by omega
      subst e
      rw [List.drop_of_length_le (by omega)]; simp only [List.all_nil, if_true]; exact hend
    | succ d ih =>
      intro i hi hd
      have hlt : i < l.length := by omega
      refine Ev.step (f := fun k => if q l[i] = true then g k (i + 1) else some bad) (hstep i hlt) ?_
      rw [List.drop_eq_getElem_cons hlt, List.all_cons]
      cases hq : q l[i]
      · simp only [Bool.false_and, Bool.false_eq_true, if_false]; exact ev_some _
      · simp only [Bool.true_and, if_true]; exact ih (i + 1) (by omega) (by omega)
  have := hgo l.length 0 (by omega) (by omega)
  rwa [List.drop_zero] at this
end Go.Proofs.YtglcnnmobkocmaaGreat.Q
