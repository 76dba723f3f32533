/- What laws.FnReqText reaches, part 5: the functions as Lean functions, the proofs that the program's functions answer so, and plain laws about them. -/
import Derived.Test.YtniceoohmhjjlaaDoorKFnReqText1
import Derived.Test.YtniceoohmhjjlaaDoorKFnReqText4
namespace Go.Proofs.YtniceoohmhjjlaaDoor.Q
open Go.RowKit Go.Proofs.YtniceoohmhjjlaaDoor.Ext Go.Proofs.YtniceoohmhjjlaaDoorW.PrintWords Go.Proofs.YtniceoohmhjjlaaDoorW.PrintLast Go.Proofs.YtniceoohmhjjlaaDoorW.PrintMore
attribute [local go_sem] max2_int min2_int max_two min_two max_three min_three max_four min_four   -- for this text's walks alone
set_option linter.unusedVariables false
set_option linter.unusedSimpArgs false

set_option linter.unusedVariables false
set_option linter.unusedSimpArgs false
/-! ### spec_l13Read: function 30 -/
mutual
def spec_l13Read.l0 : Nat → List ByteArray → List ByteArray → Int → Int → Int → Int → ByteArray → Option (Int × Int × Int × ByteArray × Bool)
  | 0, _, _, _, _, _, _, _ => none
  | k + 1, x4, x6, x7, x121000, x121001, x121002, x121003 => if x7 < (x6.length : Int) then (if 0 ≤ x7 then (if 0 < (x4.length : Int) then (if (rdOf ByteArray.empty x6 x7).toList = (rdOf ByteArray.empty x4 0).toList then (spec_l13Read.l0 k x4 x6 (wrap64 (x7 + 1)) x7 x121001 x121002 x121003) else (spec_l13Read.l0 k x4 x6 (wrap64 (x7 + 1)) x121000 x121001 x121002 x121003)) else (none)) else (none)) else ((some (([0, 2, 3, 2, 2, 2, 2, 2, 1] : List Int) : List Int)).bind fun y126 => (if 0 ≤ x121000 then (if x121000 < (y126.length : Int) then (if (x4.length : Int) = (rd y126 x121000) then ((spec_l01In.f x121000 5 7).bind fun t130 => (if t130 = true then (if 1 < (x4.length : Int) then ((spec_l10Name.f k (rdOf ByteArray.empty x4 1)).bind fun t132 => (some (x121000, x121001, x121002, rdOf ByteArray.empty x4 1, t132))) else (none)) else (spec_l13Read.l1 k x4 (([] : List Int)) 1 x121000 x121001 x121002 x121003))) else (some (0, 0, 0, (⟨#[]⟩ : ByteArray), false))) else (none)) else (none)))
def spec_l13Read.l1 : Nat → List ByteArray → List Int → Int → Int → Int → Int → ByteArray → Option (Int × Int × Int × ByteArray × Bool)
  | 0, _, _, _, _, _, _, _ => none
  | k + 1, x4, x9, x10, x121000, x121001, x121002, x121003 => if x10 < (x4.length : Int) then (if 0 ≤ x10 then ((spec_l00Number.f k (rdOf ByteArray.empty x4 x10)).bind fun bt137 => (if bt137.2 = true then ((spec_l02Int.f bt137.1).bind fun t139 => (if t139 = true then (if x9.length < 17592186044416 then (spec_l13Read.l1 k x4 (x9 ++ [bt137.1]) (wrap64 (x10 + 1)) x121000 x121001 x121002 x121003) else (none)) else (some (0, 0, 0, (⟨#[]⟩ : ByteArray), false)))) else (some (0, 0, 0, (⟨#[]⟩ : ByteArray), false)))) else (none)) else (if (x9.length : Int) > 0 then (if 0 < (x9.length : Int) then (if (x9.length : Int) > 1 then (if 1 < (x9.length : Int) then (some (x121000, rd x9 0, rd x9 1, x121003, true)) else (none)) else (some (x121000, rd x9 0, x121002, x121003, true))) else (none)) else (if (x9.length : Int) > 1 then (if 1 < (x9.length : Int) then (some (x121000, x121001, rd x9 1, x121003, true)) else (none)) else (some (x121000, x121001, x121002, x121003, true))))
end
def spec_l13Read.f (k : Nat) (a0 : ByteArray) : Option (Int × Int × Int × ByteArray × Bool) := (spec_l00Words.f k a0).bind fun t117 => (if (t117.length : Int) = 0 then (some (0, 0, 0, (⟨#[]⟩ : ByteArray), false)) else ((spec_l13Words.f).bind fun t121 => (spec_l13Read.l0 k t117 t121 1 0 0 0 (⟨#[]⟩ : ByteArray))))
theorem spec_l13Read.mono_l : ∀ k, (∀ y0 y1 y2 y3 y4 y5 y6, LeO (spec_l13Read.l0 k y0 y1 y2 y3 y4 y5 y6) (spec_l13Read.l0 (k + 1) y0 y1 y2 y3 y4 y5 y6)) ∧ (∀ y0 y1 y2 y3 y4 y5 y6, LeO (spec_l13Read.l1 k y0 y1 y2 y3 y4 y5 y6) (spec_l13Read.l1 (k + 1) y0 y1 y2 y3 y4 y5 y6))
  | 0 => ⟨fun _ _ _ _ _ _ _ r h => by simp [spec_l13Read.l0] at h, fun _ _ _ _ _ _ _ r h => by simp [spec_l13Read.l1] at h⟩
  | k + 1 => by
    obtain ⟨ih0, ih1⟩ := spec_l13Read.mono_l k
    refine ⟨?_, ?_⟩
    · intro y0 y1 y2 y3 y4 y5 y6
      unfold spec_l13Read.l0
      repeat' first
      | (with_reducible exact ih0 _ _ _ _ _ _ _)
      | (with_reducible exact ih1 _ _ _ _ _ _ _)
      | (with_reducible exact spec_l00Number.mono _ _)
      | (with_reducible exact spec_l00Words.mono _ _)
      | (with_reducible exact spec_l10Name.mono _ _)
      | (with_reducible exact LeO.refl _)
      | (with_reducible exact LeO.none _)
      | (with_reducible refine LeO.ite ?_ ?_)
      | (with_reducible refine LeO.bind ?_ (fun _ => ?_))
      | exact ih0 _ _ _ _ _ _ _
      | exact ih1 _ _ _ _ _ _ _
      | exact spec_l00Number.mono _ _
      | exact spec_l00Words.mono _ _
      | exact spec_l10Name.mono _ _
      | exact LeO.none _
      | refine LeO.ite ?_ ?_
      | refine LeO.bind ?_ (fun _ => ?_)
    · intro y0 y1 y2 y3 y4 y5 y6
      unfold spec_l13Read.l1
      repeat' first
      | (with_reducible exact ih0 _ _ _ _ _ _ _)
      | (with_reducible exact ih1 _ _ _ _ _ _ _)
      | (with_reducible exact spec_l00Number.mono _ _)
      | (with_reducible exact spec_l00Words.mono _ _)
      | (with_reducible exact spec_l10Name.mono _ _)
      | (with_reducible exact LeO.refl _)
      | (with_reducible exact LeO.none _)
      | (with_reducible refine LeO.ite ?_ ?_)
      | (with_reducible refine LeO.bind ?_ (fun _ => ?_))
      | exact ih0 _ _ _ _ _ _ _
      | exact ih1 _ _ _ _ _ _ _
      | exact spec_l00Number.mono _ _
      | exact spec_l00Words.mono _ _
      | exact spec_l10Name.mono _ _
      | exact LeO.none _
      | refine LeO.ite ?_ ?_
      | refine LeO.bind ?_ (fun _ => ?_)
theorem spec_l13Read.mono : ∀ a0 k, LeO (spec_l13Read.f k a0) (spec_l13Read.f (k + 1) a0) := by
  intro a0 k
  obtain ⟨ih0, ih1⟩ := spec_l13Read.mono_l k
  unfold spec_l13Read.f
  repeat' first
      | (with_reducible exact ih0 _ _ _ _ _ _ _)
      | (with_reducible exact ih1 _ _ _ _ _ _ _)
      | (with_reducible exact spec_l00Number.mono _ _)
      | (with_reducible exact spec_l00Words.mono _ _)
      | (with_reducible exact spec_l10Name.mono _ _)
      | (with_reducible exact LeO.refl _)
      | (with_reducible exact LeO.none _)
      | (with_reducible refine LeO.ite ?_ ?_)
      | (with_reducible refine LeO.bind ?_ (fun _ => ?_))
      | exact ih0 _ _ _ _ _ _ _
      | exact ih1 _ _ _ _ _ _ _
      | exact spec_l00Number.mono _ _
      | exact spec_l00Words.mono _ _
      | exact spec_l10Name.mono _ _
      | exact LeO.none _
      | refine LeO.ite ?_ ?_
      | refine LeO.bind ?_ (fun _ => ?_)
def spec_l13Read.T9 : Bool × List (List Nat × List Nat) := (true, [([], []), ([], []), ([0, 1], [0, 1]), ([2], [2]), ([], []), ([4], [4]), ([5], [5]), ([3, 6], [3, 6])])
def spec_l13Read.B9 : List Nat := [0, 0, 3, 7, 0, 16, 48, 127]
theorem spec_l13Read.tab9 : rtab .any (opsOf Tryd.f30 9) = spec_l13Read.T9 := by kernel_rfl
theorem spec_l13Read.bits9 : waitsOk spec_l13Read.T9.2 spec_l13Read.B9 = true := by kernel_rfl
set_option maxHeartbeats 8000000 in
set_option maxRecDepth 100000 in
theorem spec_l13Read.calls (k : Nat) (a0 : ByteArray) (r1 : Int) (r2 : Int) (r3 : Int) (r4 : ByteArray) (r5 : Bool) (w : World) (h : spec_l13Read.f k a0 = some (r1, r2, r3, r4, r5)) :
    Calls Tryd.prog 30 #[.string a0] w fun e w' => e = .returned (.tuple #[.agg #[.int .i64 r1, .int .i64 r2, .int .i64 r3, .string r4], .bool r5]) ∧ Below w.heap.size w w' := by
 have hu23 := Tryd.underlying23
 have HB := zm (Below.refl w.heap.size w)
 have H : ((spec_l00Words.f k a0).bind fun t117 => (if (t117.length : Int) = 0 then (some (0, 0, 0, (⟨#[]⟩ : ByteArray), false)) else ((spec_l13Words.f).bind fun t121 => (spec_l13Read.l0 k t117 t121 1 0 0 0 (⟨#[]⟩ : ByteArray))))) = some (r1, r2, r3, r4, r5) := h
 clear h
 replace H := Option.bind_eq_some_iff.mp H
 obtain ⟨t117, A20, H⟩ := H
 replace H : (if (t117.length : Int) = 0 then (some (0, 0, 0, (⟨#[]⟩ : ByteArray), false)) else ((spec_l13Words.f).bind fun t121 => (spec_l13Read.l0 k t117 t121 1 0 0 0 (⟨#[]⟩ : ByteArray)))) = some (r1, r2, r3, r4, r5) := H
 have A2 := zm A20
 clear A20
 by_cases c3 : (t117.length : Int) = 0
 ·rw [if_pos c3] at H
  have c3b0 : ((t117.length : Int) == 0) = true := beq_iff_eq.mpr c3
  have c3b1 : ((t117.length : Int) != 0) = false := bne_eq_false_iff_eq.mpr c3
  clear c3
  simp only [Option.some.injEq, Prod.mk.injEq] at H
  obtain ⟨rfl, rfl, rfl, rfl, rfl⟩ := H
  go_enter Tryd.func30, Tryd.ntmps30
  go_wp2_with (first | ((with_reducible refine gate_dst (N := 2) rfl ?_); refine box_event ?hg (N := 2) ?hd (cs := #[.int .i64 0, .int .i64 0, .int .i64 0, .string (⟨#[]⟩ : ByteArray)]) (t := 23) ?hr ?_; (case hd => rfl); (case hg => rfl); (case hr => first | (go_simp; done) | (go_simp; rfl)); intro gb116 hg w4 hbox hb; have n0_ := zm (below_step (zg_0 HB.out) hb); have n1_ := zm (hbox); have n2_ := zm ((by rw [hg]; exact (below_size (zg_0 HB.out)) : w.heap.size ≤ gb116)); have n3_ := zm ((by rw [hg]; exact (below_size (zg_0 HB.out)) : w.heap.size ≤ gb116)); clear HB; have HB := n0_; have Zb := n1_; have Zl := n2_; have Ze := n3_; clear n0_ n1_ n2_ n3_; clear hb hbox hg) | ((with_reducible refine gate_callee (f := 65) rfl ?_); refine goesL_ (some 14) rfl rfl Tryd.func65 (by kernel_rfl) rfl #[.string a0] rfl zq ?_; (with_reducible refine (spec_l00Words.calls k a0 t117 _ A2.out).mono ?_); rintro e w5 ⟨v118, rfl, ho0, hb⟩; refine ⟨_, rfl, ?_⟩; have n0_ := zm (Kd.R_lower ho0 (below_size (zg_2 HB.out Ze.out))); have n1_ := zm (blk_below (g := gb116) (o := .cells #[.int .i64 0, .int .i64 0, .int .i64 0, .string (⟨#[]⟩ : ByteArray)] 23 (0, 0)) (zg_1 Zb.out) hb); have n2_ := zm (below_step (zg_2 HB.out Ze.out) hb); clear Zb; clear HB; have Zk := n0_; have Zb := n1_; have HB := n2_; clear n0_ n1_ n2_; (try clear hb); (try clear hb2); (try clear hk); (try clear hi); (try clear ho0); obtain ⟨Ao6, co6, eo6⟩ := Kd.R_slice Zk.out; subst eo6; have hcz7_0 : w5.cell? ⟨gb116, 0, none⟩ = some (.int .i64 0) := (blk_cell Zb.out 0).trans rfl; have hcz7_1 : w5.cell? ⟨gb116, 1, none⟩ = some (.int .i64 0) := (blk_cell Zb.out 1).trans rfl; have hcz7_2 : w5.cell? ⟨gb116, 2, none⟩ = some (.int .i64 0) := (blk_cell Zb.out 2).trans rfl; have hcz7_3 : w5.cell? ⟨gb116, 3, none⟩ = some (.string (⟨#[]⟩ : ByteArray)) := (blk_cell Zb.out 3).trans rfl; have hfz7_0 := blk_frozen Zb.out 0; have hfz7_1 := blk_frozen Zb.out 1; have hfz7_2 := blk_frozen Zb.out 2; have hfz7_3 := blk_frozen Zb.out 3))
  refine bodyPost_ret (results_ct rfl _ _ gb116 23 #[.int .i64 0, .int .i64 0, .int .i64 0, .string (⟨#[]⟩ : ByteArray)] (0, 0) _ rfl (by (with_reducible repeat (first | refine blk_drewN ?_ _ | refine blk_drew ?_ | refine blk_alloc ?_ _)); refine blk_put (cs := #[.int .i64 0, .int .i64 0, .int .i64 0, .string (⟨#[]⟩ : ByteArray)]) ?_ 3 _ rfl; (with_reducible repeat (first | refine blk_drewN ?_ _ | refine blk_drew ?_ | refine blk_alloc ?_ _)); refine blk_put (cs := #[.int .i64 0, .int .i64 0, .int .i64 0, .string (⟨#[]⟩ : ByteArray)]) ?_ 2 _ rfl; (with_reducible repeat (first | refine blk_drewN ?_ _ | refine blk_drew ?_ | refine blk_alloc ?_ _)); refine blk_put (cs := #[.int .i64 0, .int .i64 0, .int .i64 0, .string (⟨#[]⟩ : ByteArray)]) ?_ 1 _ rfl; (with_reducible repeat (first | refine blk_drewN ?_ _ | refine blk_drew ?_ | refine blk_alloc ?_ _)); refine blk_put (cs := #[.int .i64 0, .int .i64 0, .int .i64 0, .string (⟨#[]⟩ : ByteArray)]) ?_ 0 _ rfl; (with_reducible repeat (first | refine blk_drewN ?_ _ | refine blk_drew ?_ | refine blk_alloc ?_ _)); exact Zb.out) Tryd.underlying23 rfl (by kernel_rfl)) rfl ?_
  exact ⟨by first | rfl | (simp [errW_none, errW_some] <;> rfl) | (simp [*, errW_none, errW_some] <;> rfl), zg_2 HB.out Ze.out⟩
 ·rw [if_neg c3] at H
  have c3b0 : ((t117.length : Int) == 0) = false := beq_eq_false_iff_ne.mpr c3
  have c3b1 : ((t117.length : Int) != 0) = true := bne_iff_ne.mpr c3
  have c3b2 : ¬ (t117 = []) := fun h_ => c3 (by rw [h_]; rfl)
  replace H := Option.bind_eq_some_iff.mp H
  obtain ⟨t121, A80, H⟩ := H
  replace H : (spec_l13Read.l0 k t117 t121 1 0 0 0 (⟨#[]⟩ : ByteArray)) = some (r1, r2, r3, r4, r5) := H
  have A8 := zm A80
  clear A80
  have H' := zm H
  clear H
  go_enter Tryd.func30, Tryd.ntmps30
  go_wp2_with (first | ((with_reducible refine gate_dst (N := 2) rfl ?_); refine box_event ?hg (N := 2) ?hd (cs := #[.int .i64 0, .int .i64 0, .int .i64 0, .string (⟨#[]⟩ : ByteArray)]) (t := 23) ?hr ?_; (case hd => rfl); (case hg => rfl); (case hr => first | (go_simp; done) | (go_simp; rfl)); intro gb116 hg w9 hbox hb; have n0_ := zm (below_step (zg_0 HB.out) hb); have n1_ := zm (hbox); have n2_ := zm ((by rw [hg]; exact (below_size (zg_0 HB.out)) : w.heap.size ≤ gb116)); have n3_ := zm ((by rw [hg]; exact (below_size (zg_0 HB.out)) : w.heap.size ≤ gb116)); clear HB; have HB := n0_; have Zb := n1_; have Zl := n2_; have Ze := n3_; clear n0_ n1_ n2_ n3_; clear hb hbox hg) | ((with_reducible refine gate_callee (f := 65) rfl ?_); refine goesL_ (some 14) rfl rfl Tryd.func65 (by kernel_rfl) rfl #[.string a0] rfl zq ?_; (with_reducible refine (spec_l00Words.calls k a0 t117 _ A2.out).mono ?_); rintro e w10 ⟨v118, rfl, ho0, hb⟩; refine ⟨_, rfl, ?_⟩; have n0_ := zm (Kd.R_lower ho0 (below_size (zg_2 HB.out Ze.out))); have n1_ := zm (blk_below (g := gb116) (o := .cells #[.int .i64 0, .int .i64 0, .int .i64 0, .string (⟨#[]⟩ : ByteArray)] 23 (0, 0)) (zg_1 Zb.out) hb); have n2_ := zm (below_step (zg_2 HB.out Ze.out) hb); clear Zb; clear HB; have Zk := n0_; have Zb := n1_; have HB := n2_; clear n0_ n1_ n2_; (try clear hb); (try clear hb2); (try clear hk); (try clear hi); (try clear ho0); obtain ⟨Ao11, co11, eo11⟩ := Kd.R_slice Zk.out; subst eo11) | ((with_reducible refine gate_dst (N := 5) rfl ?_); refine box_event ?hg (N := 5) ?hd (cs := #[.int .i64 0, .int .i64 0, .int .i64 0, .string (⟨#[]⟩ : ByteArray)]) (t := 23) ?hr ?_; (case hd => rfl); (case hg => rfl); (case hr => first | (go_simp; done) | (go_simp; rfl)); intro gb120 hg w12 hbox hb; have n0_ := zm (Kd.R_below (zg_4 Zk.out) hb); have n1_ := zm (blk_below (g := gb116) (o := .cells #[.int .i64 0, .int .i64 0, .int .i64 0, .string (⟨#[]⟩ : ByteArray)] 23 (0, 0)) (zg_1 Zb.out) hb); have n2_ := zm (below_step (zg_2 HB.out Ze.out) hb); have n3_ := zm (hbox); have n4_ := zm ((by rw [hg]; exact (below_size (zg_2 HB.out Ze.out)) : w.heap.size ≤ gb120)); have n5_ := zm ((by rw [hg]; exact (below_size (zg_2 HB.out Ze.out)) : w.heap.size ≤ gb120)); have n6_ := zm ((by rw [hg]; exact Nat.ne_of_lt (blk_lt (g := gb116) (o := .cells #[.int .i64 0, .int .i64 0, .int .i64 0, .string (⟨#[]⟩ : ByteArray)] 23 (0, 0)) (zg_1 Zb.out)) : gb116 ≠ gb120)); have n7_ := zm ((by rw [hg]; exact Nat.ne_of_gt (blk_lt (g := gb116) (o := .cells #[.int .i64 0, .int .i64 0, .int .i64 0, .string (⟨#[]⟩ : ByteArray)] 23 (0, 0)) (zg_1 Zb.out)) : gb120 ≠ gb116)); clear Zk; clear Zb; clear HB; have Zk := n0_; have Zb := n1_; have HB := n2_; have Za := n3_; have Zp := n4_; have Zg := n5_; have Zd := n6_; have Zc := n7_; clear n0_ n1_ n2_ n3_ n4_ n5_ n6_ n7_; clear hb hbox hg; have hnb13 := Zc.out; have hnc13 := Zd.out; have hcz14_0 : w12.cell? ⟨gb120, 0, none⟩ = some (.int .i64 0) := (blk_cell Za.out 0).trans rfl; have hcz14_1 : w12.cell? ⟨gb120, 1, none⟩ = some (.int .i64 0) := (blk_cell Za.out 1).trans rfl; have hcz14_2 : w12.cell? ⟨gb120, 2, none⟩ = some (.int .i64 0) := (blk_cell Za.out 2).trans rfl; have hcz14_3 : w12.cell? ⟨gb120, 3, none⟩ = some (.string (⟨#[]⟩ : ByteArray)) := (blk_cell Za.out 3).trans rfl; have hfz14_0 := blk_frozen Za.out 0; have hfz14_1 := blk_frozen Za.out 1; have hfz14_2 := blk_frozen Za.out 2; have hfz14_3 := blk_frozen Za.out 3) | ((with_reducible refine gate_callee (f := 66) rfl ?_); refine goesL_ (some 20) rfl rfl Tryd.func66 (by kernel_rfl) rfl #[] rfl zq ?_; (with_reducible refine (spec_l13Words.calls  t121 _ A8.out).mono ?_); rintro e w15 ⟨v122, rfl, ho0, hb⟩; refine ⟨_, rfl, ?_⟩; have n0_ := zm (Kd.R_elder' (by (with_reducible repeat (first | apply Kd.R_alloc | apply Kd.R_drewN | apply Kd.R_drew)); exact (Kd.R_mono (Kd.R_far (p := ⟨gb120, 3, none⟩) (Kd.R_far (p := ⟨gb120, 2, none⟩) (Kd.R_far (p := ⟨gb120, 1, none⟩) (Kd.R_far (p := ⟨gb120, 0, none⟩) (Kd.R_types Zk.out Za.out (by decide)) (fun _ hk => hk.2) (.int .i64 0)) (fun _ hk => hk.2) (.int .i64 0)) (fun _ hk => hk.2) (.int .i64 0)) (fun _ hk => hk.2) (.string (⟨#[]⟩ : ByteArray))) (fun _ h_ => h_.1))) (Kd.R_base ho0) hb); have n1_ := zm (Kd.R_lower (Kd.R_new' ho0 (Kd.R_lt (by (with_reducible repeat (first | apply Kd.R_alloc | apply Kd.R_drewN | apply Kd.R_drew)); exact (Kd.R_mono (Kd.R_far (p := ⟨gb120, 3, none⟩) (Kd.R_far (p := ⟨gb120, 2, none⟩) (Kd.R_far (p := ⟨gb120, 1, none⟩) (Kd.R_far (p := ⟨gb120, 0, none⟩) (Kd.R_types Zk.out Za.out (by decide)) (fun _ hk => hk.2) (.int .i64 0)) (fun _ hk => hk.2) (.int .i64 0)) (fun _ hk => hk.2) (.int .i64 0)) (fun _ hk => hk.2) (.string (⟨#[]⟩ : ByteArray))) (fun _ h_ => h_.1))))) (below_size (zg_3 HB.out Ze.out Zg.out))); have n2_ := zm (blk_below (g := gb116) (o := .cells #[.int .i64 0, .int .i64 0, .int .i64 0, .string (⟨#[]⟩ : ByteArray)] 23 (0, 0)) (by (with_reducible repeat (first | refine blk_drewN ?_ _ | refine blk_drew ?_ | refine blk_alloc ?_ _)); refine blk_far ?_ Zd.out _; (with_reducible repeat (first | refine blk_drewN ?_ _ | refine blk_drew ?_ | refine blk_alloc ?_ _)); refine blk_far ?_ Zd.out _; (with_reducible repeat (first | refine blk_drewN ?_ _ | refine blk_drew ?_ | refine blk_alloc ?_ _)); refine blk_far ?_ Zd.out _; (with_reducible repeat (first | refine blk_drewN ?_ _ | refine blk_drew ?_ | refine blk_alloc ?_ _)); refine blk_far ?_ Zd.out _; (with_reducible repeat (first | refine blk_drewN ?_ _ | refine blk_drew ?_ | refine blk_alloc ?_ _)); exact Zb.out) hb); have n3_ := zm (blk_below (g := gb120) (o := .cells #[.int .i64 0, .int .i64 0, .int .i64 0, .string (⟨#[]⟩ : ByteArray)] 23 (0, 0)) (by (with_reducible repeat (first | refine blk_drewN ?_ _ | refine blk_drew ?_ | refine blk_alloc ?_ _)); refine blk_put (cs := #[.int .i64 0, .int .i64 0, .int .i64 0, .string (⟨#[]⟩ : ByteArray)]) ?_ 3 _ rfl; (with_reducible repeat (first | refine blk_drewN ?_ _ | refine blk_drew ?_ | refine blk_alloc ?_ _)); refine blk_put (cs := #[.int .i64 0, .int .i64 0, .int .i64 0, .string (⟨#[]⟩ : ByteArray)]) ?_ 2 _ rfl; (with_reducible repeat (first | refine blk_drewN ?_ _ | refine blk_drew ?_ | refine blk_alloc ?_ _)); refine blk_put (cs := #[.int .i64 0, .int .i64 0, .int .i64 0, .string (⟨#[]⟩ : ByteArray)]) ?_ 1 _ rfl; (with_reducible repeat (first | refine blk_drewN ?_ _ | refine blk_drew ?_ | refine blk_alloc ?_ _)); refine blk_put (cs := #[.int .i64 0, .int .i64 0, .int .i64 0, .string (⟨#[]⟩ : ByteArray)]) ?_ 0 _ rfl; (with_reducible repeat (first | refine blk_drewN ?_ _ | refine blk_drew ?_ | refine blk_alloc ?_ _)); exact Za.out) hb); have n4_ := zm (below_step (zg_3 HB.out Ze.out Zg.out) hb); clear Zk; clear Zb; clear Za; clear HB; have Zk := n0_; have Zm := n1_; have Zb := n2_; have Za := n3_; have HB := n4_; clear n0_ n1_ n2_ n3_ n4_; (try clear hb); (try clear hb2); (try clear hk); (try clear hi); (try clear ho0)))
  go_loopg [7] k (fun kq v7 w' => ∃ (x7_1 : Int) (x121000_1 : Int), v7 = .int .i64 x7_1 ∧ Aside0 (spec_l13Read.l0 kq t117 t121 x7_1 x121000_1 0 0 (⟨#[]⟩ : ByteArray) = some (r1, r2, r3, r4, r5)) ∧ Aside0 (kq ≤ k) ∧ Aside0 (Kd.R Kd.string 9 w' w.heap.size (fun k_ => some k_ ≠ (v122 : Value).ownBlock) (.slice Ao11 t117.length co11) t117) ∧ Aside0 (Kd.R Kd.string 9 w' w.heap.size (fun k_ => some k_ ≠ ((.slice Ao11 t117.length co11) : Value).ownBlock) v122 t121) ∧ Aside0 (w'.heap[gb116]? = some (.cells #[.int .i64 0, .int .i64 0, .int .i64 0, .string (⟨#[]⟩ : ByteArray)] 23 (0, 0))) ∧ Aside0 (w'.heap[gb120]? = some (.cells #[.int .i64 x121000_1, .int .i64 0, .int .i64 0, .string (⟨#[]⟩ : ByteArray)] 23 (0, 0))) ∧ Aside0 (Below w.heap.size w w'))
  case atStart => exact ⟨(1), (0), zr, H', ⟨Nat.le_refl _⟩, ⟨by (with_reducible repeat (first | apply Kd.R_alloc | apply Kd.R_drewN | apply Kd.R_drew)); exact Kd.R_mono Zk.out (fun _ hk => hk.2)⟩, ⟨by (with_reducible repeat (first | apply Kd.R_alloc | apply Kd.R_drewN | apply Kd.R_drew)); exact Kd.R_mono Zm.out (fun _ hk => hk.2)⟩, ⟨by (with_reducible repeat (first | refine blk_drewN ?_ _ | refine blk_drew ?_ | refine blk_alloc ?_ _)); exact Zb.out⟩, ⟨by (with_reducible repeat (first | refine blk_drewN ?_ _ | refine blk_drew ?_ | refine blk_alloc ?_ _)); exact Za.out⟩, ⟨zg_3 HB.out Ze.out Zg.out⟩⟩
  case round =>
   clear H'
   try clear c1
   try clear p2
   try clear c3
   try clear c3b0
   try clear c3b1
   try clear c3b2
   try clear c6
   try clear c13
   try clear hcz14_0
   try clear hcz14_1
   try clear hcz14_2
   try clear hcz14_3
   try clear hcz7_0
   try clear hcz7_1
   try clear hcz7_2
   try clear hcz7_3
   try clear hfz14_0
   try clear hfz14_1
   try clear hfz14_2
   try clear hfz14_3
   try clear hfz7_0
   try clear hfz7_1
   try clear hfz7_2
   try clear hfz7_3
   obtain ⟨x7_1, x121000_1, rfl, HA, HK1, Zf, Zh, Zb, Za, HB⟩ := hrel
   cases gk with
   | zero => exact absurd HA.out (by simp [spec_l13Read.l0])
   | succ k1 =>
    have H := HA.out
    clear HA
    simp only [spec_l13Read.l0] at H
    by_cases c16 : x7_1 < (t121.length : Int)
    ·rw [if_pos c16] at H
     have c16b0 : decide (x7_1 < (t121.length : Int)) = true := decide_eq_true c16
     clear c16
     by_cases c17 : 0 ≤ x7_1
     ·rw [if_pos c17] at H
      have c17b0 : decide (0 ≤ x7_1) = true := decide_eq_true c17
      clear c17
      by_cases c18 : 0 < (t117.length : Int)
      ·rw [if_pos c18] at H
       have c18b0 : decide (0 < (t117.length : Int)) = true := decide_eq_true c18
       have c18b1 : decide (0 < t117.length) = true := decide_eq_true (by omega)
       clear c18
       by_cases c19 : (rdOf ByteArray.empty t121 x7_1).toList = (rdOf ByteArray.empty t117 0).toList
       ·rw [if_pos c19] at H
        have c19b0 : ((rdOf ByteArray.empty t121 x7_1).toList == (rdOf ByteArray.empty t117 0).toList) = true := beq_iff_eq.mpr c19
        have c19b1 : ((rdOf ByteArray.empty t121 x7_1).toList != (rdOf ByteArray.empty t117 0).toList) = false := bne_eq_false_iff_eq.mpr c19
        clear c19
        have H' := zm H
        clear H
        obtain ⟨Ao20, co20, eo20⟩ := Kd.R_slice Zh.out
        subst eo20
        try go_wp2
        have n0_ := zm (Kd.R_drew Zf.out)
        have n1_ := zm (Kd.R_drew Zh.out)
        have n2_ := zm (blk_drew Zb.out)
        have n3_ := zm (blk_drew Za.out)
        have n4_ := zm (below_drew1 HB.out)
        clear Zf
        clear Zh
        clear Zb
        clear Za
        clear HB
        have Zf := n0_
        have Zh := n1_
        have Zb := n2_
        have Za := n3_
        have HB := n4_
        clear n0_ n1_ n2_ n3_ n4_
        have p124 : 0 ≤ (x7_1 : Int) := zd
        have q124 : x7_1 < (t121.length : Int) := zd
        obtain ⟨ad124, e124, hx124_0⟩ := Kd.at_string (Kd.R_reads' Zh.out).2.2 x7_1 p124 q124
        cases e124
        replace p124 := eq_true p124
        replace q124 := eq_true q124
        have p125 : 0 ≤ (0 : Int) := (by omega)
        have q125 : 0 < (t117.length : Int) := zd
        obtain ⟨ad125, e125, hx125_0⟩ := Kd.at_string (Kd.R_reads' Zf.out).2.2 0 p125 q125
        cases e125
        have qi125 : (0 < t117.length) = True := eq_true (by omega)
        (try rw [show ((0 : Int)).toNat = 0 from rfl] at hx125_0)
        (try rw [Addr.add_zero'] at hx125_0)
        replace p125 := eq_true p125
        replace q125 := eq_true q125
        refine start_ (n := 8) (S := fun w' => w'.cell? (ad124.add (x7_1).toNat) = some (.string (rdOf ByteArray.empty t121 x7_1)) ∧ w'.cell? ad125 = some (.string (rdOf ByteArray.empty t117 0))) (ds := []) #[false, false, false, false, false, false, false, false] (by kernel_rfl) rfl rfl ⟨hx124_0, hx125_0⟩ (fun hHeld => ?_); refine with_tabW spec_l13Read.tab9 spec_l13Read.bits9 (fun HT_ HW_ => ?_)
        generalize wr.drew = w21 at Zf Zh Zb Za HB hx124_0 hx125_0 hHeld ⊢
        refine pure_ (i := 0) (N := some 27) (v := ?_) (a' := ?_) #[true, false, false, false, false, false, false, false] rfl rfl (any_of HT_.out (by kernel_rfl)) (fun _ _ _ h => h) (Or.inl ⟨by rfl, ?_⟩) ?_ ?_
        rotate_left
        ·intro w'
         go_simp
         with_reducible rfl
        rotate_left
        ·simp only [Act.put, zs, zz, zt, i64_w, i32_w]
         rfl
        refine pure_ (i := 1) (N := some 28) (v := ?_) (a' := ?_) #[true, true, false, false, false, false, false, false] rfl rfl (any_of HT_.out (by kernel_rfl)) (fun _ _ _ h => h) (Or.inl ⟨by rfl, ?_⟩) ?_ ?_
        rotate_left
        ·intro w'
         go_simp
         with_reducible rfl
        rotate_left
        ·simp only [Act.put, zs, zz, zt, i64_w, i32_w]
         rfl
        refine pure_ (i := 2) (N := some 29) (v := ?_) (a' := ?_) #[true, true, true, false, false, false, false, false] rfl rfl (any_of HT_.out (by kernel_rfl)) (fun _ _ _ h => h) (Or.inl ⟨by rfl, ?_⟩) ?_ ?_
        rotate_left
        ·intro w'
         go_simp
         with_reducible rfl
        rotate_left
        ·simp only [Act.put, zs, zz, zt, i64_w, i32_w]
         rfl
        refine pure_ (i := 4) (N := some 31) (v := ?_) (a' := ?_) #[true, true, true, false, true, false, false, false] rfl rfl (any_of HT_.out (by kernel_rfl)) (fun _ _ _ h => h) (Or.inl ⟨by rfl, ?_⟩) ?_ ?_
        rotate_left
        ·intro w'
         go_simp
         with_reducible rfl
        rotate_left
        ·simp only [Act.put, zs, zz, zt, i64_w, i32_w]
         rfl
        refine pure_ (i := 5) (N := some 32) (v := ?_) (a' := ?_) #[true, true, true, false, true, true, false, false] rfl rfl (any_of HT_.out (by kernel_rfl)) (fun _ _ _ h => h) (Or.inl ⟨by rfl, ?_⟩) ?_ ?_
        rotate_left
        ·intro w'
         go_simp
         with_reducible rfl
        rotate_left
        ·simp only [Act.put, zs, zz, zt, i64_w, i32_w]
         rfl
        refine take_ (i := 3) (N := some 30) (v := ?_) (a' := ?_) #[true, true, true, true, true, true, false, false] rfl rfl (take_ofW HT_.out HW_.out (by kernel_rfl)) (fun _ _ _ h => h) (Or.inl ⟨by rfl, ?_⟩) hHeld ?_ ?_
        rotate_left
        ·rintro w' ⟨s0, s1⟩
         go_simp
         with_reducible rfl
        rotate_left
        ·simp only [Act.put, zs, zz, zt, i64_w, i32_w]
         rfl
        refine take_ (i := 6) (N := some 33) (v := ?_) (a' := ?_) #[true, true, true, true, true, true, true, false] rfl rfl (take_ofW HT_.out HW_.out (by kernel_rfl)) (fun _ _ _ h => h) (Or.inl ⟨by rfl, ?_⟩) hHeld ?_ ?_
        rotate_left
        ·rintro w' ⟨s0, s1⟩
         go_simp
         with_reducible rfl
        rotate_left
        ·simp only [Act.put, zs, zz, zt, i64_w, i32_w]
         rfl
        refine pure_ (i := 7) (N := some 34) (v := ?_) (a' := ?_) #[true, true, true, true, true, true, true, true] rfl rfl (any_of HT_.out (by kernel_rfl)) (fun _ _ _ h => h) (Or.inl ⟨by rfl, ?_⟩) ?_ ?_
        rotate_left
        ·intro w'
         go_simp
         with_reducible rfl
        rotate_left
        ·simp only [Act.put, zs, zz, zt, i64_w, i32_w]
         rfl
        refine done_ (done_of HT_.out (by kernel_rfl)) ?_
        have hnb22 := Zc.out
        have hnc22 := Zd.out
        have hcz23_0 : w21.cell? ⟨gb120, 0, none⟩ = some (.int .i64 x121000_1) := (blk_cell Za.out 0).trans rfl
        have hcz23_1 : w21.cell? ⟨gb120, 1, none⟩ = some (.int .i64 0) := (blk_cell Za.out 1).trans rfl
        have hcz23_2 : w21.cell? ⟨gb120, 2, none⟩ = some (.int .i64 0) := (blk_cell Za.out 2).trans rfl
        have hcz23_3 : w21.cell? ⟨gb120, 3, none⟩ = some (.string (⟨#[]⟩ : ByteArray)) := (blk_cell Za.out 3).trans rfl
        have hfz23_0 := blk_frozen Za.out 0
        have hfz23_1 := blk_frozen Za.out 1
        have hfz23_2 := blk_frozen Za.out 2
        have hfz23_3 := blk_frozen Za.out 3
        try go_wp2
        go_roundg k1
        case measure => have := HK1.out; omega
        case rel => exact ⟨(wrap64 (x7_1 + 1)), (x7_1), zr, H', ⟨by have := HK1.out; omega⟩, ⟨by (with_reducible repeat (first | apply Kd.R_alloc | apply Kd.R_drewN | apply Kd.R_drew)); exact Kd.R_mono (Kd.R_far (p := ⟨gb120, 0, none⟩) (Kd.R_types Zf.out Za.out (by decide)) (fun _ hk => hk.2) (.int .i64 x7_1)) (fun _ hk => hk.1)⟩, ⟨by (with_reducible repeat (first | apply Kd.R_alloc | apply Kd.R_drewN | apply Kd.R_drew)); exact Kd.R_mono (Kd.R_far (p := ⟨gb120, 0, none⟩) (Kd.R_types Zh.out Za.out (by decide)) (fun _ hk => hk.2) (.int .i64 x7_1)) (fun _ hk => hk.1)⟩, ⟨by (with_reducible repeat (first | refine blk_drewN ?_ _ | refine blk_drew ?_ | refine blk_alloc ?_ _)); refine blk_far ?_ Zd.out _; (with_reducible repeat (first | refine blk_drewN ?_ _ | refine blk_drew ?_ | refine blk_alloc ?_ _)); exact Zb.out⟩, ⟨by (with_reducible repeat (first | refine blk_drewN ?_ _ | refine blk_drew ?_ | refine blk_alloc ?_ _)); refine blk_put (cs := #[.int .i64 x121000_1, .int .i64 0, .int .i64 0, .string (⟨#[]⟩ : ByteArray)]) ?_ 0 _ rfl; (with_reducible repeat (first | refine blk_drewN ?_ _ | refine blk_drew ?_ | refine blk_alloc ?_ _)); exact Za.out⟩, ⟨zg_3 HB.out Ze.out Zg.out⟩⟩
       ·rw [if_neg c19] at H
        have c19b0 : ((rdOf ByteArray.empty t121 x7_1).toList == (rdOf ByteArray.empty t117 0).toList) = false := beq_eq_false_iff_ne.mpr c19
        have c19b1 : ((rdOf ByteArray.empty t121 x7_1).toList != (rdOf ByteArray.empty t117 0).toList) = true := bne_iff_ne.mpr c19
        have H' := zm H
        clear H
        obtain ⟨Ao24, co24, eo24⟩ := Kd.R_slice Zh.out
        subst eo24
        try go_wp2
        have n0_ := zm (Kd.R_drew Zf.out)
        have n1_ := zm (Kd.R_drew Zh.out)
        have n2_ := zm (blk_drew Zb.out)
        have n3_ := zm (blk_drew Za.out)
        have n4_ := zm (below_drew1 HB.out)
        clear Zf
        clear Zh
        clear Zb
        clear Za
        clear HB
        have Zf := n0_
        have Zh := n1_
        have Zb := n2_
        have Za := n3_
        have HB := n4_
        clear n0_ n1_ n2_ n3_ n4_
        have p124 : 0 ≤ (x7_1 : Int) := zd
        have q124 : x7_1 < (t121.length : Int) := zd
        obtain ⟨ad124, e124, hx124_0⟩ := Kd.at_string (Kd.R_reads' Zh.out).2.2 x7_1 p124 q124
        cases e124
        replace p124 := eq_true p124
        replace q124 := eq_true q124
        have p125 : 0 ≤ (0 : Int) := (by omega)
        have q125 : 0 < (t117.length : Int) := zd
        obtain ⟨ad125, e125, hx125_0⟩ := Kd.at_string (Kd.R_reads' Zf.out).2.2 0 p125 q125
        cases e125
        have qi125 : (0 < t117.length) = True := eq_true (by omega)
        (try rw [show ((0 : Int)).toNat = 0 from rfl] at hx125_0)
        (try rw [Addr.add_zero'] at hx125_0)
        replace p125 := eq_true p125
        replace q125 := eq_true q125
        refine start_ (n := 8) (S := fun w' => w'.cell? (ad124.add (x7_1).toNat) = some (.string (rdOf ByteArray.empty t121 x7_1)) ∧ w'.cell? ad125 = some (.string (rdOf ByteArray.empty t117 0))) (ds := []) #[false, false, false, false, false, false, false, false] (by kernel_rfl) rfl rfl ⟨hx124_0, hx125_0⟩ (fun hHeld => ?_); refine with_tabW spec_l13Read.tab9 spec_l13Read.bits9 (fun HT_ HW_ => ?_)
        generalize wr.drew = w25 at Zf Zh Zb Za HB hx124_0 hx125_0 hHeld ⊢
        refine pure_ (i := 0) (N := some 27) (v := ?_) (a' := ?_) #[true, false, false, false, false, false, false, false] rfl rfl (any_of HT_.out (by kernel_rfl)) (fun _ _ _ h => h) (Or.inl ⟨by rfl, ?_⟩) ?_ ?_
        rotate_left
        ·intro w'
         go_simp
         with_reducible rfl
        rotate_left
        ·simp only [Act.put, zs, zz, zt, i64_w, i32_w]
         rfl
        refine pure_ (i := 1) (N := some 28) (v := ?_) (a' := ?_) #[true, true, false, false, false, false, false, false] rfl rfl (any_of HT_.out (by kernel_rfl)) (fun _ _ _ h => h) (Or.inl ⟨by rfl, ?_⟩) ?_ ?_
        rotate_left
        ·intro w'
         go_simp
         with_reducible rfl
        rotate_left
        ·simp only [Act.put, zs, zz, zt, i64_w, i32_w]
         rfl
        refine pure_ (i := 2) (N := some 29) (v := ?_) (a' := ?_) #[true, true, true, false, false, false, false, false] rfl rfl (any_of HT_.out (by kernel_rfl)) (fun _ _ _ h => h) (Or.inl ⟨by rfl, ?_⟩) ?_ ?_
        rotate_left
        ·intro w'
         go_simp
         with_reducible rfl
        rotate_left
        ·simp only [Act.put, zs, zz, zt, i64_w, i32_w]
         rfl
        refine pure_ (i := 4) (N := some 31) (v := ?_) (a' := ?_) #[true, true, true, false, true, false, false, false] rfl rfl (any_of HT_.out (by kernel_rfl)) (fun _ _ _ h => h) (Or.inl ⟨by rfl, ?_⟩) ?_ ?_
        rotate_left
        ·intro w'
         go_simp
         with_reducible rfl
        rotate_left
        ·simp only [Act.put, zs, zz, zt, i64_w, i32_w]
         rfl
        refine pure_ (i := 5) (N := some 32) (v := ?_) (a' := ?_) #[true, true, true, false, true, true, false, false] rfl rfl (any_of HT_.out (by kernel_rfl)) (fun _ _ _ h => h) (Or.inl ⟨by rfl, ?_⟩) ?_ ?_
        rotate_left
        ·intro w'
         go_simp
         with_reducible rfl
        rotate_left
        ·simp only [Act.put, zs, zz, zt, i64_w, i32_w]
         rfl
        refine take_ (i := 3) (N := some 30) (v := ?_) (a' := ?_) #[true, true, true, true, true, true, false, false] rfl rfl (take_ofW HT_.out HW_.out (by kernel_rfl)) (fun _ _ _ h => h) (Or.inl ⟨by rfl, ?_⟩) hHeld ?_ ?_
        rotate_left
        ·rintro w' ⟨s0, s1⟩
         go_simp
         with_reducible rfl
        rotate_left
        ·simp only [Act.put, zs, zz, zt, i64_w, i32_w]
         rfl
        refine take_ (i := 6) (N := some 33) (v := ?_) (a' := ?_) #[true, true, true, true, true, true, true, false] rfl rfl (take_ofW HT_.out HW_.out (by kernel_rfl)) (fun _ _ _ h => h) (Or.inl ⟨by rfl, ?_⟩) hHeld ?_ ?_
        rotate_left
        ·rintro w' ⟨s0, s1⟩
         go_simp
         with_reducible rfl
        rotate_left
        ·simp only [Act.put, zs, zz, zt, i64_w, i32_w]
         rfl
        refine pure_ (i := 7) (N := some 34) (v := ?_) (a' := ?_) #[true, true, true, true, true, true, true, true] rfl rfl (any_of HT_.out (by kernel_rfl)) (fun _ _ _ h => h) (Or.inl ⟨by rfl, ?_⟩) ?_ ?_
        rotate_left
        ·intro w'
         go_simp
         with_reducible rfl
        rotate_left
        ·simp only [Act.put, zs, zz, zt, i64_w, i32_w]
         rfl
        refine done_ (done_of HT_.out (by kernel_rfl)) ?_
        try go_wp2
        go_roundg k1
        case measure => have := HK1.out; omega
        case rel => exact ⟨(wrap64 (x7_1 + 1)), (x121000_1), zr, H', ⟨by have := HK1.out; omega⟩, ⟨by (with_reducible repeat (first | apply Kd.R_alloc | apply Kd.R_drewN | apply Kd.R_drew)); exact Zf.out⟩, ⟨by (with_reducible repeat (first | apply Kd.R_alloc | apply Kd.R_drewN | apply Kd.R_drew)); exact Zh.out⟩, ⟨by (with_reducible repeat (first | refine blk_drewN ?_ _ | refine blk_drew ?_ | refine blk_alloc ?_ _)); exact Zb.out⟩, ⟨by (with_reducible repeat (first | refine blk_drewN ?_ _ | refine blk_drew ?_ | refine blk_alloc ?_ _)); exact Za.out⟩, ⟨zg_3 HB.out Ze.out Zg.out⟩⟩
      ·rw [if_neg c18] at H
       exact absurd H (by simp)
     ·rw [if_neg c17] at H
      exact absurd H (by simp)
    ·rw [if_neg c16] at H
     have c16b0 : decide (x7_1 < (t121.length : Int)) = false := decide_eq_false c16
     clear c16
     obtain ⟨y126, hy126⟩ : ∃ y_ : List Int, y_ = (([0, 2, 3, 2, 2, 2, 2, 2, 1] : List Int)) := ⟨_, rfl⟩
     replace H : (if 0 ≤ x121000_1 then (if x121000_1 < (y126.length : Int) then (if (t117.length : Int) = (rd y126 x121000_1) then ((spec_l01In.f x121000_1 5 7).bind fun t130 => (if t130 = true then (if 1 < (t117.length : Int) then ((spec_l10Name.f k1 (rdOf ByteArray.empty t117 1)).bind fun t132 => (some (x121000_1, 0, 0, rdOf ByteArray.empty t117 1, t132))) else (none)) else (spec_l13Read.l1 k1 t117 (([] : List Int)) 1 x121000_1 0 0 (⟨#[]⟩ : ByteArray)))) else (some (0, 0, 0, (⟨#[]⟩ : ByteArray), false))) else (none)) else (none)) = some (r1, r2, r3, r4, r5) := by first | (rw [hy126]; with_reducible exact H) | (have H2_ := (Option.bind_some _ _).symm.trans H; rw [hy126]; with_reducible exact H2_) | (have H2_ := (Option.bind_some _ _).symm.trans H; with_reducible exact H2_) | with_reducible exact H | (rw [hy126]; exact H) | exact H
     have Ny126 := zm hy126
     clear hy126
     by_cases c26 : 0 ≤ x121000_1
     ·rw [if_pos c26] at H
      have c26b0 : decide (0 ≤ x121000_1) = true := decide_eq_true c26
      clear c26
      by_cases c27 : x121000_1 < (y126.length : Int)
      ·rw [if_pos c27] at H
       have c27b0 : decide (x121000_1 < (y126.length : Int)) = true := decide_eq_true c27
       clear c27
       by_cases c28 : (t117.length : Int) = (rd y126 x121000_1)
       ·rw [if_pos c28] at H
        have c28b0 : ((t117.length : Int) == (rd y126 x121000_1)) = true := beq_iff_eq.mpr c28
        have c28b1 : ((t117.length : Int) != (rd y126 x121000_1)) = false := bne_eq_false_iff_eq.mpr c28
        clear c28
        replace H := Option.bind_eq_some_iff.mp H
        obtain ⟨t130, A290, H⟩ := H
        replace H : (if t130 = true then (if 1 < (t117.length : Int) then ((spec_l10Name.f k1 (rdOf ByteArray.empty t117 1)).bind fun t132 => (some (x121000_1, 0, 0, rdOf ByteArray.empty t117 1, t132))) else (none)) else (spec_l13Read.l1 k1 t117 (([] : List Int)) 1 x121000_1 0 0 (⟨#[]⟩ : ByteArray))) = some (r1, r2, r3, r4, r5) := H
        have A29 := zm A290
        clear A290
        by_cases c30 : t130 = true
        ·subst c30
         have H1 : (if 1 < (t117.length : Int) then ((spec_l10Name.f k1 (rdOf ByteArray.empty t117 1)).bind fun t132 => (some (x121000_1, 0, 0, rdOf ByteArray.empty t117 1, t132))) else (none)) = some (r1, r2, r3, r4, r5) := by rw [if_pos rfl] at H; exact H
         clear H
         have H := H1
         clear H1
         by_cases c31 : 1 < (t117.length : Int)
         ·rw [if_pos c31] at H
          have c31b0 : decide (1 < (t117.length : Int)) = true := decide_eq_true c31
          have c31b1 : decide (1 < t117.length) = true := decide_eq_true (by omega)
          clear c31
          replace H := Option.bind_eq_some_iff.mp H
          obtain ⟨t132, A320, H⟩ := H
          replace H : (some (x121000_1, 0, 0, rdOf ByteArray.empty t117 1, t132)) = some (r1, r2, r3, r4, r5) := H
          have A32 := zm A320
          clear A320
          simp only [Option.some.injEq, Prod.mk.injEq] at H
          obtain ⟨rfl, rfl, rfl, rfl, rfl⟩ := H
          obtain ⟨Ao33, co33, eo33⟩ := Kd.R_slice Zh.out
          subst eo33
          try go_wp2_with (first | ((with_reducible refine gate_dst (N := 37) rfl ?_); refine Kd.R_lit (Kd.int .i64) _ 3 ?hg (N := 37) ?hd (xs := ([0, 2, 3, 2, 2, 2, 2, 2, 1] : List Int)) (inner := [.int .i64 0, .int .i64 2, .int .i64 3, .int .i64 2, .int .i64 2, .int .i64 2, .int .i64 2, .int .i64 2, .int .i64 1]) (ok := fun _ => True) (okp := fun _ => True) ?hr ?hp (fun _ hk => hk) trivial (Below.refl _ _) (Nat.le_refl _) (by simp) ?_; (case hd => rfl); (case hg => rfl); (case hr => first | (go_simp; done) | (go_simp; rfl)); (case hp => exact (Reps.one (show Kd.M (Kd.int .i64) _ _ _ 0 [.int .i64 0] from rfl) (Reps.one (show Kd.M (Kd.int .i64) _ _ _ 2 [.int .i64 2] from rfl) (Reps.one (show Kd.M (Kd.int .i64) _ _ _ 3 [.int .i64 3] from rfl) (Reps.one (show Kd.M (Kd.int .i64) _ _ _ 2 [.int .i64 2] from rfl) (Reps.one (show Kd.M (Kd.int .i64) _ _ _ 2 [.int .i64 2] from rfl) (Reps.one (show Kd.M (Kd.int .i64) _ _ _ 2 [.int .i64 2] from rfl) (Reps.one (show Kd.M (Kd.int .i64) _ _ _ 2 [.int .i64 2] from rfl) (Reps.one (show Kd.M (Kd.int .i64) _ _ _ 2 [.int .i64 2] from rfl) (Reps.one (show Kd.M (Kd.int .i64) _ _ _ 1 [.int .i64 1] from rfl) (Reps.none _ _))))))))))); intro v127 w34 ho35 hb hg_ hnew_; clear hg_ hnew_; (first | rw [← Ny126.out] at ho35 | (simp only [Int.reduceToNat] at ho35; rw [← Ny126.out] at ho35)); have n0_ := zm (Kd.R_below (zg_4 Zf.out) hb); have n1_ := zm (Kd.R_below (zg_4 Zh.out) hb); have n2_ := zm (Kd.R_lower ho35 (below_size (zg_3 HB.out Ze.out Zg.out))); have n3_ := zm (blk_below (g := gb116) (o := .cells #[.int .i64 0, .int .i64 0, .int .i64 0, .string (⟨#[]⟩ : ByteArray)] 23 (0, 0)) (zg_1 Zb.out) hb); have n4_ := zm (blk_below (g := gb120) (o := .cells #[.int .i64 x121000_1, .int .i64 0, .int .i64 0, .string (⟨#[]⟩ : ByteArray)] 23 (0, 0)) (zg_1 Za.out) hb); have n5_ := zm (below_step (zg_3 HB.out Ze.out Zg.out) hb); clear Zf; clear Zh; clear Zb; clear Za; clear HB; have Zf := n0_; have Zh := n1_; have Zi := n2_; have Zb := n3_; have Za := n4_; have HB := n5_; clear n0_ n1_ n2_ n3_ n4_ n5_; clear hb ho35; have hnb36 := Zc.out; have hnc36 := Zd.out; have hcz37_0 : w34.cell? ⟨gb120, 0, none⟩ = some (.int .i64 x121000_1) := (blk_cell Za.out 0).trans rfl; have hcz37_1 : w34.cell? ⟨gb120, 1, none⟩ = some (.int .i64 0) := (blk_cell Za.out 1).trans rfl; have hcz37_2 : w34.cell? ⟨gb120, 2, none⟩ = some (.int .i64 0) := (blk_cell Za.out 2).trans rfl; have hcz37_3 : w34.cell? ⟨gb120, 3, none⟩ = some (.string (⟨#[]⟩ : ByteArray)) := (blk_cell Za.out 3).trans rfl; have hfz37_0 := blk_frozen Za.out 0; have hfz37_1 := blk_frozen Za.out 1; have hfz37_2 := blk_frozen Za.out 2; have hfz37_3 := blk_frozen Za.out 3; obtain ⟨Ao38, co38, eo38⟩ := Kd.R_slice Zi.out; subst eo38; have p129 : 0 ≤ (x121000_1 : Int) := zd; have q129 : x121000_1 < (y126.length : Int) := zd; obtain ⟨ad129, e129, hx129_0⟩ := Kd.at_int (Kd.R_reads' Zi.out).2.2 x121000_1 p129 q129; cases e129; replace p129 := eq_true p129; replace q129 := eq_true q129) | ((with_reducible refine gate_callee (f := 41) rfl ?_); refine goesL_ (some 49) rfl rfl Tryd.func41 (by kernel_rfl) rfl #[.int .i64 x121000_1, .int .i64 5, .int .i64 7] rfl zq ?_; (with_reducible refine (spec_l01In.calls x121000_1 5 7 true _ A29.out).mono ?_); rintro e w' ⟨rfl, ⟨nd, rfl⟩⟩; refine ⟨_, rfl, ?_⟩; (try (rw [drewN_self w34]; generalize hq_ : World.drewN w34 _ = w34; have n0_ : Aside0 (Kd.R (Kd.int .i64) 3 w34 w.heap.size (fun _ => True) (.slice (some ad129) y126.length co38) y126) := ⟨by rw [← hq_]; exact (zg_4 Zi.out)⟩; have n1_ : Aside0 (Kd.R Kd.string 9 w34 w.heap.size (fun k_ => some k_ ≠ (.slice Ao33 t121.length co33 : Value).ownBlock) (.slice Ao11 t117.length co11) t117) := ⟨by rw [← hq_]; exact (zg_4 Zf.out)⟩; have n2_ : Aside0 (Kd.R Kd.string 9 w34 w.heap.size (fun k_ => some k_ ≠ (.slice Ao11 t117.length co11 : Value).ownBlock) (.slice Ao33 t121.length co33) t121) := ⟨by rw [← hq_]; exact (zg_4 Zh.out)⟩; have n3_ : Aside0 (w34.heap[gb116]? = some (.cells #[.int .i64 0, .int .i64 0, .int .i64 0, .string (⟨#[]⟩ : ByteArray)] 23 (0, 0))) := ⟨by rw [← hq_]; exact (zg_1 Zb.out)⟩; have n4_ : Aside0 (w34.heap[gb120]? = some (.cells #[.int .i64 x121000_1, .int .i64 0, .int .i64 0, .string (⟨#[]⟩ : ByteArray)] 23 (0, 0))) := ⟨by rw [← hq_]; exact (zg_1 Za.out)⟩; have n5_ : Aside0 (Below w.heap.size w w34) := ⟨by rw [← hq_]; exact (zg_3 HB.out Ze.out Zg.out)⟩; clear Zi Zf Zh Zb Za HB hq_; have Zi := n0_; have Zf := n1_; have Zh := n2_; have Zb := n3_; have Za := n4_; have HB := n5_; clear n0_ n1_ n2_ n3_ n4_ n5_)); (try have hcz37_0 : w34.cell? ⟨gb120, 0, none⟩ = some (.int .i64 x121000_1) := (blk_cell Za.out 0).trans rfl); (try have hcz37_1 : w34.cell? ⟨gb120, 1, none⟩ = some (.int .i64 0) := (blk_cell Za.out 1).trans rfl); (try have hcz37_2 : w34.cell? ⟨gb120, 2, none⟩ = some (.int .i64 0) := (blk_cell Za.out 2).trans rfl); (try have hcz37_3 : w34.cell? ⟨gb120, 3, none⟩ = some (.string (⟨#[]⟩ : ByteArray)) := (blk_cell Za.out 3).trans rfl); (try have hfz37_0 := blk_frozen Za.out 0); (try have hfz37_1 := blk_frozen Za.out 1); (try have hfz37_2 := blk_frozen Za.out 2); (try have hfz37_3 := blk_frozen Za.out 3); have p131 : 0 ≤ (1 : Int) := (by omega); have q131 : 1 < (t117.length : Int) := zd; obtain ⟨ad131, e131, hx131_0⟩ := Kd.at_string (Kd.R_reads' Zf.out).2.2 1 p131 q131; cases e131; (try simp only [show (1 : Int).toNat = 1 from rfl, Nat.reduceMul, Nat.reduceEqDiff, Go.Addr.add, ↓reduceIte] at hx131_0); have qi131 : (1 < t117.length) = True := eq_true (by omega); (try rw [show ((1 : Int)).toNat = 1 from rfl] at hx131_0); replace p131 := eq_true p131; replace q131 := eq_true q131))
          have n0_ : Aside0 (Kd.R Kd.string 9 (w34.setCell ⟨gb120, 3, none⟩ (.string (rdOf ByteArray.empty t117 1))) w.heap.size (fun k_ => some k_ ≠ (.slice Ao33 t121.length co33 : Value).ownBlock) (.slice (some ad131) t117.length co11) t117) := ⟨by (with_reducible repeat (first | apply Kd.R_alloc | apply Kd.R_drewN | apply Kd.R_drew)); exact Kd.R_mono (Kd.R_far (p := ⟨gb120, 3, none⟩) (Kd.R_types Zf.out Za.out (by decide)) (fun _ hk => hk.2) (.string (rdOf ByteArray.empty t117 1))) (fun _ hk => hk.1)⟩
          have n1_ : Aside0 (Kd.R Kd.string 9 (w34.setCell ⟨gb120, 3, none⟩ (.string (rdOf ByteArray.empty t117 1))) w.heap.size (fun k_ => some k_ ≠ (.slice (some ad131) t117.length co11 : Value).ownBlock) (.slice Ao33 t121.length co33) t121) := ⟨by (with_reducible repeat (first | apply Kd.R_alloc | apply Kd.R_drewN | apply Kd.R_drew)); exact Kd.R_mono (Kd.R_far (p := ⟨gb120, 3, none⟩) (Kd.R_types Zh.out Za.out (by decide)) (fun _ hk => hk.2) (.string (rdOf ByteArray.empty t117 1))) (fun _ hk => hk.1)⟩
          have n2_ : Aside0 (Kd.R (Kd.int .i64) 3 (w34.setCell ⟨gb120, 3, none⟩ (.string (rdOf ByteArray.empty t117 1))) w.heap.size (fun _ => True) (.slice (some ad129) y126.length co38) y126) := ⟨by (with_reducible repeat (first | apply Kd.R_alloc | apply Kd.R_drewN | apply Kd.R_drew)); exact Kd.R_mono (Kd.R_far (p := ⟨gb120, 3, none⟩) (Kd.R_types Zi.out Za.out (by decide)) (fun _ hk => hk.2) (.string (rdOf ByteArray.empty t117 1))) (fun _ hk => trivial)⟩
          have n3_ : Aside0 ((w34.setCell ⟨gb120, 3, none⟩ (.string (rdOf ByteArray.empty t117 1))).heap[gb116]? = some (.cells #[.int .i64 0, .int .i64 0, .int .i64 0, .string (⟨#[]⟩ : ByteArray)] 23 (0, 0))) := ⟨by (with_reducible repeat (first | refine blk_drewN ?_ _ | refine blk_drew ?_ | refine blk_alloc ?_ _)); refine blk_far ?_ Zd.out _; (with_reducible repeat (first | refine blk_drewN ?_ _ | refine blk_drew ?_ | refine blk_alloc ?_ _)); exact Zb.out⟩
          have n4_ : Aside0 ((w34.setCell ⟨gb120, 3, none⟩ (.string (rdOf ByteArray.empty t117 1))).heap[gb120]? = some (.cells #[.int .i64 x121000_1, .int .i64 0, .int .i64 0, .string (rdOf ByteArray.empty t117 1)] 23 (0, 0))) := ⟨by (with_reducible repeat (first | refine blk_drewN ?_ _ | refine blk_drew ?_ | refine blk_alloc ?_ _)); refine blk_put (cs := #[.int .i64 x121000_1, .int .i64 0, .int .i64 0, .string (⟨#[]⟩ : ByteArray)]) ?_ 3 _ rfl; (with_reducible repeat (first | refine blk_drewN ?_ _ | refine blk_drew ?_ | refine blk_alloc ?_ _)); exact Za.out⟩
          have n5_ : Aside0 (Below w.heap.size w (w34.setCell ⟨gb120, 3, none⟩ (.string (rdOf ByteArray.empty t117 1)))) := ⟨zg_3 HB.out Ze.out Zg.out⟩
          (try clear Zf)
          (try clear Zh)
          (try clear Zi)
          (try clear Zb)
          (try clear Za)
          (try clear HB)
          generalize (w34.setCell ⟨gb120, 3, none⟩ (.string (rdOf ByteArray.empty t117 1))) = w39 at n0_ n1_ n2_ n3_ n4_ n5_ ⊢
          have Zf := n0_
          have Zh := n1_
          have Zi := n2_
          have Zb := n3_
          have Za := n4_
          have HB := n5_
          clear n0_ n1_ n2_ n3_ n4_ n5_
          have n0_ := zm (Kd.R_drew Zf.out)
          have n1_ := zm (Kd.R_drew Zh.out)
          have n2_ := zm (Kd.R_drew Zi.out)
          have n3_ := zm (blk_drew Zb.out)
          have n4_ := zm (blk_drew Za.out)
          have n5_ := zm (below_drew1 HB.out)
          clear Zf
          clear Zh
          clear Zi
          clear Zb
          clear Za
          clear HB
          have Zf := n0_
          have Zh := n1_
          have Zi := n2_
          have Zb := n3_
          have Za := n4_
          have HB := n5_
          clear n0_ n1_ n2_ n3_ n4_ n5_
          refine start_ (n := 6) (S := fun w' => w'.cell? ⟨gb120, 0, none⟩ = some (.int .i64 x121000_1) ∧ w'.cell? ⟨gb120, 1, none⟩ = some (.int .i64 0) ∧ w'.cell? ⟨gb120, 2, none⟩ = some (.int .i64 0) ∧ w'.cell? ⟨gb120, 3, none⟩ = some (.string (rdOf ByteArray.empty t117 1))) (ds := []) #[false, false, false, false, false, false] (by kernel_rfl) rfl rfl ⟨(blk_cell Za.out 0).trans rfl, (blk_cell Za.out 1).trans rfl, (blk_cell Za.out 2).trans rfl, (blk_cell Za.out 3).trans rfl⟩ (fun hHeld => ?_)
          generalize w39.drew = w40 at Zf Zh Zi Zb Za HB hHeld ⊢
          refine pure_ (i := 1) (N := some 55) (v := ?_) (a' := ?_) #[false, true, false, false, false, false] rfl rfl (by kernel_rfl) (fun _ _ _ h => h) (Or.inl ⟨by rfl, ?_⟩) ?_ ?_
          rotate_left
          ·intro w'
           go_simp
           with_reducible rfl
          rotate_left
          ·simp only [Act.put, zs, zz, zt, i64_w, i32_w]
           rfl
          refine take_ (i := 0) (N := some 54) (v := ?_) (a' := ?_) #[true, true, false, false, false, false] rfl rfl (by kernel_rfl) (fun _ _ _ h => h) (Or.inl ⟨by rfl, ?_⟩) hHeld ?_ ?_
          rotate_left
          ·rintro w' ⟨s0, s1, s2, s3⟩
           go_simp
           with_reducible rfl
          rotate_left
          ·simp only [Act.put, zs, zz, zt, i64_w, i32_w]
           rfl
          refine take_ (i := 2) (N := some 56) (v := ?_) (a' := ?_) #[true, true, true, false, false, false] rfl rfl (by kernel_rfl) (fun _ _ _ h => h) (Or.inl ⟨by rfl, ?_⟩) hHeld ?_ ?_
          rotate_left
          ·rintro w' ⟨s0, s1, s2, s3⟩
           go_simp
           with_reducible rfl
          rotate_left
          ·simp only [Act.put, zs, zz, zt, i64_w, i32_w]
           rfl
          refine one_ (i := 3) (N := some 57) #[true, true, true, true, false, false] rfl rfl (by kernel_rfl) (by decide) (fun K hK => ?_)
          refine goes_ Tryd.func42 (by kernel_rfl) rfl #[.string (rdOf ByteArray.empty t117 1)] (by rfl) rfl rfl zq ?_
          with_reducible refine (spec_l10Name.calls k1 (rdOf ByteArray.empty t117 1) t132 _ A32.out).mono ?_
          rintro e w' ⟨rfl, ⟨nd, rfl⟩⟩
          refine ⟨_, rfl, ?_⟩
          refine hK.out _ _ ⟨(blk_cell Za.out 0).trans rfl, (blk_cell Za.out 1).trans rfl, (blk_cell Za.out 2).trans rfl, (blk_cell Za.out 3).trans rfl⟩ (fun hHeld => ?_)
          clear hK K
          refine norm_ (a' := ?_) ?_ ?_
          rotate_left
          ·show Act.put _ (some 57) _ = _
           simp only [Act.put, zs, zz, zt, i64_w, i32_w]
           rfl
          refine one_ (i := 4) (N := none) #[true, true, true, true, true, false] rfl rfl (by kernel_rfl) (by decide) (fun K hK => ?_)
          have hs41 : w40.cell? ⟨gb116, 0, none⟩ = some (.int .i64 0) := (blk_cell Zb.out 0).trans rfl
          have hfs41 := blk_frozen Zb.out 0
          have hns41_1 := Zc.out
          have hms41_1 := Zd.out
          have hs42 : w40.cell? ⟨gb116, 1, none⟩ = some (.int .i64 0) := (blk_cell Zb.out 1).trans rfl
          have hfs42 := blk_frozen Zb.out 1
          have hns42_1 := Zc.out
          have hms42_1 := Zd.out
          have hs43 : w40.cell? ⟨gb116, 2, none⟩ = some (.int .i64 0) := (blk_cell Zb.out 2).trans rfl
          have hfs43 := blk_frozen Zb.out 2
          have hns43_1 := Zc.out
          have hms43_1 := Zd.out
          have hs44 : w40.cell? ⟨gb116, 3, none⟩ = some (.string (⟨#[]⟩ : ByteArray)) := (blk_cell Zb.out 3).trans rfl
          have hfs44 := blk_frozen Zb.out 3
          have hns44_1 := Zc.out
          have hms44_1 := Zd.out
          refine skip_ (w1 := ?_) (by rfl) rfl ?_ ?_
          rotate_left
          ·go_simp
           rfl
          refine hK.out _ _ ⟨((cell_far (p := ⟨gb116, _, none⟩) Zc.out _).trans (((cell_far (p := ⟨gb116, _, none⟩) Zc.out _).trans (((cell_far (p := ⟨gb116, _, none⟩) Zc.out _).trans (((cell_far (p := ⟨gb116, _, none⟩) Zc.out _).trans (hHeld.1)))))))), ((cell_far (p := ⟨gb116, _, none⟩) Zc.out _).trans (((cell_far (p := ⟨gb116, _, none⟩) Zc.out _).trans (((cell_far (p := ⟨gb116, _, none⟩) Zc.out _).trans (((cell_far (p := ⟨gb116, _, none⟩) Zc.out _).trans (hHeld.2.1)))))))), ((cell_far (p := ⟨gb116, _, none⟩) Zc.out _).trans (((cell_far (p := ⟨gb116, _, none⟩) Zc.out _).trans (((cell_far (p := ⟨gb116, _, none⟩) Zc.out _).trans (((cell_far (p := ⟨gb116, _, none⟩) Zc.out _).trans (hHeld.2.2.1)))))))), ((cell_far (p := ⟨gb116, _, none⟩) Zc.out _).trans (((cell_far (p := ⟨gb116, _, none⟩) Zc.out _).trans (((cell_far (p := ⟨gb116, _, none⟩) Zc.out _).trans (((cell_far (p := ⟨gb116, _, none⟩) Zc.out _).trans (hHeld.2.2.2))))))))⟩ (fun hHeld => ?_)
          clear hK K
          refine pure_ (i := 5) (N := some 3) (v := ?_) (a' := ?_) #[true, true, true, true, true, true] rfl rfl (by kernel_rfl) (fun _ _ _ h => h) (Or.inl ⟨by rfl, ?_⟩) ?_ ?_
          rotate_left
          ·intro w'
           go_simp
           with_reducible rfl
          rotate_left
          ·simp only [Act.put, zs, zz, zt, i64_w, i32_w]
           rfl
          refine done_ (by kernel_rfl) ?_
          try go_wp2
          refine bodyPost_ret (results_ct rfl _ _ gb116 23 #[.int .i64 x121000_1, .int .i64 0, .int .i64 0, .string (rdOf ByteArray.empty t117 1)] (0, 0) _ rfl (by (with_reducible repeat (first | refine blk_drewN ?_ _ | refine blk_drew ?_ | refine blk_alloc ?_ _)); refine blk_put (cs := #[.int .i64 x121000_1, .int .i64 0, .int .i64 0, .string (⟨#[]⟩ : ByteArray)]) ?_ 3 _ rfl; (with_reducible repeat (first | refine blk_drewN ?_ _ | refine blk_drew ?_ | refine blk_alloc ?_ _)); refine blk_put (cs := #[.int .i64 x121000_1, .int .i64 0, .int .i64 0, .string (⟨#[]⟩ : ByteArray)]) ?_ 2 _ rfl; (with_reducible repeat (first | refine blk_drewN ?_ _ | refine blk_drew ?_ | refine blk_alloc ?_ _)); refine blk_put (cs := #[.int .i64 x121000_1, .int .i64 0, .int .i64 0, .string (⟨#[]⟩ : ByteArray)]) ?_ 1 _ rfl; (with_reducible repeat (first | refine blk_drewN ?_ _ | refine blk_drew ?_ | refine blk_alloc ?_ _)); refine blk_put (cs := #[.int .i64 0, .int .i64 0, .int .i64 0, .string (⟨#[]⟩ : ByteArray)]) ?_ 0 _ rfl; (with_reducible repeat (first | refine blk_drewN ?_ _ | refine blk_drew ?_ | refine blk_alloc ?_ _)); exact Zb.out) Tryd.underlying23 rfl (by kernel_rfl)) rfl ?_
          exact ⟨by first | rfl | (simp [errW_none, errW_some] <;> rfl) | (simp [*, errW_none, errW_some] <;> rfl), zg_3 HB.out Ze.out Zg.out⟩
         ·rw [if_neg c31] at H
          exact absurd H (by simp)
        ·replace c30 := Bool.eq_false_iff.mpr c30
         subst c30
         have H1 : (spec_l13Read.l1 k1 t117 (([] : List Int)) 1 x121000_1 0 0 (⟨#[]⟩ : ByteArray)) = some (r1, r2, r3, r4, r5) := by rw [if_neg (show ¬ (false = true) by decide)] at H; exact H
         clear H
         have H := H1
         clear H1
         obtain ⟨y133, hy133⟩ : ∃ y_ : List Int, y_ = (([] : List Int)) := ⟨_, rfl⟩
         replace H : (spec_l13Read.l1 k1 t117 y133 1 x121000_1 0 0 (⟨#[]⟩ : ByteArray)) = some (r1, r2, r3, r4, r5) := by first | (rw [hy133]; with_reducible exact H) | (have H2_ := (Option.bind_some _ _).symm.trans H; rw [hy133]; with_reducible exact H2_) | (have H2_ := (Option.bind_some _ _).symm.trans H; with_reducible exact H2_) | with_reducible exact H | (rw [hy133]; exact H) | exact H
         have Ny133 := zm hy133
         clear hy133
         have H' := zm H
         clear H
         obtain ⟨Ao45, co45, eo45⟩ := Kd.R_slice Zh.out
         subst eo45
         go_wp2_with (first | ((with_reducible refine gate_dst (N := 37) rfl ?_); refine Kd.R_lit (Kd.int .i64) _ 3 ?hg (N := 37) ?hd (xs := ([0, 2, 3, 2, 2, 2, 2, 2, 1] : List Int)) (inner := [.int .i64 0, .int .i64 2, .int .i64 3, .int .i64 2, .int .i64 2, .int .i64 2, .int .i64 2, .int .i64 2, .int .i64 1]) (ok := fun _ => True) (okp := fun _ => True) ?hr ?hp (fun _ hk => hk) trivial (Below.refl _ _) (Nat.le_refl _) (by simp) ?_; (case hd => rfl); (case hg => rfl); (case hr => first | (go_simp; done) | (go_simp; rfl)); (case hp => exact (Reps.one (show Kd.M (Kd.int .i64) _ _ _ 0 [.int .i64 0] from rfl) (Reps.one (show Kd.M (Kd.int .i64) _ _ _ 2 [.int .i64 2] from rfl) (Reps.one (show Kd.M (Kd.int .i64) _ _ _ 3 [.int .i64 3] from rfl) (Reps.one (show Kd.M (Kd.int .i64) _ _ _ 2 [.int .i64 2] from rfl) (Reps.one (show Kd.M (Kd.int .i64) _ _ _ 2 [.int .i64 2] from rfl) (Reps.one (show Kd.M (Kd.int .i64) _ _ _ 2 [.int .i64 2] from rfl) (Reps.one (show Kd.M (Kd.int .i64) _ _ _ 2 [.int .i64 2] from rfl) (Reps.one (show Kd.M (Kd.int .i64) _ _ _ 2 [.int .i64 2] from rfl) (Reps.one (show Kd.M (Kd.int .i64) _ _ _ 1 [.int .i64 1] from rfl) (Reps.none _ _))))))))))); intro v127 w46 ho47 hb hg_ hnew_; clear hg_ hnew_; (first | rw [← Ny126.out] at ho47 | (simp only [Int.reduceToNat] at ho47; rw [← Ny126.out] at ho47)); have n0_ := zm (Kd.R_below (zg_4 Zf.out) hb); have n1_ := zm (Kd.R_below (zg_4 Zh.out) hb); have n2_ := zm (Kd.R_lower ho47 (below_size (zg_3 HB.out Ze.out Zg.out))); have n3_ := zm (blk_below (g := gb116) (o := .cells #[.int .i64 0, .int .i64 0, .int .i64 0, .string (⟨#[]⟩ : ByteArray)] 23 (0, 0)) (zg_1 Zb.out) hb); have n4_ := zm (blk_below (g := gb120) (o := .cells #[.int .i64 x121000_1, .int .i64 0, .int .i64 0, .string (⟨#[]⟩ : ByteArray)] 23 (0, 0)) (zg_1 Za.out) hb); have n5_ := zm (below_step (zg_3 HB.out Ze.out Zg.out) hb); clear Zf; clear Zh; clear Zb; clear Za; clear HB; have Zf := n0_; have Zh := n1_; have Zi := n2_; have Zb := n3_; have Za := n4_; have HB := n5_; clear n0_ n1_ n2_ n3_ n4_ n5_; clear hb ho47; have hnb48 := Zc.out; have hnc48 := Zd.out; have hcz49_0 : w46.cell? ⟨gb120, 0, none⟩ = some (.int .i64 x121000_1) := (blk_cell Za.out 0).trans rfl; have hcz49_1 : w46.cell? ⟨gb120, 1, none⟩ = some (.int .i64 0) := (blk_cell Za.out 1).trans rfl; have hcz49_2 : w46.cell? ⟨gb120, 2, none⟩ = some (.int .i64 0) := (blk_cell Za.out 2).trans rfl; have hcz49_3 : w46.cell? ⟨gb120, 3, none⟩ = some (.string (⟨#[]⟩ : ByteArray)) := (blk_cell Za.out 3).trans rfl; have hfz49_0 := blk_frozen Za.out 0; have hfz49_1 := blk_frozen Za.out 1; have hfz49_2 := blk_frozen Za.out 2; have hfz49_3 := blk_frozen Za.out 3; obtain ⟨Ao50, co50, eo50⟩ := Kd.R_slice Zi.out; subst eo50; have p129 : 0 ≤ (x121000_1 : Int) := zd; have q129 : x121000_1 < (y126.length : Int) := zd; obtain ⟨ad129, e129, hx129_0⟩ := Kd.at_int (Kd.R_reads' Zi.out).2.2 x121000_1 p129 q129; cases e129; replace p129 := eq_true p129; replace q129 := eq_true q129) | ((with_reducible refine gate_callee (f := 41) rfl ?_); refine goesL_ (some 49) rfl rfl Tryd.func41 (by kernel_rfl) rfl #[.int .i64 x121000_1, .int .i64 5, .int .i64 7] rfl zq ?_; (with_reducible refine (spec_l01In.calls x121000_1 5 7 false _ A29.out).mono ?_); rintro e w' ⟨rfl, ⟨nd, rfl⟩⟩; refine ⟨_, rfl, ?_⟩) | ((with_reducible refine gate_dst (N := 58) rfl ?_); refine Kd.R_lit (Kd.int .i64) _ 3 ?hg (N := 58) ?hd (xs := ([] : List Int)) (inner := []) (ok := fun _ => True) (okp := fun _ => True) ?hr ?hp (fun _ hk => hk) trivial (Below.refl _ _) (Nat.le_refl _) (by simp) ?_; (case hd => rfl); (case hg => rfl); (case hr => first | (go_simp; done) | (go_simp; rfl)); (case hp => exact (Reps.none _ _)); intro v134 w51 ho52 hb hg_ hnew_; clear hg_ hnew_; (first | rw [← Ny133.out] at ho52 | (simp only [Int.reduceToNat] at ho52; rw [← Ny133.out] at ho52)); have n0_ := zm (Kd.R_below (zg_4 Zf.out) hb); have n1_ := zm (Kd.R_below (zg_4 Zh.out) hb); have n2_ := zm (Kd.R_elder' (zg_4 Zi.out) (Kd.R_base ho52) hb); have n3_ := zm (Kd.R_lower (Kd.R_new' ho52 (Kd.R_lt (zg_4 Zi.out))) (below_size (zg_3 HB.out Ze.out Zg.out))); have n4_ := zm (blk_below (g := gb116) (o := .cells #[.int .i64 0, .int .i64 0, .int .i64 0, .string (⟨#[]⟩ : ByteArray)] 23 (0, 0)) (zg_1 Zb.out) hb); have n5_ := zm (blk_below (g := gb120) (o := .cells #[.int .i64 x121000_1, .int .i64 0, .int .i64 0, .string (⟨#[]⟩ : ByteArray)] 23 (0, 0)) (zg_1 Za.out) hb); have n6_ := zm (below_step (zg_3 HB.out Ze.out Zg.out) hb); clear Zf; clear Zh; clear Zi; clear Zb; clear Za; clear HB; have Zf := n0_; have Zh := n1_; have Zi := n2_; have Zn := n3_; have Zb := n4_; have Za := n5_; have HB := n6_; clear n0_ n1_ n2_ n3_ n4_ n5_ n6_; clear hb ho52))
         go_loopg [9, 10] k1 (fun kq v9 v10 w' => ∃ (x9_2 : List Int) (x10_2 : Int) (x117000_2 : Int) (x117001_2 : Int) (x117002_2 : Int) (x117003_2 : ByteArray), v10 = .int .i64 x10_2 ∧ Aside0 (spec_l13Read.l1 kq t117 x9_2 x10_2 x121000_1 0 0 (⟨#[]⟩ : ByteArray) = some (r1, r2, r3, r4, r5)) ∧ Aside0 (kq ≤ k1) ∧ Aside0 (Kd.R Kd.string 9 w' w.heap.size (fun _ => True) (.slice Ao11 t117.length co11) t117) ∧ Aside0 (Kd.R (Kd.int .i64) 3 w' w.heap.size (fun _ => True) v9 x9_2) ∧ Aside0 (w'.heap[gb116]? = some (.cells #[.int .i64 x117000_2, .int .i64 x117001_2, .int .i64 x117002_2, .string x117003_2] 23 (0, 0))) ∧ Aside0 (w'.heap[gb120]? = some (.cells #[.int .i64 x121000_1, .int .i64 0, .int .i64 0, .string (⟨#[]⟩ : ByteArray)] 23 (0, 0))) ∧ Aside0 (Below w.heap.size w w'))
         case atStart => exact ⟨(y133), (1), (0), (0), (0), ((⟨#[]⟩ : ByteArray)), zr, H', ⟨Nat.le_refl _⟩, ⟨by (with_reducible repeat (first | apply Kd.R_alloc | apply Kd.R_drewN | apply Kd.R_drew)); exact Kd.R_mono Zf.out (fun _ hk => trivial)⟩, ⟨by (with_reducible repeat (first | apply Kd.R_alloc | apply Kd.R_drewN | apply Kd.R_drew)); exact Kd.R_mono Zn.out (fun _ hk => trivial)⟩, ⟨by (with_reducible repeat (first | refine blk_drewN ?_ _ | refine blk_drew ?_ | refine blk_alloc ?_ _)); exact Zb.out⟩, ⟨by (with_reducible repeat (first | refine blk_drewN ?_ _ | refine blk_drew ?_ | refine blk_alloc ?_ _)); exact Za.out⟩, ⟨zg_3 HB.out Ze.out Zg.out⟩⟩
         case round =>
          clear H'
          try clear c1
          try clear p1
          try clear q1
          try clear hx1
          try clear qi1
          try clear c2
          try clear p2
          try clear c3
          try clear c3b0
          try clear c3b1
          try clear c3b2
          try clear c4
          try clear c6
          try clear p6
          try clear p12
          try clear q12
          try clear hx12
          try clear qi12
          try clear c13
          try clear p13
          try clear q13
          try clear hx13
          try clear qi13
          try clear c16
          try clear c16b0
          try clear c17
          try clear c17b0
          try clear c18
          try clear c18b0
          try clear c18b1
          try clear c19
          try clear c19b0
          try clear c19b1
          try clear c22
          try clear c26
          try clear c26b0
          try clear c27
          try clear c27b0
          try clear c28
          try clear c28b0
          try clear c28b1
          try clear c30
          try clear c31
          try clear c31b0
          try clear c31b1
          try clear c36
          try clear c41
          try clear c42
          try clear c48
          try clear hcz14_0
          try clear hcz14_1
          try clear hcz14_2
          try clear hcz14_3
          try clear hcz23_0
          try clear hcz23_1
          try clear hcz23_2
          try clear hcz23_3
          try clear hcz37_0
          try clear hcz37_1
          try clear hcz37_2
          try clear hcz37_3
          try clear hcz49_0
          try clear hcz49_1
          try clear hcz49_2
          try clear hcz49_3
          try clear hcz7_0
          try clear hcz7_1
          try clear hcz7_2
          try clear hcz7_3
          try clear hfz14_0
          try clear hfz14_1
          try clear hfz14_2
          try clear hfz14_3
          try clear hfz23_0
          try clear hfz23_1
          try clear hfz23_2
          try clear hfz23_3
          try clear hfz37_0
          try clear hfz37_1
          try clear hfz37_2
          try clear hfz37_3
          try clear hfz49_0
          try clear hfz49_1
          try clear hfz49_2
          try clear hfz49_3
          try clear hfz7_0
          try clear hfz7_1
          try clear hfz7_2
          try clear hfz7_3
          try clear hx124_0
          try clear hx125_0
          try clear hx129_0
          try clear hx131_0
          try clear p124
          try clear p125
          try clear p129
          try clear p131
          try clear p2
          try clear q124
          try clear q125
          try clear q129
          try clear q131
          obtain ⟨x9_2, x10_2, x117000_2, x117001_2, x117002_2, x117003_2, rfl, HA, HK2, Zf, Zj, Zb, Za, HB⟩ := hrel
          cases gk with
          | zero => exact absurd HA.out (by simp [spec_l13Read.l1])
          | succ k2 =>
           have H := HA.out
           clear HA
           simp only [spec_l13Read.l1] at H
           by_cases c53 : x10_2 < (t117.length : Int)
           ·rw [if_pos c53] at H
            have c53b0 : decide (x10_2 < (t117.length : Int)) = true := decide_eq_true c53
            clear c53
            by_cases c54 : 0 ≤ x10_2
            ·rw [if_pos c54] at H
             have c54b0 : decide (0 ≤ x10_2) = true := decide_eq_true c54
             clear c54
             replace H := Option.bind_eq_some_iff.mp H
             obtain ⟨⟨t137, t138⟩, A550, H⟩ := H
             replace H : (if t138 = true then ((spec_l02Int.f t137).bind fun t139 => (if t139 = true then (if x9_2.length < 17592186044416 then (spec_l13Read.l1 k2 t117 (x9_2 ++ [t137]) (wrap64 (x10_2 + 1)) x121000_1 0 0 (⟨#[]⟩ : ByteArray)) else (none)) else (some (0, 0, 0, (⟨#[]⟩ : ByteArray), false)))) else (some (0, 0, 0, (⟨#[]⟩ : ByteArray), false))) = some (r1, r2, r3, r4, r5) := H
             have A55 := zm A550
             clear A550
             by_cases c56 : t138 = true
             ·subst c56
              have H1 : ((spec_l02Int.f t137).bind fun t139 => (if t139 = true then (if x9_2.length < 17592186044416 then (spec_l13Read.l1 k2 t117 (x9_2 ++ [t137]) (wrap64 (x10_2 + 1)) x121000_1 0 0 (⟨#[]⟩ : ByteArray)) else (none)) else (some (0, 0, 0, (⟨#[]⟩ : ByteArray), false)))) = some (r1, r2, r3, r4, r5) := by rw [if_pos rfl] at H; exact H
              clear H
              have H := H1
              clear H1
              replace H := Option.bind_eq_some_iff.mp H
              obtain ⟨t139, A570, H⟩ := H
              replace H : (if t139 = true then (if x9_2.length < 17592186044416 then (spec_l13Read.l1 k2 t117 (x9_2 ++ [t137]) (wrap64 (x10_2 + 1)) x121000_1 0 0 (⟨#[]⟩ : ByteArray)) else (none)) else (some (0, 0, 0, (⟨#[]⟩ : ByteArray), false))) = some (r1, r2, r3, r4, r5) := H
              have A57 := zm A570
              clear A570
              by_cases c58 : t139 = true
              ·subst c58
               have H1 : (if x9_2.length < 17592186044416 then (spec_l13Read.l1 k2 t117 (x9_2 ++ [t137]) (wrap64 (x10_2 + 1)) x121000_1 0 0 (⟨#[]⟩ : ByteArray)) else (none)) = some (r1, r2, r3, r4, r5) := by rw [if_pos rfl] at H; exact H
               clear H
               have H := H1
               clear H1
               by_cases c59 : x9_2.length < 17592186044416
               ·rw [if_pos c59] at H
                have LMc59 := zm c59
                clear c59
                obtain ⟨y140, hy140⟩ : ∃ y_ : List Int, y_ = (x9_2 ++ [t137]) := ⟨_, rfl⟩
                replace H : (spec_l13Read.l1 k2 t117 y140 (wrap64 (x10_2 + 1)) x121000_1 0 0 (⟨#[]⟩ : ByteArray)) = some (r1, r2, r3, r4, r5) := by first | (rw [hy140]; with_reducible exact H) | (have H2_ := (Option.bind_some _ _).symm.trans H; rw [hy140]; with_reducible exact H2_) | (have H2_ := (Option.bind_some _ _).symm.trans H; with_reducible exact H2_) | with_reducible exact H | (rw [hy140]; exact H) | exact H
                have Ny140 := zm hy140
                clear hy140
                have H' := zm H
                clear H
                have p136 : 0 ≤ (x10_2 : Int) := zd
                have q136 : x10_2 < (t117.length : Int) := zd
                obtain ⟨ad136, e136, hx136_0⟩ := Kd.at_string (Kd.R_reads' Zf.out).2.2 x10_2 p136 q136
                cases e136
                replace p136 := eq_true p136
                replace q136 := eq_true q136
                go_wp2_with (first | ((with_reducible refine gate_callee (f := 67) rfl ?_); refine goesL_ (some 70) rfl rfl Tryd.func67 (by kernel_rfl) rfl #[.string (rdOf ByteArray.empty t117 x10_2)] rfl zq ?_; (with_reducible refine (spec_l00Number.calls k2 (rdOf ByteArray.empty t117 x10_2) t137 true _ A55.out).mono ?_); rintro e w' ⟨rfl, ⟨nd, rfl⟩⟩; refine ⟨_, rfl, ?_⟩) | (go_at_call 40; (with_reducible refine (spec_l02Int.calls t137 true _ A57.out).mono ?_); rintro e w' ⟨rfl, ⟨nd, rfl⟩⟩) | ((with_reducible refine gate_builtin (b := .append) (xs := #[.tmp 81, .tmp 83]) rfl ?_); at_builtin; refine Kd.R_append (Kd.int .i64) (w0 := w) w.heap.size rfl (.tmp 81) (.tmp 83) 46 3 (.int .i64 0) 8 rfl Tryd.underlying46 info3 rfl (by decide) (by omega) u9 x9_2 t137 [.int .i64 t137] (fun _ => True) (fun _ => False) rfl rfl ?aP (fun _ hk => hk.elim) ?aF ?aO ?aB ?aS ?aL ?_; (case aP => exact rfl); (case aB => exact (zg_3 HB.out Ze.out Zg.out)); (case aF => exact (fun _ _ => trivial)); (case aO => exact (zg_4 Zj.out)); (case aS => exact (below_size (zg_3 HB.out Ze.out Zg.out))); (case aL => have := LMc59.out; omega); intro v141 w60 ho hb hg hat; rw [← Ny140.out] at ho; have n0_ := zm (Kd.R_over' (zg_4 Zf.out) (Kd.R_typed (zg_4 Zj.out)) (by decide) hg); have n1_ := zm (blk_grown (g := gb116) (o := .cells #[.int .i64 x117000_2, .int .i64 x117001_2, .int .i64 x117002_2, .string x117003_2] 23 (0, 0)) (zg_1 Zb.out) hg (Kd.R_ne Zj.out Zb.out (by decide))); have n2_ := zm (blk_grown (g := gb120) (o := .cells #[.int .i64 x121000_1, .int .i64 0, .int .i64 0, .string (⟨#[]⟩ : ByteArray)] 23 (0, 0)) (zg_1 Za.out) hg (Kd.R_ne Zj.out Za.out (by decide))); have n3_ := zm (hb); have n4_ := zm (ho); clear Zf; clear Zb; clear Za; clear HB; clear Zj; have Zf := n0_; have Zb := n1_; have Za := n2_; have HB := n3_; have Zo := n4_; clear n0_ n1_ n2_ n3_ n4_; clear ho hb hg hat))
                go_roundg k2
                case measure => have := HK1.out; have := HK2.out; omega
                case rel => exact ⟨(y140), (wrap64 (x10_2 + 1)), (x117000_2), (x117001_2), (x117002_2), (x117003_2), zr, H', ⟨by have := HK1.out; have := HK2.out; omega⟩, ⟨by (with_reducible repeat (first | apply Kd.R_alloc | apply Kd.R_drewN | apply Kd.R_drew)); exact Zf.out⟩, ⟨by (with_reducible repeat (first | apply Kd.R_alloc | apply Kd.R_drewN | apply Kd.R_drew)); exact Zo.out⟩, ⟨by (with_reducible repeat (first | refine blk_drewN ?_ _ | refine blk_drew ?_ | refine blk_alloc ?_ _)); exact Zb.out⟩, ⟨by (with_reducible repeat (first | refine blk_drewN ?_ _ | refine blk_drew ?_ | refine blk_alloc ?_ _)); exact Za.out⟩, ⟨zg_3 HB.out Ze.out Zg.out⟩⟩
               ·rw [if_neg c59] at H
                exact absurd H (by simp)
              ·replace c58 := Bool.eq_false_iff.mpr c58
               subst c58
               have H1 : (some (0, 0, 0, (⟨#[]⟩ : ByteArray), false)) = some (r1, r2, r3, r4, r5) := by rw [if_neg (show ¬ (false = true) by decide)] at H; exact H
               clear H
               have H := H1
               clear H1
               simp only [Option.some.injEq, Prod.mk.injEq] at H
               obtain ⟨rfl, rfl, rfl, rfl, rfl⟩ := H
               have p136 : 0 ≤ (x10_2 : Int) := zd
               have q136 : x10_2 < (t117.length : Int) := zd
               obtain ⟨ad136, e136, hx136_0⟩ := Kd.at_string (Kd.R_reads' Zf.out).2.2 x10_2 p136 q136
               cases e136
               replace p136 := eq_true p136
               replace q136 := eq_true q136
               go_wp2_with (first | ((with_reducible refine gate_callee (f := 67) rfl ?_); refine goesL_ (some 70) rfl rfl Tryd.func67 (by kernel_rfl) rfl #[.string (rdOf ByteArray.empty t117 x10_2)] rfl zq ?_; (with_reducible refine (spec_l00Number.calls k2 (rdOf ByteArray.empty t117 x10_2) t137 true _ A55.out).mono ?_); rintro e w' ⟨rfl, ⟨nd, rfl⟩⟩; refine ⟨_, rfl, ?_⟩; (try (rw [drewN_self wr]; generalize hq_ : World.drewN wr _ = wr; have n0_ : Aside0 (Kd.R Kd.string 9 wr w.heap.size (fun _ => True) (.slice (some ad136) t117.length co11) t117) := ⟨by rw [← hq_]; exact (zg_4 Zf.out)⟩; have n1_ : Aside0 (Kd.R (Kd.int .i64) 3 wr w.heap.size (fun _ => True) u9 x9_2) := ⟨by rw [← hq_]; exact (zg_4 Zj.out)⟩; have n2_ : Aside0 (wr.heap[gb116]? = some (.cells #[.int .i64 x117000_2, .int .i64 x117001_2, .int .i64 x117002_2, .string x117003_2] 23 (0, 0))) := ⟨by rw [← hq_]; exact (zg_1 Zb.out)⟩; have n3_ : Aside0 (wr.heap[gb120]? = some (.cells #[.int .i64 x121000_1, .int .i64 0, .int .i64 0, .string (⟨#[]⟩ : ByteArray)] 23 (0, 0))) := ⟨by rw [← hq_]; exact (zg_1 Za.out)⟩; have n4_ : Aside0 (Below w.heap.size w wr) := ⟨by rw [← hq_]; exact (zg_3 HB.out Ze.out Zg.out)⟩; clear Zf Zj Zb Za HB hq_; have Zf := n0_; have Zj := n1_; have Zb := n2_; have Za := n3_; have HB := n4_; clear n0_ n1_ n2_ n3_ n4_))) | (go_at_call 40; (with_reducible refine (spec_l02Int.calls t137 false _ A57.out).mono ?_); rintro e w' ⟨rfl, ⟨nd, rfl⟩⟩; (try (rw [drewN_self wr]; generalize hq_ : World.drewN wr _ = wr; have n0_ : Aside0 (Kd.R Kd.string 9 wr w.heap.size (fun _ => True) (.slice (some ad136) t117.length co11) t117) := ⟨by rw [← hq_]; exact (zg_4 Zf.out)⟩; have n1_ : Aside0 (Kd.R (Kd.int .i64) 3 wr w.heap.size (fun _ => True) u9 x9_2) := ⟨by rw [← hq_]; exact (zg_4 Zj.out)⟩; have n2_ : Aside0 (wr.heap[gb116]? = some (.cells #[.int .i64 x117000_2, .int .i64 x117001_2, .int .i64 x117002_2, .string x117003_2] 23 (0, 0))) := ⟨by rw [← hq_]; exact (zg_1 Zb.out)⟩; have n3_ : Aside0 (wr.heap[gb120]? = some (.cells #[.int .i64 x121000_1, .int .i64 0, .int .i64 0, .string (⟨#[]⟩ : ByteArray)] 23 (0, 0))) := ⟨by rw [← hq_]; exact (zg_1 Za.out)⟩; have n4_ : Aside0 (Below w.heap.size w wr) := ⟨by rw [← hq_]; exact (zg_3 HB.out Ze.out Zg.out)⟩; clear Zf Zj Zb Za HB hq_; have Zf := n0_; have Zj := n1_; have Zb := n2_; have Za := n3_; have HB := n4_; clear n0_ n1_ n2_ n3_ n4_)); have hnb61 := Zd.out; have hnc61 := Zc.out; have hcz62_0 : wr.cell? ⟨gb116, 0, none⟩ = some (.int .i64 x117000_2) := (blk_cell Zb.out 0).trans rfl; have hcz62_1 : wr.cell? ⟨gb116, 1, none⟩ = some (.int .i64 x117001_2) := (blk_cell Zb.out 1).trans rfl; have hcz62_2 : wr.cell? ⟨gb116, 2, none⟩ = some (.int .i64 x117002_2) := (blk_cell Zb.out 2).trans rfl; have hcz62_3 : wr.cell? ⟨gb116, 3, none⟩ = some (.string x117003_2) := (blk_cell Zb.out 3).trans rfl; have hfz62_0 := blk_frozen Zb.out 0; have hfz62_1 := blk_frozen Zb.out 1; have hfz62_2 := blk_frozen Zb.out 2; have hfz62_3 := blk_frozen Zb.out 3))
               refine bodyPost_ret (results_ct rfl _ _ gb116 23 #[.int .i64 0, .int .i64 0, .int .i64 0, .string (⟨#[]⟩ : ByteArray)] (0, 0) _ rfl (by (with_reducible repeat (first | refine blk_drewN ?_ _ | refine blk_drew ?_ | refine blk_alloc ?_ _)); refine blk_put (cs := #[.int .i64 0, .int .i64 0, .int .i64 0, .string x117003_2]) ?_ 3 _ rfl; (with_reducible repeat (first | refine blk_drewN ?_ _ | refine blk_drew ?_ | refine blk_alloc ?_ _)); refine blk_put (cs := #[.int .i64 0, .int .i64 0, .int .i64 x117002_2, .string x117003_2]) ?_ 2 _ rfl; (with_reducible repeat (first | refine blk_drewN ?_ _ | refine blk_drew ?_ | refine blk_alloc ?_ _)); refine blk_put (cs := #[.int .i64 0, .int .i64 x117001_2, .int .i64 x117002_2, .string x117003_2]) ?_ 1 _ rfl; (with_reducible repeat (first | refine blk_drewN ?_ _ | refine blk_drew ?_ | refine blk_alloc ?_ _)); refine blk_put (cs := #[.int .i64 x117000_2, .int .i64 x117001_2, .int .i64 x117002_2, .string x117003_2]) ?_ 0 _ rfl; (with_reducible repeat (first | refine blk_drewN ?_ _ | refine blk_drew ?_ | refine blk_alloc ?_ _)); exact Zb.out) Tryd.underlying23 rfl (by kernel_rfl)) rfl ?_
               exact ⟨by first | rfl | (simp [errW_none, errW_some] <;> rfl) | (simp [*, errW_none, errW_some] <;> rfl), zg_3 HB.out Ze.out Zg.out⟩
             ·replace c56 := Bool.eq_false_iff.mpr c56
              subst c56
              have H1 : (some (0, 0, 0, (⟨#[]⟩ : ByteArray), false)) = some (r1, r2, r3, r4, r5) := by rw [if_neg (show ¬ (false = true) by decide)] at H; exact H
              clear H
              have H := H1
              clear H1
              simp only [Option.some.injEq, Prod.mk.injEq] at H
              obtain ⟨rfl, rfl, rfl, rfl, rfl⟩ := H
              have p136 : 0 ≤ (x10_2 : Int) := zd
              have q136 : x10_2 < (t117.length : Int) := zd
              obtain ⟨ad136, e136, hx136_0⟩ := Kd.at_string (Kd.R_reads' Zf.out).2.2 x10_2 p136 q136
              cases e136
              replace p136 := eq_true p136
              replace q136 := eq_true q136
              go_wp2_with (first | ((with_reducible refine gate_callee (f := 67) rfl ?_); refine goesL_ (some 70) rfl rfl Tryd.func67 (by kernel_rfl) rfl #[.string (rdOf ByteArray.empty t117 x10_2)] rfl zq ?_; (with_reducible refine (spec_l00Number.calls k2 (rdOf ByteArray.empty t117 x10_2) t137 false _ A55.out).mono ?_); rintro e w' ⟨rfl, ⟨nd, rfl⟩⟩; refine ⟨_, rfl, ?_⟩; (try (rw [drewN_self wr]; generalize hq_ : World.drewN wr _ = wr; have n0_ : Aside0 (Kd.R Kd.string 9 wr w.heap.size (fun _ => True) (.slice (some ad136) t117.length co11) t117) := ⟨by rw [← hq_]; exact (zg_4 Zf.out)⟩; have n1_ : Aside0 (Kd.R (Kd.int .i64) 3 wr w.heap.size (fun _ => True) u9 x9_2) := ⟨by rw [← hq_]; exact (zg_4 Zj.out)⟩; have n2_ : Aside0 (wr.heap[gb116]? = some (.cells #[.int .i64 x117000_2, .int .i64 x117001_2, .int .i64 x117002_2, .string x117003_2] 23 (0, 0))) := ⟨by rw [← hq_]; exact (zg_1 Zb.out)⟩; have n3_ : Aside0 (wr.heap[gb120]? = some (.cells #[.int .i64 x121000_1, .int .i64 0, .int .i64 0, .string (⟨#[]⟩ : ByteArray)] 23 (0, 0))) := ⟨by rw [← hq_]; exact (zg_1 Za.out)⟩; have n4_ : Aside0 (Below w.heap.size w wr) := ⟨by rw [← hq_]; exact (zg_3 HB.out Ze.out Zg.out)⟩; clear Zf Zj Zb Za HB hq_; have Zf := n0_; have Zj := n1_; have Zb := n2_; have Za := n3_; have HB := n4_; clear n0_ n1_ n2_ n3_ n4_)); have hnb63 := Zd.out; have hnc63 := Zc.out; have hcz64_0 : wr.cell? ⟨gb116, 0, none⟩ = some (.int .i64 x117000_2) := (blk_cell Zb.out 0).trans rfl; have hcz64_1 : wr.cell? ⟨gb116, 1, none⟩ = some (.int .i64 x117001_2) := (blk_cell Zb.out 1).trans rfl; have hcz64_2 : wr.cell? ⟨gb116, 2, none⟩ = some (.int .i64 x117002_2) := (blk_cell Zb.out 2).trans rfl; have hcz64_3 : wr.cell? ⟨gb116, 3, none⟩ = some (.string x117003_2) := (blk_cell Zb.out 3).trans rfl; have hfz64_0 := blk_frozen Zb.out 0; have hfz64_1 := blk_frozen Zb.out 1; have hfz64_2 := blk_frozen Zb.out 2; have hfz64_3 := blk_frozen Zb.out 3))
              refine bodyPost_ret (results_ct rfl _ _ gb116 23 #[.int .i64 0, .int .i64 0, .int .i64 0, .string (⟨#[]⟩ : ByteArray)] (0, 0) _ rfl (by (with_reducible repeat (first | refine blk_drewN ?_ _ | refine blk_drew ?_ | refine blk_alloc ?_ _)); refine blk_put (cs := #[.int .i64 0, .int .i64 0, .int .i64 0, .string x117003_2]) ?_ 3 _ rfl; (with_reducible repeat (first | refine blk_drewN ?_ _ | refine blk_drew ?_ | refine blk_alloc ?_ _)); refine blk_put (cs := #[.int .i64 0, .int .i64 0, .int .i64 x117002_2, .string x117003_2]) ?_ 2 _ rfl; (with_reducible repeat (first | refine blk_drewN ?_ _ | refine blk_drew ?_ | refine blk_alloc ?_ _)); refine blk_put (cs := #[.int .i64 0, .int .i64 x117001_2, .int .i64 x117002_2, .string x117003_2]) ?_ 1 _ rfl; (with_reducible repeat (first | refine blk_drewN ?_ _ | refine blk_drew ?_ | refine blk_alloc ?_ _)); refine blk_put (cs := #[.int .i64 x117000_2, .int .i64 x117001_2, .int .i64 x117002_2, .string x117003_2]) ?_ 0 _ rfl; (with_reducible repeat (first | refine blk_drewN ?_ _ | refine blk_drew ?_ | refine blk_alloc ?_ _)); exact Zb.out) Tryd.underlying23 rfl (by kernel_rfl)) rfl ?_
              exact ⟨by first | rfl | (simp [errW_none, errW_some] <;> rfl) | (simp [*, errW_none, errW_some] <;> rfl), zg_3 HB.out Ze.out Zg.out⟩
            ·rw [if_neg c54] at H
             exact absurd H (by simp)
           ·rw [if_neg c53] at H
            have c53b0 : decide (x10_2 < (t117.length : Int)) = false := decide_eq_false c53
            clear c53
            by_cases c65 : (x9_2.length : Int) > 0
            ·rw [if_pos c65] at H
             have c65b0 : decide (0 < (x9_2.length : Int)) = true := decide_eq_true c65
             have c65b1 : decide (0 < x9_2.length) = true := decide_eq_true (by omega)
             clear c65
             by_cases c66 : 0 < (x9_2.length : Int)
             ·rw [if_pos c66] at H
              have c66b0 : decide (0 < (x9_2.length : Int)) = true := decide_eq_true c66
              have c66b1 : decide (0 < x9_2.length) = true := decide_eq_true (by omega)
              clear c66
              by_cases c67 : (x9_2.length : Int) > 1
              ·rw [if_pos c67] at H
               have c67b0 : decide (1 < (x9_2.length : Int)) = true := decide_eq_true c67
               have c67b1 : decide (1 < x9_2.length) = true := decide_eq_true (by omega)
               clear c67
               by_cases c68 : 1 < (x9_2.length : Int)
               ·rw [if_pos c68] at H
                have c68b0 : decide (1 < (x9_2.length : Int)) = true := decide_eq_true c68
                have c68b1 : decide (1 < x9_2.length) = true := decide_eq_true (by omega)
                clear c68
                simp only [Option.some.injEq, Prod.mk.injEq] at H
                obtain ⟨rfl, rfl, rfl, rfl, rfl⟩ := H
                obtain ⟨Ao69, co69, eo69⟩ := Kd.R_slice Zj.out
                subst eo69
                have p143 : 0 ≤ (0 : Int) := (by omega)
                have q143 : 0 < (x9_2.length : Int) := zd
                obtain ⟨ad143, e143, hx143_0⟩ := Kd.at_int (Kd.R_reads' Zj.out).2.2 0 p143 q143
                cases e143
                have qi143 : (0 < x9_2.length) = True := eq_true (by omega)
                (try rw [show ((0 : Int)).toNat = 0 from rfl] at hx143_0)
                (try rw [Addr.add_zero'] at hx143_0)
                replace p143 := eq_true p143
                replace q143 := eq_true q143
                have hnb70 := Zc.out
                have hnc70 := Zd.out
                have hcz71_0 : wr.cell? ⟨gb120, 0, none⟩ = some (.int .i64 x121000_1) := (blk_cell Za.out 0).trans rfl
                have hcz71_1 : wr.cell? ⟨gb120, 1, none⟩ = some (.int .i64 0) := (blk_cell Za.out 1).trans rfl
                have hcz71_2 : wr.cell? ⟨gb120, 2, none⟩ = some (.int .i64 0) := (blk_cell Za.out 2).trans rfl
                have hcz71_3 : wr.cell? ⟨gb120, 3, none⟩ = some (.string (⟨#[]⟩ : ByteArray)) := (blk_cell Za.out 3).trans rfl
                have hfz71_0 := blk_frozen Za.out 0
                have hfz71_1 := blk_frozen Za.out 1
                have hfz71_2 := blk_frozen Za.out 2
                have hfz71_3 := blk_frozen Za.out 3
                have p144 : 0 ≤ (1 : Int) := (by omega)
                have q144 : 1 < (x9_2.length : Int) := zd
                obtain ⟨ad144, e144, hx144_0⟩ := Kd.at_int (Kd.R_reads' Zj.out).2.2 1 p144 q144
                obtain rfl : ad143 = ad144 := (by injection e144)
                (try simp only [show (1 : Int).toNat = 1 from rfl, Nat.reduceMul, Nat.reduceEqDiff, Go.Addr.add, ↓reduceIte] at hx144_0)
                have qi144 : (1 < x9_2.length) = True := eq_true (by omega)
                (try rw [show ((1 : Int)).toNat = 1 from rfl] at hx144_0)
                have hn144_0 : ad143.block ≠ gb120 := (by first | exact Kd.own_blk (Kd.R_ne Zj.out Za.out (by decide)) | exact (Zj.out.1 _ rfl).2 | exact (Zj.out.1 _ rfl).1.2)
                replace hx144_0 := (cell_far (p := ⟨gb120, 1, none⟩) (by first | (rw [add_block]; exact hn144_0) | (show (Addr.add _ _).block ≠ _; rw [add_block]; exact hn144_0) | exact hn144_0) (.int .i64 (rd x9_2 0))).trans hx144_0
                clear hn144_0
                replace p144 := eq_true p144
                replace q144 := eq_true q144
                have hcz72_0 : wr.cell? ⟨gb116, 0, none⟩ = some (.int .i64 x117000_2) := (blk_cell Zb.out 0).trans rfl
                have hcz72_1 : wr.cell? ⟨gb116, 1, none⟩ = some (.int .i64 x117001_2) := (blk_cell Zb.out 1).trans rfl
                have hcz72_2 : wr.cell? ⟨gb116, 2, none⟩ = some (.int .i64 x117002_2) := (blk_cell Zb.out 2).trans rfl
                have hcz72_3 : wr.cell? ⟨gb116, 3, none⟩ = some (.string x117003_2) := (blk_cell Zb.out 3).trans rfl
                have hfz72_0 := blk_frozen Zb.out 0
                have hfz72_1 := blk_frozen Zb.out 1
                have hfz72_2 := blk_frozen Zb.out 2
                have hfz72_3 := blk_frozen Zb.out 3
                go_wp2
                refine bodyPost_ret (results_ct rfl _ _ gb116 23 #[.int .i64 x121000_1, .int .i64 (rd x9_2 0), .int .i64 (rd x9_2 1), .string (⟨#[]⟩ : ByteArray)] (0, 0) _ rfl (by (with_reducible repeat (first | refine blk_drewN ?_ _ | refine blk_drew ?_ | refine blk_alloc ?_ _)); refine blk_put (cs := #[.int .i64 x121000_1, .int .i64 (rd x9_2 0), .int .i64 (rd x9_2 1), .string x117003_2]) ?_ 3 _ rfl; (with_reducible repeat (first | refine blk_drewN ?_ _ | refine blk_drew ?_ | refine blk_alloc ?_ _)); refine blk_put (cs := #[.int .i64 x121000_1, .int .i64 (rd x9_2 0), .int .i64 x117002_2, .string x117003_2]) ?_ 2 _ rfl; (with_reducible repeat (first | refine blk_drewN ?_ _ | refine blk_drew ?_ | refine blk_alloc ?_ _)); refine blk_put (cs := #[.int .i64 x121000_1, .int .i64 x117001_2, .int .i64 x117002_2, .string x117003_2]) ?_ 1 _ rfl; (with_reducible repeat (first | refine blk_drewN ?_ _ | refine blk_drew ?_ | refine blk_alloc ?_ _)); refine blk_put (cs := #[.int .i64 x117000_2, .int .i64 x117001_2, .int .i64 x117002_2, .string x117003_2]) ?_ 0 _ rfl; (with_reducible repeat (first | refine blk_drewN ?_ _ | refine blk_drew ?_ | refine blk_alloc ?_ _)); refine blk_far ?_ Zd.out _; (with_reducible repeat (first | refine blk_drewN ?_ _ | refine blk_drew ?_ | refine blk_alloc ?_ _)); refine blk_far ?_ Zd.out _; (with_reducible repeat (first | refine blk_drewN ?_ _ | refine blk_drew ?_ | refine blk_alloc ?_ _)); exact Zb.out) Tryd.underlying23 rfl (by kernel_rfl)) rfl ?_
                exact ⟨by first | rfl | (simp [errW_none, errW_some] <;> rfl) | (simp [*, errW_none, errW_some] <;> rfl), zg_3 HB.out Ze.out Zg.out⟩
               ·rw [if_neg c68] at H
                exact absurd H (by simp)
              ·rw [if_neg c67] at H
               have c67b0 : decide (1 < (x9_2.length : Int)) = false := decide_eq_false c67
               have c67b1 : decide (1 < x9_2.length) = false := decide_eq_false (by omega)
               clear c67
               simp only [Option.some.injEq, Prod.mk.injEq] at H
               obtain ⟨rfl, rfl, rfl, rfl, rfl⟩ := H
               obtain ⟨Ao73, co73, eo73⟩ := Kd.R_slice Zj.out
               subst eo73
               have p143 : 0 ≤ (0 : Int) := (by omega)
               have q143 : 0 < (x9_2.length : Int) := zd
               obtain ⟨ad143, e143, hx143_0⟩ := Kd.at_int (Kd.R_reads' Zj.out).2.2 0 p143 q143
               cases e143
               have qi143 : (0 < x9_2.length) = True := eq_true (by omega)
               (try rw [show ((0 : Int)).toNat = 0 from rfl] at hx143_0)
               (try rw [Addr.add_zero'] at hx143_0)
               replace p143 := eq_true p143
               replace q143 := eq_true q143
               have hnb74 := Zc.out
               have hnc74 := Zd.out
               have hcz75_0 : wr.cell? ⟨gb120, 0, none⟩ = some (.int .i64 x121000_1) := (blk_cell Za.out 0).trans rfl
               have hcz75_1 : wr.cell? ⟨gb120, 1, none⟩ = some (.int .i64 0) := (blk_cell Za.out 1).trans rfl
               have hcz75_2 : wr.cell? ⟨gb120, 2, none⟩ = some (.int .i64 0) := (blk_cell Za.out 2).trans rfl
               have hcz75_3 : wr.cell? ⟨gb120, 3, none⟩ = some (.string (⟨#[]⟩ : ByteArray)) := (blk_cell Za.out 3).trans rfl
               have hfz75_0 := blk_frozen Za.out 0
               have hfz75_1 := blk_frozen Za.out 1
               have hfz75_2 := blk_frozen Za.out 2
               have hfz75_3 := blk_frozen Za.out 3
               have hcz76_0 : wr.cell? ⟨gb116, 0, none⟩ = some (.int .i64 x117000_2) := (blk_cell Zb.out 0).trans rfl
               have hcz76_1 : wr.cell? ⟨gb116, 1, none⟩ = some (.int .i64 x117001_2) := (blk_cell Zb.out 1).trans rfl
               have hcz76_2 : wr.cell? ⟨gb116, 2, none⟩ = some (.int .i64 x117002_2) := (blk_cell Zb.out 2).trans rfl
               have hcz76_3 : wr.cell? ⟨gb116, 3, none⟩ = some (.string x117003_2) := (blk_cell Zb.out 3).trans rfl
               have hfz76_0 := blk_frozen Zb.out 0
               have hfz76_1 := blk_frozen Zb.out 1
               have hfz76_2 := blk_frozen Zb.out 2
               have hfz76_3 := blk_frozen Zb.out 3
               go_wp2
               refine bodyPost_ret (results_ct rfl _ _ gb116 23 #[.int .i64 x121000_1, .int .i64 (rd x9_2 0), .int .i64 0, .string (⟨#[]⟩ : ByteArray)] (0, 0) _ rfl (by (with_reducible repeat (first | refine blk_drewN ?_ _ | refine blk_drew ?_ | refine blk_alloc ?_ _)); refine blk_put (cs := #[.int .i64 x121000_1, .int .i64 (rd x9_2 0), .int .i64 0, .string x117003_2]) ?_ 3 _ rfl; (with_reducible repeat (first | refine blk_drewN ?_ _ | refine blk_drew ?_ | refine blk_alloc ?_ _)); refine blk_put (cs := #[.int .i64 x121000_1, .int .i64 (rd x9_2 0), .int .i64 x117002_2, .string x117003_2]) ?_ 2 _ rfl; (with_reducible repeat (first | refine blk_drewN ?_ _ | refine blk_drew ?_ | refine blk_alloc ?_ _)); refine blk_put (cs := #[.int .i64 x121000_1, .int .i64 x117001_2, .int .i64 x117002_2, .string x117003_2]) ?_ 1 _ rfl; (with_reducible repeat (first | refine blk_drewN ?_ _ | refine blk_drew ?_ | refine blk_alloc ?_ _)); refine blk_put (cs := #[.int .i64 x117000_2, .int .i64 x117001_2, .int .i64 x117002_2, .string x117003_2]) ?_ 0 _ rfl; (with_reducible repeat (first | refine blk_drewN ?_ _ | refine blk_drew ?_ | refine blk_alloc ?_ _)); refine blk_far ?_ Zd.out _; (with_reducible repeat (first | refine blk_drewN ?_ _ | refine blk_drew ?_ | refine blk_alloc ?_ _)); exact Zb.out) Tryd.underlying23 rfl (by kernel_rfl)) rfl ?_
               exact ⟨by first | rfl | (simp [errW_none, errW_some] <;> rfl) | (simp [*, errW_none, errW_some] <;> rfl), zg_3 HB.out Ze.out Zg.out⟩
             ·rw [if_neg c66] at H
              exact absurd H (by simp)
            ·rw [if_neg c65] at H
             have c65b0 : decide (0 < (x9_2.length : Int)) = false := decide_eq_false c65
             have c65b1 : decide (0 < x9_2.length) = false := decide_eq_false (by omega)
             clear c65
             by_cases c77 : (x9_2.length : Int) > 1
             ·rw [if_pos c77] at H
              have c77b0 : decide (1 < (x9_2.length : Int)) = true := decide_eq_true c77
              have c77b1 : decide (1 < x9_2.length) = true := decide_eq_true (by omega)
              clear c77
              by_cases c78 : 1 < (x9_2.length : Int)
              ·rw [if_pos c78] at H
               have c78b0 : decide (1 < (x9_2.length : Int)) = true := decide_eq_true c78
               have c78b1 : decide (1 < x9_2.length) = true := decide_eq_true (by omega)
               clear c78
               simp only [Option.some.injEq, Prod.mk.injEq] at H
               obtain ⟨rfl, rfl, rfl, rfl, rfl⟩ := H
               obtain ⟨Ao79, co79, eo79⟩ := Kd.R_slice Zj.out
               subst eo79
               have p145 : 0 ≤ (1 : Int) := (by omega)
               have q145 : 1 < (x9_2.length : Int) := zd
               obtain ⟨ad145, e145, hx145_0⟩ := Kd.at_int (Kd.R_reads' Zj.out).2.2 1 p145 q145
               cases e145
               (try simp only [show (1 : Int).toNat = 1 from rfl, Nat.reduceMul, Nat.reduceEqDiff, Go.Addr.add, ↓reduceIte] at hx145_0)
               have qi145 : (1 < x9_2.length) = True := eq_true (by omega)
               (try rw [show ((1 : Int)).toNat = 1 from rfl] at hx145_0)
               replace p145 := eq_true p145
               replace q145 := eq_true q145
               have hnb80 := Zc.out
               have hnc80 := Zd.out
               have hcz81_0 : wr.cell? ⟨gb120, 0, none⟩ = some (.int .i64 x121000_1) := (blk_cell Za.out 0).trans rfl
               have hcz81_1 : wr.cell? ⟨gb120, 1, none⟩ = some (.int .i64 0) := (blk_cell Za.out 1).trans rfl
               have hcz81_2 : wr.cell? ⟨gb120, 2, none⟩ = some (.int .i64 0) := (blk_cell Za.out 2).trans rfl
               have hcz81_3 : wr.cell? ⟨gb120, 3, none⟩ = some (.string (⟨#[]⟩ : ByteArray)) := (blk_cell Za.out 3).trans rfl
               have hfz81_0 := blk_frozen Za.out 0
               have hfz81_1 := blk_frozen Za.out 1
               have hfz81_2 := blk_frozen Za.out 2
               have hfz81_3 := blk_frozen Za.out 3
               have hcz82_0 : wr.cell? ⟨gb116, 0, none⟩ = some (.int .i64 x117000_2) := (blk_cell Zb.out 0).trans rfl
               have hcz82_1 : wr.cell? ⟨gb116, 1, none⟩ = some (.int .i64 x117001_2) := (blk_cell Zb.out 1).trans rfl
               have hcz82_2 : wr.cell? ⟨gb116, 2, none⟩ = some (.int .i64 x117002_2) := (blk_cell Zb.out 2).trans rfl
               have hcz82_3 : wr.cell? ⟨gb116, 3, none⟩ = some (.string x117003_2) := (blk_cell Zb.out 3).trans rfl
               have hfz82_0 := blk_frozen Zb.out 0
               have hfz82_1 := blk_frozen Zb.out 1
               have hfz82_2 := blk_frozen Zb.out 2
               have hfz82_3 := blk_frozen Zb.out 3
               go_wp2
               refine bodyPost_ret (results_ct rfl _ _ gb116 23 #[.int .i64 x121000_1, .int .i64 0, .int .i64 (rd x9_2 1), .string (⟨#[]⟩ : ByteArray)] (0, 0) _ rfl (by (with_reducible repeat (first | refine blk_drewN ?_ _ | refine blk_drew ?_ | refine blk_alloc ?_ _)); refine blk_put (cs := #[.int .i64 x121000_1, .int .i64 0, .int .i64 (rd x9_2 1), .string x117003_2]) ?_ 3 _ rfl; (with_reducible repeat (first | refine blk_drewN ?_ _ | refine blk_drew ?_ | refine blk_alloc ?_ _)); refine blk_put (cs := #[.int .i64 x121000_1, .int .i64 0, .int .i64 x117002_2, .string x117003_2]) ?_ 2 _ rfl; (with_reducible repeat (first | refine blk_drewN ?_ _ | refine blk_drew ?_ | refine blk_alloc ?_ _)); refine blk_put (cs := #[.int .i64 x121000_1, .int .i64 x117001_2, .int .i64 x117002_2, .string x117003_2]) ?_ 1 _ rfl; (with_reducible repeat (first | refine blk_drewN ?_ _ | refine blk_drew ?_ | refine blk_alloc ?_ _)); refine blk_put (cs := #[.int .i64 x117000_2, .int .i64 x117001_2, .int .i64 x117002_2, .string x117003_2]) ?_ 0 _ rfl; (with_reducible repeat (first | refine blk_drewN ?_ _ | refine blk_drew ?_ | refine blk_alloc ?_ _)); refine blk_far ?_ Zd.out _; (with_reducible repeat (first | refine blk_drewN ?_ _ | refine blk_drew ?_ | refine blk_alloc ?_ _)); exact Zb.out) Tryd.underlying23 rfl (by kernel_rfl)) rfl ?_
               exact ⟨by first | rfl | (simp [errW_none, errW_some] <;> rfl) | (simp [*, errW_none, errW_some] <;> rfl), zg_3 HB.out Ze.out Zg.out⟩
              ·rw [if_neg c78] at H
               exact absurd H (by simp)
             ·rw [if_neg c77] at H
              have c77b0 : decide (1 < (x9_2.length : Int)) = false := decide_eq_false c77
              have c77b1 : decide (1 < x9_2.length) = false := decide_eq_false (by omega)
              clear c77
              simp only [Option.some.injEq, Prod.mk.injEq] at H
              obtain ⟨rfl, rfl, rfl, rfl, rfl⟩ := H
              obtain ⟨Ao83, co83, eo83⟩ := Kd.R_slice Zj.out
              subst eo83
              have hnb84 := Zc.out
              have hnc84 := Zd.out
              have hcz85_0 : wr.cell? ⟨gb120, 0, none⟩ = some (.int .i64 x121000_1) := (blk_cell Za.out 0).trans rfl
              have hcz85_1 : wr.cell? ⟨gb120, 1, none⟩ = some (.int .i64 0) := (blk_cell Za.out 1).trans rfl
              have hcz85_2 : wr.cell? ⟨gb120, 2, none⟩ = some (.int .i64 0) := (blk_cell Za.out 2).trans rfl
              have hcz85_3 : wr.cell? ⟨gb120, 3, none⟩ = some (.string (⟨#[]⟩ : ByteArray)) := (blk_cell Za.out 3).trans rfl
              have hfz85_0 := blk_frozen Za.out 0
              have hfz85_1 := blk_frozen Za.out 1
              have hfz85_2 := blk_frozen Za.out 2
              have hfz85_3 := blk_frozen Za.out 3
              have hcz86_0 : wr.cell? ⟨gb116, 0, none⟩ = some (.int .i64 x117000_2) := (blk_cell Zb.out 0).trans rfl
              have hcz86_1 : wr.cell? ⟨gb116, 1, none⟩ = some (.int .i64 x117001_2) := (blk_cell Zb.out 1).trans rfl
              have hcz86_2 : wr.cell? ⟨gb116, 2, none⟩ = some (.int .i64 x117002_2) := (blk_cell Zb.out 2).trans rfl
              have hcz86_3 : wr.cell? ⟨gb116, 3, none⟩ = some (.string x117003_2) := (blk_cell Zb.out 3).trans rfl
              have hfz86_0 := blk_frozen Zb.out 0
              have hfz86_1 := blk_frozen Zb.out 1
              have hfz86_2 := blk_frozen Zb.out 2
              have hfz86_3 := blk_frozen Zb.out 3
              go_wp2
              refine bodyPost_ret (results_ct rfl _ _ gb116 23 #[.int .i64 x121000_1, .int .i64 0, .int .i64 0, .string (⟨#[]⟩ : ByteArray)] (0, 0) _ rfl (by (with_reducible repeat (first | refine blk_drewN ?_ _ | refine blk_drew ?_ | refine blk_alloc ?_ _)); refine blk_put (cs := #[.int .i64 x121000_1, .int .i64 0, .int .i64 0, .string x117003_2]) ?_ 3 _ rfl; (with_reducible repeat (first | refine blk_drewN ?_ _ | refine blk_drew ?_ | refine blk_alloc ?_ _)); refine blk_put (cs := #[.int .i64 x121000_1, .int .i64 0, .int .i64 x117002_2, .string x117003_2]) ?_ 2 _ rfl; (with_reducible repeat (first | refine blk_drewN ?_ _ | refine blk_drew ?_ | refine blk_alloc ?_ _)); refine blk_put (cs := #[.int .i64 x121000_1, .int .i64 x117001_2, .int .i64 x117002_2, .string x117003_2]) ?_ 1 _ rfl; (with_reducible repeat (first | refine blk_drewN ?_ _ | refine blk_drew ?_ | refine blk_alloc ?_ _)); refine blk_put (cs := #[.int .i64 x117000_2, .int .i64 x117001_2, .int .i64 x117002_2, .string x117003_2]) ?_ 0 _ rfl; (with_reducible repeat (first | refine blk_drewN ?_ _ | refine blk_drew ?_ | refine blk_alloc ?_ _)); exact Zb.out) Tryd.underlying23 rfl (by kernel_rfl)) rfl ?_
              exact ⟨by first | rfl | (simp [errW_none, errW_some] <;> rfl) | (simp [*, errW_none, errW_some] <;> rfl), zg_3 HB.out Ze.out Zg.out⟩
       ·rw [if_neg c28] at H
        have c28b0 : ((t117.length : Int) == (rd y126 x121000_1)) = false := beq_eq_false_iff_ne.mpr c28
        have c28b1 : ((t117.length : Int) != (rd y126 x121000_1)) = true := bne_iff_ne.mpr c28
        simp only [Option.some.injEq, Prod.mk.injEq] at H
        obtain ⟨rfl, rfl, rfl, rfl, rfl⟩ := H
        obtain ⟨Ao87, co87, eo87⟩ := Kd.R_slice Zh.out
        subst eo87
        go_wp2_with (first | ((with_reducible refine gate_dst (N := 37) rfl ?_); refine Kd.R_lit (Kd.int .i64) _ 3 ?hg (N := 37) ?hd (xs := ([0, 2, 3, 2, 2, 2, 2, 2, 1] : List Int)) (inner := [.int .i64 0, .int .i64 2, .int .i64 3, .int .i64 2, .int .i64 2, .int .i64 2, .int .i64 2, .int .i64 2, .int .i64 1]) (ok := fun _ => True) (okp := fun _ => True) ?hr ?hp (fun _ hk => hk) trivial (Below.refl _ _) (Nat.le_refl _) (by simp) ?_; (case hd => rfl); (case hg => rfl); (case hr => first | (go_simp; done) | (go_simp; rfl)); (case hp => exact (Reps.one (show Kd.M (Kd.int .i64) _ _ _ 0 [.int .i64 0] from rfl) (Reps.one (show Kd.M (Kd.int .i64) _ _ _ 2 [.int .i64 2] from rfl) (Reps.one (show Kd.M (Kd.int .i64) _ _ _ 3 [.int .i64 3] from rfl) (Reps.one (show Kd.M (Kd.int .i64) _ _ _ 2 [.int .i64 2] from rfl) (Reps.one (show Kd.M (Kd.int .i64) _ _ _ 2 [.int .i64 2] from rfl) (Reps.one (show Kd.M (Kd.int .i64) _ _ _ 2 [.int .i64 2] from rfl) (Reps.one (show Kd.M (Kd.int .i64) _ _ _ 2 [.int .i64 2] from rfl) (Reps.one (show Kd.M (Kd.int .i64) _ _ _ 2 [.int .i64 2] from rfl) (Reps.one (show Kd.M (Kd.int .i64) _ _ _ 1 [.int .i64 1] from rfl) (Reps.none _ _))))))))))); intro v127 w88 ho89 hb hg_ hnew_; clear hg_ hnew_; (first | rw [← Ny126.out] at ho89 | (simp only [Int.reduceToNat] at ho89; rw [← Ny126.out] at ho89)); have n0_ := zm (Kd.R_below (zg_4 Zf.out) hb); have n1_ := zm (Kd.R_below (zg_4 Zh.out) hb); have n2_ := zm (Kd.R_lower ho89 (below_size (zg_3 HB.out Ze.out Zg.out))); have n3_ := zm (blk_below (g := gb116) (o := .cells #[.int .i64 0, .int .i64 0, .int .i64 0, .string (⟨#[]⟩ : ByteArray)] 23 (0, 0)) (zg_1 Zb.out) hb); have n4_ := zm (blk_below (g := gb120) (o := .cells #[.int .i64 x121000_1, .int .i64 0, .int .i64 0, .string (⟨#[]⟩ : ByteArray)] 23 (0, 0)) (zg_1 Za.out) hb); have n5_ := zm (below_step (zg_3 HB.out Ze.out Zg.out) hb); clear Zf; clear Zh; clear Zb; clear Za; clear HB; have Zf := n0_; have Zh := n1_; have Zi := n2_; have Zb := n3_; have Za := n4_; have HB := n5_; clear n0_ n1_ n2_ n3_ n4_ n5_; clear hb ho89; have hnb90 := Zc.out; have hnc90 := Zd.out; have hcz91_0 : w88.cell? ⟨gb120, 0, none⟩ = some (.int .i64 x121000_1) := (blk_cell Za.out 0).trans rfl; have hcz91_1 : w88.cell? ⟨gb120, 1, none⟩ = some (.int .i64 0) := (blk_cell Za.out 1).trans rfl; have hcz91_2 : w88.cell? ⟨gb120, 2, none⟩ = some (.int .i64 0) := (blk_cell Za.out 2).trans rfl; have hcz91_3 : w88.cell? ⟨gb120, 3, none⟩ = some (.string (⟨#[]⟩ : ByteArray)) := (blk_cell Za.out 3).trans rfl; have hfz91_0 := blk_frozen Za.out 0; have hfz91_1 := blk_frozen Za.out 1; have hfz91_2 := blk_frozen Za.out 2; have hfz91_3 := blk_frozen Za.out 3; obtain ⟨Ao92, co92, eo92⟩ := Kd.R_slice Zi.out; subst eo92; have p129 : 0 ≤ (x121000_1 : Int) := zd; have q129 : x121000_1 < (y126.length : Int) := zd; obtain ⟨ad129, e129, hx129_0⟩ := Kd.at_int (Kd.R_reads' Zi.out).2.2 x121000_1 p129 q129; cases e129; replace p129 := eq_true p129; replace q129 := eq_true q129; have hcz93_0 : w88.cell? ⟨gb116, 0, none⟩ = some (.int .i64 0) := (blk_cell Zb.out 0).trans rfl; have hcz93_1 : w88.cell? ⟨gb116, 1, none⟩ = some (.int .i64 0) := (blk_cell Zb.out 1).trans rfl; have hcz93_2 : w88.cell? ⟨gb116, 2, none⟩ = some (.int .i64 0) := (blk_cell Zb.out 2).trans rfl; have hcz93_3 : w88.cell? ⟨gb116, 3, none⟩ = some (.string (⟨#[]⟩ : ByteArray)) := (blk_cell Zb.out 3).trans rfl; have hfz93_0 := blk_frozen Zb.out 0; have hfz93_1 := blk_frozen Zb.out 1; have hfz93_2 := blk_frozen Zb.out 2; have hfz93_3 := blk_frozen Zb.out 3))
        refine bodyPost_ret (results_ct rfl _ _ gb116 23 #[.int .i64 0, .int .i64 0, .int .i64 0, .string (⟨#[]⟩ : ByteArray)] (0, 0) _ rfl (by (with_reducible repeat (first | refine blk_drewN ?_ _ | refine blk_drew ?_ | refine blk_alloc ?_ _)); refine blk_put (cs := #[.int .i64 0, .int .i64 0, .int .i64 0, .string (⟨#[]⟩ : ByteArray)]) ?_ 3 _ rfl; (with_reducible repeat (first | refine blk_drewN ?_ _ | refine blk_drew ?_ | refine blk_alloc ?_ _)); refine blk_put (cs := #[.int .i64 0, .int .i64 0, .int .i64 0, .string (⟨#[]⟩ : ByteArray)]) ?_ 2 _ rfl; (with_reducible repeat (first | refine blk_drewN ?_ _ | refine blk_drew ?_ | refine blk_alloc ?_ _)); refine blk_put (cs := #[.int .i64 0, .int .i64 0, .int .i64 0, .string (⟨#[]⟩ : ByteArray)]) ?_ 1 _ rfl; (with_reducible repeat (first | refine blk_drewN ?_ _ | refine blk_drew ?_ | refine blk_alloc ?_ _)); refine blk_put (cs := #[.int .i64 0, .int .i64 0, .int .i64 0, .string (⟨#[]⟩ : ByteArray)]) ?_ 0 _ rfl; (with_reducible repeat (first | refine blk_drewN ?_ _ | refine blk_drew ?_ | refine blk_alloc ?_ _)); exact Zb.out) Tryd.underlying23 rfl (by kernel_rfl)) rfl ?_
        exact ⟨by first | rfl | (simp [errW_none, errW_some] <;> rfl) | (simp [*, errW_none, errW_some] <;> rfl), zg_3 HB.out Ze.out Zg.out⟩
      ·rw [if_neg c27] at H
       exact absurd H (by simp)
     ·rw [if_neg c26] at H
      exact absurd H (by simp)
section
attribute [local go_sem high] eqA23
/-! ### spec_ReadReq: function 8 -/
def spec_ReadReq.f (k : Nat) (a0 : ByteArray) : Option (Int × Int × Int × ByteArray × Int) := if (a0.size : Int) > 65536 then (some (0, 0, 0, (⟨#[]⟩ : ByteArray), 2)) else ((spec_l13Read.f k a0).bind fun bt147 => (if bt147.2.2.2.2 = true then (some (bt147.1, bt147.2.1, bt147.2.2.1, bt147.2.2.2.1, 0)) else (some (0, 0, 0, (⟨#[]⟩ : ByteArray), 3))))
theorem spec_ReadReq.mono : ∀ a0 k, LeO (spec_ReadReq.f k a0) (spec_ReadReq.f (k + 1) a0) := by
  intro a0 k
  unfold spec_ReadReq.f
  repeat' first
      | (with_reducible exact spec_l13Read.mono _ _)
      | (with_reducible exact LeO.refl _)
      | (with_reducible exact LeO.none _)
      | (with_reducible refine LeO.ite ?_ ?_)
      | (with_reducible refine LeO.bind ?_ (fun _ => ?_))
      | exact spec_l13Read.mono _ _
      | exact LeO.none _
      | refine LeO.ite ?_ ?_
      | refine LeO.bind ?_ (fun _ => ?_)
set_option maxHeartbeats 8000000 in
set_option maxRecDepth 100000 in
theorem spec_ReadReq.calls (k : Nat) (a0 : ByteArray) (r1 : Int) (r2 : Int) (r3 : Int) (r4 : ByteArray) (r5 : Int) (w : World) (h : spec_ReadReq.f k a0 = some (r1, r2, r3, r4, r5)) :
    Calls Tryd.prog 8 #[.string a0] w fun e w' => e = .returned (.tuple #[.agg #[.int .i64 r1, .int .i64 r2, .int .i64 r3, .string r4], .int .i64 r5]) ∧ Below w.heap.size w w' := by
 have hu23 := Tryd.underlying23
 have HB := zm (Below.refl w.heap.size w)
 have H : (if (a0.size : Int) > 65536 then (some (0, 0, 0, (⟨#[]⟩ : ByteArray), 2)) else ((spec_l13Read.f k a0).bind fun bt147 => (if bt147.2.2.2.2 = true then (some (bt147.1, bt147.2.1, bt147.2.2.1, bt147.2.2.2.1, 0)) else (some (0, 0, 0, (⟨#[]⟩ : ByteArray), 3))))) = some (r1, r2, r3, r4, r5) := h
 clear h
 by_cases c2 : (a0.size : Int) > 65536
 ·rw [if_pos c2] at H
  have c2b0 : decide (65536 < (a0.size : Int)) = true := decide_eq_true c2
  have c2b1 : decide (65536 < a0.size) = true := decide_eq_true (by omega)
  clear c2
  simp only [Option.some.injEq, Prod.mk.injEq] at H
  obtain ⟨rfl, rfl, rfl, rfl, rfl⟩ := H
  go_enter Tryd.func8, Tryd.ntmps8
  go_wp2_with (first | ((with_reducible refine gate_dst (N := 2) rfl ?_); refine box_event ?hg (N := 2) ?hd (cs := #[.int .i64 0, .int .i64 0, .int .i64 0, .string (⟨#[]⟩ : ByteArray)]) (t := 23) ?hr ?_; (case hd => rfl); (case hg => rfl); (case hr => first | (go_simp; done) | (go_simp; rfl)); intro gb146 hg w3 hbox hb; have n0_ := zm (below_step (zg_0 HB.out) hb); have n1_ := zm (hbox); have n2_ := zm ((by rw [hg]; exact (below_size (zg_0 HB.out)) : w.heap.size ≤ gb146)); have n3_ := zm ((by rw [hg]; exact (below_size (zg_0 HB.out)) : w.heap.size ≤ gb146)); clear HB; have HB := n0_; have Za := n1_; have Zg := n2_; have Zd := n3_; clear n0_ n1_ n2_ n3_; clear hb hbox hg; have hcz4_0 : w3.cell? ⟨gb146, 0, none⟩ = some (.int .i64 0) := (blk_cell Za.out 0).trans rfl; have hcz4_1 : w3.cell? ⟨gb146, 1, none⟩ = some (.int .i64 0) := (blk_cell Za.out 1).trans rfl; have hcz4_2 : w3.cell? ⟨gb146, 2, none⟩ = some (.int .i64 0) := (blk_cell Za.out 2).trans rfl; have hcz4_3 : w3.cell? ⟨gb146, 3, none⟩ = some (.string (⟨#[]⟩ : ByteArray)) := (blk_cell Za.out 3).trans rfl; have hfz4_0 := blk_frozen Za.out 0; have hfz4_1 := blk_frozen Za.out 1; have hfz4_2 := blk_frozen Za.out 2; have hfz4_3 := blk_frozen Za.out 3))
  refine bodyPost_ret (results_ct rfl _ _ gb146 23 #[.int .i64 0, .int .i64 0, .int .i64 0, .string (⟨#[]⟩ : ByteArray)] (0, 0) _ rfl (by (with_reducible repeat (first | refine blk_drewN ?_ _ | refine blk_drew ?_ | refine blk_alloc ?_ _)); refine blk_put (cs := #[.int .i64 0, .int .i64 0, .int .i64 0, .string (⟨#[]⟩ : ByteArray)]) ?_ 3 _ rfl; (with_reducible repeat (first | refine blk_drewN ?_ _ | refine blk_drew ?_ | refine blk_alloc ?_ _)); refine blk_put (cs := #[.int .i64 0, .int .i64 0, .int .i64 0, .string (⟨#[]⟩ : ByteArray)]) ?_ 2 _ rfl; (with_reducible repeat (first | refine blk_drewN ?_ _ | refine blk_drew ?_ | refine blk_alloc ?_ _)); refine blk_put (cs := #[.int .i64 0, .int .i64 0, .int .i64 0, .string (⟨#[]⟩ : ByteArray)]) ?_ 1 _ rfl; (with_reducible repeat (first | refine blk_drewN ?_ _ | refine blk_drew ?_ | refine blk_alloc ?_ _)); refine blk_put (cs := #[.int .i64 0, .int .i64 0, .int .i64 0, .string (⟨#[]⟩ : ByteArray)]) ?_ 0 _ rfl; (with_reducible repeat (first | refine blk_drewN ?_ _ | refine blk_drew ?_ | refine blk_alloc ?_ _)); exact Za.out) Tryd.underlying23 rfl (by kernel_rfl)) rfl ?_
  exact ⟨by first | rfl | (simp [errW_none, errW_some] <;> rfl) | (simp [*, errW_none, errW_some] <;> rfl), zg_2 HB.out Zd.out⟩
 ·rw [if_neg c2] at H
  have c2b0 : decide (65536 < (a0.size : Int)) = false := decide_eq_false c2
  have c2b1 : decide (65536 < a0.size) = false := decide_eq_false (by omega)
  clear c2
  replace H := Option.bind_eq_some_iff.mp H
  obtain ⟨⟨t147, t148, t149, t150, t151⟩, A50, H⟩ := H
  replace H : (if t151 = true then (some (t147, t148, t149, t150, 0)) else (some (0, 0, 0, (⟨#[]⟩ : ByteArray), 3))) = some (r1, r2, r3, r4, r5) := H
  have A5 := zm A50
  clear A50
  by_cases c6 : t151 = true
  ·subst c6
   have H1 : (some (t147, t148, t149, t150, 0)) = some (r1, r2, r3, r4, r5) := by rw [if_pos rfl] at H; exact H
   clear H
   have H := H1
   clear H1
   simp only [Option.some.injEq, Prod.mk.injEq] at H
   obtain ⟨rfl, rfl, rfl, rfl, rfl⟩ := H
   go_enter Tryd.func8, Tryd.ntmps8
   go_wp2_with (first | ((with_reducible refine gate_dst (N := 2) rfl ?_); refine box_event ?hg (N := 2) ?hd (cs := #[.int .i64 0, .int .i64 0, .int .i64 0, .string (⟨#[]⟩ : ByteArray)]) (t := 23) ?hr ?_; (case hd => rfl); (case hg => rfl); (case hr => first | (go_simp; done) | (go_simp; rfl)); intro gb146 hg w7 hbox hb; have n0_ := zm (below_step (zg_0 HB.out) hb); have n1_ := zm (hbox); have n2_ := zm ((by rw [hg]; exact (below_size (zg_0 HB.out)) : w.heap.size ≤ gb146)); have n3_ := zm ((by rw [hg]; exact (below_size (zg_0 HB.out)) : w.heap.size ≤ gb146)); clear HB; have HB := n0_; have Za := n1_; have Zg := n2_; have Zd := n3_; clear n0_ n1_ n2_ n3_; clear hb hbox hg) | ((with_reducible refine gate_callee (f := 30) rfl ?_); refine goesL_ (some 12) rfl rfl Tryd.func30 (by kernel_rfl) rfl #[.string a0] rfl zq ?_; (with_reducible refine (spec_l13Read.calls k a0 t147 t148 t149 t150 true _ A5.out).mono ?_); rintro e w8 ⟨rfl, hb⟩; refine ⟨_, rfl, ?_⟩; have n0_ := zm (blk_below (g := gb146) (o := .cells #[.int .i64 0, .int .i64 0, .int .i64 0, .string (⟨#[]⟩ : ByteArray)] 23 (0, 0)) (zg_1 Za.out) hb); have n1_ := zm (below_step (zg_2 HB.out Zd.out) hb); clear Za; clear HB; have Za := n0_; have HB := n1_; clear n0_ n1_; (try clear hb); (try clear hb2); (try clear hk); (try clear hi)) | ((with_reducible refine gate_dst (N := 4) rfl ?_); refine box_event ?hg (N := 4) ?hd (cs := #[.int .i64 0, .int .i64 0, .int .i64 0, .string (⟨#[]⟩ : ByteArray)]) (t := 23) ?hr ?_; (case hd => rfl); (case hg => rfl); (case hr => first | (go_simp; done) | (go_simp; rfl)); intro gb152 hg w9 hbox hb; have n0_ := zm (blk_below (g := gb146) (o := .cells #[.int .i64 0, .int .i64 0, .int .i64 0, .string (⟨#[]⟩ : ByteArray)] 23 (0, 0)) (zg_1 Za.out) hb); have n1_ := zm (below_step (zg_2 HB.out Zd.out) hb); have n2_ := zm (hbox); have n3_ := zm ((by rw [hg]; exact (below_size (zg_2 HB.out Zd.out)) : w.heap.size ≤ gb152)); have n4_ := zm ((by rw [hg]; exact (below_size (zg_2 HB.out Zd.out)) : w.heap.size ≤ gb152)); have n5_ := zm ((by rw [hg]; exact Nat.ne_of_lt (blk_lt (g := gb146) (o := .cells #[.int .i64 0, .int .i64 0, .int .i64 0, .string (⟨#[]⟩ : ByteArray)] 23 (0, 0)) (zg_1 Za.out)) : gb146 ≠ gb152)); have n6_ := zm ((by rw [hg]; exact Nat.ne_of_gt (blk_lt (g := gb146) (o := .cells #[.int .i64 0, .int .i64 0, .int .i64 0, .string (⟨#[]⟩ : ByteArray)] 23 (0, 0)) (zg_1 Za.out)) : gb152 ≠ gb146)); clear Za; clear HB; have Za := n0_; have HB := n1_; have Zc := n2_; have Zh := n3_; have Zf := n4_; have Zb := n5_; have Ze := n6_; clear n0_ n1_ n2_ n3_ n4_ n5_ n6_; clear hb hbox hg; have hnb10 := Ze.out; have hnc10 := Zb.out; have hcz11_0 : w9.cell? ⟨gb152, 0, none⟩ = some (.int .i64 0) := (blk_cell Zc.out 0).trans rfl; have hcz11_1 : w9.cell? ⟨gb152, 1, none⟩ = some (.int .i64 0) := (blk_cell Zc.out 1).trans rfl; have hcz11_2 : w9.cell? ⟨gb152, 2, none⟩ = some (.int .i64 0) := (blk_cell Zc.out 2).trans rfl; have hcz11_3 : w9.cell? ⟨gb152, 3, none⟩ = some (.string (⟨#[]⟩ : ByteArray)) := (blk_cell Zc.out 3).trans rfl; have hfz11_0 := blk_frozen Zc.out 0; have hfz11_1 := blk_frozen Zc.out 1; have hfz11_2 := blk_frozen Zc.out 2; have hfz11_3 := blk_frozen Zc.out 3; have hcz12_0 : w9.cell? ⟨gb146, 0, none⟩ = some (.int .i64 0) := (blk_cell Za.out 0).trans rfl; have hcz12_1 : w9.cell? ⟨gb146, 1, none⟩ = some (.int .i64 0) := (blk_cell Za.out 1).trans rfl; have hcz12_2 : w9.cell? ⟨gb146, 2, none⟩ = some (.int .i64 0) := (blk_cell Za.out 2).trans rfl; have hcz12_3 : w9.cell? ⟨gb146, 3, none⟩ = some (.string (⟨#[]⟩ : ByteArray)) := (blk_cell Za.out 3).trans rfl; have hfz12_0 := blk_frozen Za.out 0; have hfz12_1 := blk_frozen Za.out 1; have hfz12_2 := blk_frozen Za.out 2; have hfz12_3 := blk_frozen Za.out 3))
   refine bodyPost_ret (results_ct rfl _ _ gb146 23 #[.int .i64 t147, .int .i64 t148, .int .i64 t149, .string t150] (0, 0) _ rfl (by (with_reducible repeat (first | refine blk_drewN ?_ _ | refine blk_drew ?_ | refine blk_alloc ?_ _)); refine blk_put (cs := #[.int .i64 t147, .int .i64 t148, .int .i64 t149, .string (⟨#[]⟩ : ByteArray)]) ?_ 3 _ rfl; (with_reducible repeat (first | refine blk_drewN ?_ _ | refine blk_drew ?_ | refine blk_alloc ?_ _)); refine blk_put (cs := #[.int .i64 t147, .int .i64 t148, .int .i64 0, .string (⟨#[]⟩ : ByteArray)]) ?_ 2 _ rfl; (with_reducible repeat (first | refine blk_drewN ?_ _ | refine blk_drew ?_ | refine blk_alloc ?_ _)); refine blk_put (cs := #[.int .i64 t147, .int .i64 0, .int .i64 0, .string (⟨#[]⟩ : ByteArray)]) ?_ 1 _ rfl; (with_reducible repeat (first | refine blk_drewN ?_ _ | refine blk_drew ?_ | refine blk_alloc ?_ _)); refine blk_put (cs := #[.int .i64 0, .int .i64 0, .int .i64 0, .string (⟨#[]⟩ : ByteArray)]) ?_ 0 _ rfl; (with_reducible repeat (first | refine blk_drewN ?_ _ | refine blk_drew ?_ | refine blk_alloc ?_ _)); refine blk_far ?_ Zb.out _; (with_reducible repeat (first | refine blk_drewN ?_ _ | refine blk_drew ?_ | refine blk_alloc ?_ _)); refine blk_far ?_ Zb.out _; (with_reducible repeat (first | refine blk_drewN ?_ _ | refine blk_drew ?_ | refine blk_alloc ?_ _)); refine blk_far ?_ Zb.out _; (with_reducible repeat (first | refine blk_drewN ?_ _ | refine blk_drew ?_ | refine blk_alloc ?_ _)); refine blk_far ?_ Zb.out _; (with_reducible repeat (first | refine blk_drewN ?_ _ | refine blk_drew ?_ | refine blk_alloc ?_ _)); exact Za.out) Tryd.underlying23 rfl (by kernel_rfl)) rfl ?_
   exact ⟨by first | rfl | (simp [errW_none, errW_some] <;> rfl) | (simp [*, errW_none, errW_some] <;> rfl), zg_3 HB.out Zd.out Zf.out⟩
  ·replace c6 := Bool.eq_false_iff.mpr c6
   subst c6
   have H1 : (some (0, 0, 0, (⟨#[]⟩ : ByteArray), 3)) = some (r1, r2, r3, r4, r5) := by rw [if_neg (show ¬ (false = true) by decide)] at H; exact H
   clear H
   have H := H1
   clear H1
   simp only [Option.some.injEq, Prod.mk.injEq] at H
   obtain ⟨rfl, rfl, rfl, rfl, rfl⟩ := H
   go_enter Tryd.func8, Tryd.ntmps8
   go_wp2_with (first | ((with_reducible refine gate_dst (N := 2) rfl ?_); refine box_event ?hg (N := 2) ?hd (cs := #[.int .i64 0, .int .i64 0, .int .i64 0, .string (⟨#[]⟩ : ByteArray)]) (t := 23) ?hr ?_; (case hd => rfl); (case hg => rfl); (case hr => first | (go_simp; done) | (go_simp; rfl)); intro gb146 hg w13 hbox hb; have n0_ := zm (below_step (zg_0 HB.out) hb); have n1_ := zm (hbox); have n2_ := zm ((by rw [hg]; exact (below_size (zg_0 HB.out)) : w.heap.size ≤ gb146)); have n3_ := zm ((by rw [hg]; exact (below_size (zg_0 HB.out)) : w.heap.size ≤ gb146)); clear HB; have HB := n0_; have Za := n1_; have Zg := n2_; have Zd := n3_; clear n0_ n1_ n2_ n3_; clear hb hbox hg) | ((with_reducible refine gate_callee (f := 30) rfl ?_); refine goesL_ (some 12) rfl rfl Tryd.func30 (by kernel_rfl) rfl #[.string a0] rfl zq ?_; (with_reducible refine (spec_l13Read.calls k a0 t147 t148 t149 t150 false _ A5.out).mono ?_); rintro e w14 ⟨rfl, hb⟩; refine ⟨_, rfl, ?_⟩; have n0_ := zm (blk_below (g := gb146) (o := .cells #[.int .i64 0, .int .i64 0, .int .i64 0, .string (⟨#[]⟩ : ByteArray)] 23 (0, 0)) (zg_1 Za.out) hb); have n1_ := zm (below_step (zg_2 HB.out Zd.out) hb); clear Za; clear HB; have Za := n0_; have HB := n1_; clear n0_ n1_; (try clear hb); (try clear hb2); (try clear hk); (try clear hi)) | ((with_reducible refine gate_dst (N := 4) rfl ?_); refine box_event ?hg (N := 4) ?hd (cs := #[.int .i64 0, .int .i64 0, .int .i64 0, .string (⟨#[]⟩ : ByteArray)]) (t := 23) ?hr ?_; (case hd => rfl); (case hg => rfl); (case hr => first | (go_simp; done) | (go_simp; rfl)); intro gb152 hg w15 hbox hb; have n0_ := zm (blk_below (g := gb146) (o := .cells #[.int .i64 0, .int .i64 0, .int .i64 0, .string (⟨#[]⟩ : ByteArray)] 23 (0, 0)) (zg_1 Za.out) hb); have n1_ := zm (below_step (zg_2 HB.out Zd.out) hb); have n2_ := zm (hbox); have n3_ := zm ((by rw [hg]; exact (below_size (zg_2 HB.out Zd.out)) : w.heap.size ≤ gb152)); have n4_ := zm ((by rw [hg]; exact (below_size (zg_2 HB.out Zd.out)) : w.heap.size ≤ gb152)); have n5_ := zm ((by rw [hg]; exact Nat.ne_of_lt (blk_lt (g := gb146) (o := .cells #[.int .i64 0, .int .i64 0, .int .i64 0, .string (⟨#[]⟩ : ByteArray)] 23 (0, 0)) (zg_1 Za.out)) : gb146 ≠ gb152)); have n6_ := zm ((by rw [hg]; exact Nat.ne_of_gt (blk_lt (g := gb146) (o := .cells #[.int .i64 0, .int .i64 0, .int .i64 0, .string (⟨#[]⟩ : ByteArray)] 23 (0, 0)) (zg_1 Za.out)) : gb152 ≠ gb146)); clear Za; clear HB; have Za := n0_; have HB := n1_; have Zc := n2_; have Zh := n3_; have Zf := n4_; have Zb := n5_; have Ze := n6_; clear n0_ n1_ n2_ n3_ n4_ n5_ n6_; clear hb hbox hg; have hnb16 := Ze.out; have hnc16 := Zb.out; have hcz17_0 : w15.cell? ⟨gb152, 0, none⟩ = some (.int .i64 0) := (blk_cell Zc.out 0).trans rfl; have hcz17_1 : w15.cell? ⟨gb152, 1, none⟩ = some (.int .i64 0) := (blk_cell Zc.out 1).trans rfl; have hcz17_2 : w15.cell? ⟨gb152, 2, none⟩ = some (.int .i64 0) := (blk_cell Zc.out 2).trans rfl; have hcz17_3 : w15.cell? ⟨gb152, 3, none⟩ = some (.string (⟨#[]⟩ : ByteArray)) := (blk_cell Zc.out 3).trans rfl; have hfz17_0 := blk_frozen Zc.out 0; have hfz17_1 := blk_frozen Zc.out 1; have hfz17_2 := blk_frozen Zc.out 2; have hfz17_3 := blk_frozen Zc.out 3; have hcz18_0 : w15.cell? ⟨gb146, 0, none⟩ = some (.int .i64 0) := (blk_cell Za.out 0).trans rfl; have hcz18_1 : w15.cell? ⟨gb146, 1, none⟩ = some (.int .i64 0) := (blk_cell Za.out 1).trans rfl; have hcz18_2 : w15.cell? ⟨gb146, 2, none⟩ = some (.int .i64 0) := (blk_cell Za.out 2).trans rfl; have hcz18_3 : w15.cell? ⟨gb146, 3, none⟩ = some (.string (⟨#[]⟩ : ByteArray)) := (blk_cell Za.out 3).trans rfl; have hfz18_0 := blk_frozen Za.out 0; have hfz18_1 := blk_frozen Za.out 1; have hfz18_2 := blk_frozen Za.out 2; have hfz18_3 := blk_frozen Za.out 3))
   refine bodyPost_ret (results_ct rfl _ _ gb146 23 #[.int .i64 0, .int .i64 0, .int .i64 0, .string (⟨#[]⟩ : ByteArray)] (0, 0) _ rfl (by (with_reducible repeat (first | refine blk_drewN ?_ _ | refine blk_drew ?_ | refine blk_alloc ?_ _)); refine blk_put (cs := #[.int .i64 0, .int .i64 0, .int .i64 0, .string (⟨#[]⟩ : ByteArray)]) ?_ 3 _ rfl; (with_reducible repeat (first | refine blk_drewN ?_ _ | refine blk_drew ?_ | refine blk_alloc ?_ _)); refine blk_put (cs := #[.int .i64 0, .int .i64 0, .int .i64 0, .string (⟨#[]⟩ : ByteArray)]) ?_ 2 _ rfl; (with_reducible repeat (first | refine blk_drewN ?_ _ | refine blk_drew ?_ | refine blk_alloc ?_ _)); refine blk_put (cs := #[.int .i64 0, .int .i64 0, .int .i64 0, .string (⟨#[]⟩ : ByteArray)]) ?_ 1 _ rfl; (with_reducible repeat (first | refine blk_drewN ?_ _ | refine blk_drew ?_ | refine blk_alloc ?_ _)); refine blk_put (cs := #[.int .i64 0, .int .i64 0, .int .i64 0, .string (⟨#[]⟩ : ByteArray)]) ?_ 0 _ rfl; (with_reducible repeat (first | refine blk_drewN ?_ _ | refine blk_drew ?_ | refine blk_alloc ?_ _)); refine blk_far ?_ Zb.out _; (with_reducible repeat (first | refine blk_drewN ?_ _ | refine blk_drew ?_ | refine blk_alloc ?_ _)); refine blk_far ?_ Zb.out _; (with_reducible repeat (first | refine blk_drewN ?_ _ | refine blk_drew ?_ | refine blk_alloc ?_ _)); refine blk_far ?_ Zb.out _; (with_reducible repeat (first | refine blk_drewN ?_ _ | refine blk_drew ?_ | refine blk_alloc ?_ _)); refine blk_far ?_ Zb.out _; (with_reducible repeat (first | refine blk_drewN ?_ _ | refine blk_drew ?_ | refine blk_alloc ?_ _)); exact Za.out) Tryd.underlying23 rfl (by kernel_rfl)) rfl ?_
   exact ⟨by first | rfl | (simp [errW_none, errW_some] <;> rfl) | (simp [*, errW_none, errW_some] <;> rfl), zg_3 HB.out Zd.out Zf.out⟩
end
/-! ### laws_FnExactReadReq: function 3 -/
def laws_FnExactReadReq.f (k : Nat) (a0 : ByteArray) : Option (Bool) := if (a0.size : Int) > 1048576 then (some true) else ((spec_ReadReq.f k a0).bind fun bt231 => ((impl_ReadReq.f k a0).bind fun bt237 => ((laws_eqReq.f bt237.1 bt237.2.1 bt237.2.2.1 bt237.2.2.2.1 bt231.1 bt231.2.1 bt231.2.2.1 bt231.2.2.2.1).bind fun t243 => (if t243 = true then (if bt237.2.2.2.2 = bt231.2.2.2.2 then (some true) else (some false)) else (some false)))))
theorem laws_FnExactReadReq.mono : ∀ a0 k, LeO (laws_FnExactReadReq.f k a0) (laws_FnExactReadReq.f (k + 1) a0) := by
  intro a0 k
  unfold laws_FnExactReadReq.f
  repeat' first
      | (with_reducible exact impl_ReadReq.mono _ _)
      | (with_reducible exact spec_ReadReq.mono _ _)
      | (with_reducible exact LeO.refl _)
      | (with_reducible exact LeO.none _)
      | (with_reducible refine LeO.ite ?_ ?_)
      | (with_reducible refine LeO.bind ?_ (fun _ => ?_))
      | exact impl_ReadReq.mono _ _
      | exact spec_ReadReq.mono _ _
      | exact LeO.none _
      | refine LeO.ite ?_ ?_
      | refine LeO.bind ?_ (fun _ => ?_)
set_option maxHeartbeats 8000000 in
set_option maxRecDepth 100000 in
theorem laws_FnExactReadReq.calls (k : Nat) (a0 : ByteArray) (r : Bool) (w : World) (h : laws_FnExactReadReq.f k a0 = some r) (hr_ : Aside0 (r = true)) (HTB_ : TrydTab w := by first | exact HTB_ | exact TrydTab.to HTB_ HB.out | exact TrydTab.to HTB_ (by repeat (first | exact HB.out | apply below_alloc | apply pw_below_drewN | apply below_drew1 | refine below_set ?_ (Aside0.out (by assumption))))) :
    Calls Tryd.prog 3 #[.string a0] w fun e w' => e = .returned (.bool r) ∧ Below w.heap.size w w' := by
 have hu23 := Tryd.underlying23
 have HB := zm (Below.refl w.heap.size w)
 have H : (if (a0.size : Int) > 1048576 then (some true) else ((spec_ReadReq.f k a0).bind fun bt231 => ((impl_ReadReq.f k a0).bind fun bt237 => ((laws_eqReq.f bt237.1 bt237.2.1 bt237.2.2.1 bt237.2.2.2.1 bt231.1 bt231.2.1 bt231.2.2.1 bt231.2.2.2.1).bind fun t243 => (if t243 = true then (if bt237.2.2.2.2 = bt231.2.2.2.2 then (some true) else (some false)) else (some false)))))) = some r := h
 clear h
 by_cases c2 : (a0.size : Int) > 1048576
 ·rw [if_pos c2] at H
  have c2b0 : decide (1048576 < (a0.size : Int)) = true := decide_eq_true c2
  have c2b1 : decide (1048576 < a0.size) = true := decide_eq_true (by omega)
  clear c2
  obtain rfl := Option.some.inj H
  go_enter Tryd.func3, Tryd.ntmps3
  go_wp2
  go_ret
  exact ⟨by first | rfl | (simp [errW_none, errW_some] <;> rfl) | (simp [*, errW_none, errW_some] <;> rfl), zg_0 HB.out⟩
 ·rw [if_neg c2] at H
  have c2b0 : decide (1048576 < (a0.size : Int)) = false := decide_eq_false c2
  have c2b1 : decide (1048576 < a0.size) = false := decide_eq_false (by omega)
  clear c2
  replace H := Option.bind_eq_some_iff.mp H
  obtain ⟨⟨t231, t232, t233, t234, t235⟩, A30, H⟩ := H
  replace H : ((impl_ReadReq.f k a0).bind fun bt237 => ((laws_eqReq.f bt237.1 bt237.2.1 bt237.2.2.1 bt237.2.2.2.1 t231 t232 t233 t234).bind fun t243 => (if t243 = true then (if bt237.2.2.2.2 = t235 then (some true) else (some false)) else (some false)))) = some r := H
  have A3 := zm A30
  clear A30
  replace H := Option.bind_eq_some_iff.mp H
  obtain ⟨⟨t237, t238, t239, t240, t241⟩, A40, H⟩ := H
  replace H : ((laws_eqReq.f t237 t238 t239 t240 t231 t232 t233 t234).bind fun t243 => (if t243 = true then (if t241 = t235 then (some true) else (some false)) else (some false))) = some r := H
  have A4 := zm A40
  clear A40
  replace H := Option.bind_eq_some_iff.mp H
  obtain ⟨t243, A50, H⟩ := H
  replace H : (if t243 = true then (if t241 = t235 then (some true) else (some false)) else (some false)) = some r := H
  have A5 := zm A50
  clear A50
  by_cases c6 : t243 = true
  ·subst c6
   have H1 : (if t241 = t235 then (some true) else (some false)) = some r := by rw [if_pos rfl] at H; exact H
   clear H
   have H := H1
   clear H1
   by_cases c7 : t241 = t235
   ·rw [if_pos c7] at H
    have c7b0 : (t241 == t235) = true := beq_iff_eq.mpr c7
    have c7b1 : (t241 != t235) = false := bne_eq_false_iff_eq.mpr c7
    clear c7
    obtain rfl := Option.some.inj H
    go_enter Tryd.func3, Tryd.ntmps3
    go_wp2_with (first | ((with_reducible refine gate_callee (f := 8) rfl ?_); refine goesL_ (some 12) rfl rfl Tryd.func8 (by kernel_rfl) rfl #[.string a0] rfl zq ?_; (with_reducible refine (spec_ReadReq.calls k a0 t231 t232 t233 t234 t235 _ A3.out).mono ?_); rintro e w8 ⟨rfl, hb⟩; refine ⟨_, rfl, ?_⟩; have n0_ := zm (below_step (zg_0 HB.out) hb); clear HB; have HB := n0_; clear n0_; (try clear hb); (try clear hb2); (try clear hk); (try clear hi)) | ((with_reducible refine gate_dst (N := 3) rfl ?_); refine box_event ?hg (N := 3) ?hd (cs := #[.int .i64 0, .int .i64 0, .int .i64 0, .string (⟨#[]⟩ : ByteArray)]) (t := 23) ?hr ?_; (case hd => rfl); (case hg => rfl); (case hr => first | (go_simp; done) | (go_simp; rfl)); intro gb236 hg w9 hbox hb; have n0_ := zm (below_step (zg_0 HB.out) hb); have n1_ := zm (hbox); have n2_ := zm ((by rw [hg]; exact (below_size (zg_0 HB.out)) : w.heap.size ≤ gb236)); have n3_ := zm ((by rw [hg]; exact (below_size (zg_0 HB.out)) : w.heap.size ≤ gb236)); clear HB; have HB := n0_; have Za := n1_; have Zg := n2_; have Zd := n3_; clear n0_ n1_ n2_ n3_; clear hb hbox hg; have hcz10_0 : w9.cell? ⟨gb236, 0, none⟩ = some (.int .i64 0) := (blk_cell Za.out 0).trans rfl; have hcz10_1 : w9.cell? ⟨gb236, 1, none⟩ = some (.int .i64 0) := (blk_cell Za.out 1).trans rfl; have hcz10_2 : w9.cell? ⟨gb236, 2, none⟩ = some (.int .i64 0) := (blk_cell Za.out 2).trans rfl; have hcz10_3 : w9.cell? ⟨gb236, 3, none⟩ = some (.string (⟨#[]⟩ : ByteArray)) := (blk_cell Za.out 3).trans rfl; have hfz10_0 := blk_frozen Za.out 0; have hfz10_1 := blk_frozen Za.out 1; have hfz10_2 := blk_frozen Za.out 2; have hfz10_3 := blk_frozen Za.out 3) | ((with_reducible refine gate_callee (f := 9) rfl ?_); refine goesL_ (some 17) rfl rfl Tryd.func9 (by kernel_rfl) rfl #[.string a0] rfl zq ?_; (with_reducible refine (impl_ReadReq.calls k a0 t237 t238 t239 t240 t241 _ A4.out).mono ?_); rintro e w11 ⟨rfl, hb⟩; refine ⟨_, rfl, ?_⟩; have n0_ := zm (blk_below (g := gb236) (o := .cells #[.int .i64 t231, .int .i64 t232, .int .i64 t233, .string t234] 23 (0, 0)) (by (with_reducible repeat (first | refine blk_drewN ?_ _ | refine blk_drew ?_ | refine blk_alloc ?_ _)); refine blk_put (cs := #[.int .i64 t231, .int .i64 t232, .int .i64 t233, .string (⟨#[]⟩ : ByteArray)]) ?_ 3 _ rfl; (with_reducible repeat (first | refine blk_drewN ?_ _ | refine blk_drew ?_ | refine blk_alloc ?_ _)); refine blk_put (cs := #[.int .i64 t231, .int .i64 t232, .int .i64 0, .string (⟨#[]⟩ : ByteArray)]) ?_ 2 _ rfl; (with_reducible repeat (first | refine blk_drewN ?_ _ | refine blk_drew ?_ | refine blk_alloc ?_ _)); refine blk_put (cs := #[.int .i64 t231, .int .i64 0, .int .i64 0, .string (⟨#[]⟩ : ByteArray)]) ?_ 1 _ rfl; (with_reducible repeat (first | refine blk_drewN ?_ _ | refine blk_drew ?_ | refine blk_alloc ?_ _)); refine blk_put (cs := #[.int .i64 0, .int .i64 0, .int .i64 0, .string (⟨#[]⟩ : ByteArray)]) ?_ 0 _ rfl; (with_reducible repeat (first | refine blk_drewN ?_ _ | refine blk_drew ?_ | refine blk_alloc ?_ _)); exact Za.out) hb); have n1_ := zm (below_step (zg_2 HB.out Zd.out) hb); clear Za; clear HB; have Za := n0_; have HB := n1_; clear n0_ n1_; (try clear hb); (try clear hb2); (try clear hk); (try clear hi)) | ((with_reducible refine gate_dst (N := 5) rfl ?_); refine box_event ?hg (N := 5) ?hd (cs := #[.int .i64 0, .int .i64 0, .int .i64 0, .string (⟨#[]⟩ : ByteArray)]) (t := 23) ?hr ?_; (case hd => rfl); (case hg => rfl); (case hr => first | (go_simp; done) | (go_simp; rfl)); intro gb242 hg w12 hbox hb; have n0_ := zm (blk_below (g := gb236) (o := .cells #[.int .i64 t231, .int .i64 t232, .int .i64 t233, .string t234] 23 (0, 0)) (zg_1 Za.out) hb); have n1_ := zm (below_step (zg_2 HB.out Zd.out) hb); have n2_ := zm (hbox); have n3_ := zm ((by rw [hg]; exact (below_size (zg_2 HB.out Zd.out)) : w.heap.size ≤ gb242)); have n4_ := zm ((by rw [hg]; exact (below_size (zg_2 HB.out Zd.out)) : w.heap.size ≤ gb242)); have n5_ := zm ((by rw [hg]; exact Nat.ne_of_lt (blk_lt (g := gb236) (o := .cells #[.int .i64 t231, .int .i64 t232, .int .i64 t233, .string t234] 23 (0, 0)) (zg_1 Za.out)) : gb236 ≠ gb242)); have n6_ := zm ((by rw [hg]; exact Nat.ne_of_gt (blk_lt (g := gb236) (o := .cells #[.int .i64 t231, .int .i64 t232, .int .i64 t233, .string t234] 23 (0, 0)) (zg_1 Za.out)) : gb242 ≠ gb236)); clear Za; clear HB; have Za := n0_; have HB := n1_; have Zc := n2_; have Zh := n3_; have Zf := n4_; have Zb := n5_; have Ze := n6_; clear n0_ n1_ n2_ n3_ n4_ n5_ n6_; clear hb hbox hg; have hnb13 := Ze.out; have hnc13 := Zb.out; have hcz14_0 : w12.cell? ⟨gb242, 0, none⟩ = some (.int .i64 0) := (blk_cell Zc.out 0).trans rfl; have hcz14_1 : w12.cell? ⟨gb242, 1, none⟩ = some (.int .i64 0) := (blk_cell Zc.out 1).trans rfl; have hcz14_2 : w12.cell? ⟨gb242, 2, none⟩ = some (.int .i64 0) := (blk_cell Zc.out 2).trans rfl; have hcz14_3 : w12.cell? ⟨gb242, 3, none⟩ = some (.string (⟨#[]⟩ : ByteArray)) := (blk_cell Zc.out 3).trans rfl; have hfz14_0 := blk_frozen Zc.out 0; have hfz14_1 := blk_frozen Zc.out 1; have hfz14_2 := blk_frozen Zc.out 2; have hfz14_3 := blk_frozen Zc.out 3; have hcz15_0 : w12.cell? ⟨gb236, 0, none⟩ = some (.int .i64 t231) := (blk_cell Za.out 0).trans rfl; have hcz15_1 : w12.cell? ⟨gb236, 1, none⟩ = some (.int .i64 t232) := (blk_cell Za.out 1).trans rfl; have hcz15_2 : w12.cell? ⟨gb236, 2, none⟩ = some (.int .i64 t233) := (blk_cell Za.out 2).trans rfl; have hcz15_3 : w12.cell? ⟨gb236, 3, none⟩ = some (.string t234) := (blk_cell Za.out 3).trans rfl; have hfz15_0 := blk_frozen Za.out 0; have hfz15_1 := blk_frozen Za.out 1; have hfz15_2 := blk_frozen Za.out 2; have hfz15_3 := blk_frozen Za.out 3) | ((with_reducible refine gate_callee (f := 10) rfl ?_); refine goesL_ (some 22) rfl rfl Tryd.func10 (by kernel_rfl) rfl #[.agg #[.int .i64 t237, .int .i64 t238, .int .i64 t239, .string t240], .agg #[.int .i64 t231, .int .i64 t232, .int .i64 t233, .string t234]] rfl zq ?_; (with_reducible refine (laws_eqReq.calls t237 t238 t239 t240 t231 t232 t233 t234 true _ A5.out).mono ?_); rintro e w16 ⟨rfl, hb⟩; refine ⟨_, rfl, ?_⟩; have n0_ := zm (blk_below (g := gb236) (o := .cells #[.int .i64 t231, .int .i64 t232, .int .i64 t233, .string t234] 23 (0, 0)) (by (with_reducible repeat (first | refine blk_drewN ?_ _ | refine blk_drew ?_ | refine blk_alloc ?_ _)); refine blk_far ?_ Zb.out _; (with_reducible repeat (first | refine blk_drewN ?_ _ | refine blk_drew ?_ | refine blk_alloc ?_ _)); refine blk_far ?_ Zb.out _; (with_reducible repeat (first | refine blk_drewN ?_ _ | refine blk_drew ?_ | refine blk_alloc ?_ _)); refine blk_far ?_ Zb.out _; (with_reducible repeat (first | refine blk_drewN ?_ _ | refine blk_drew ?_ | refine blk_alloc ?_ _)); refine blk_far ?_ Zb.out _; (with_reducible repeat (first | refine blk_drewN ?_ _ | refine blk_drew ?_ | refine blk_alloc ?_ _)); exact Za.out) hb); have n1_ := zm (blk_below (g := gb242) (o := .cells #[.int .i64 t237, .int .i64 t238, .int .i64 t239, .string t240] 23 (0, 0)) (by (with_reducible repeat (first | refine blk_drewN ?_ _ | refine blk_drew ?_ | refine blk_alloc ?_ _)); refine blk_put (cs := #[.int .i64 t237, .int .i64 t238, .int .i64 t239, .string (⟨#[]⟩ : ByteArray)]) ?_ 3 _ rfl; (with_reducible repeat (first | refine blk_drewN ?_ _ | refine blk_drew ?_ | refine blk_alloc ?_ _)); refine blk_put (cs := #[.int .i64 t237, .int .i64 t238, .int .i64 0, .string (⟨#[]⟩ : ByteArray)]) ?_ 2 _ rfl; (with_reducible repeat (first | refine blk_drewN ?_ _ | refine blk_drew ?_ | refine blk_alloc ?_ _)); refine blk_put (cs := #[.int .i64 t237, .int .i64 0, .int .i64 0, .string (⟨#[]⟩ : ByteArray)]) ?_ 1 _ rfl; (with_reducible repeat (first | refine blk_drewN ?_ _ | refine blk_drew ?_ | refine blk_alloc ?_ _)); refine blk_put (cs := #[.int .i64 0, .int .i64 0, .int .i64 0, .string (⟨#[]⟩ : ByteArray)]) ?_ 0 _ rfl; (with_reducible repeat (first | refine blk_drewN ?_ _ | refine blk_drew ?_ | refine blk_alloc ?_ _)); exact Zc.out) hb); have n2_ := zm (below_step (zg_3 HB.out Zd.out Zf.out) hb); clear Za; clear Zc; clear HB; have Za := n0_; have Zc := n1_; have HB := n2_; clear n0_ n1_ n2_; (try clear hb); (try clear hb2); (try clear hk); (try clear hi)))
    go_ret
    exact ⟨by first | rfl | (simp [errW_none, errW_some] <;> rfl) | (simp [*, errW_none, errW_some] <;> rfl), zg_3 HB.out Zd.out Zf.out⟩
   ·rw [if_neg c7] at H
    have c7b0 : (t241 == t235) = false := beq_eq_false_iff_ne.mpr c7
    have c7b1 : (t241 != t235) = true := bne_iff_ne.mpr c7
    exact absurd hr_.out (by rw [← Option.some.inj H]; decide)
  ·replace c6 := Bool.eq_false_iff.mpr c6
   subst c6
   have H1 : (some false) = some r := by rw [if_neg (show ¬ (false = true) by decide)] at H; exact H
   clear H
   have H := H1
   clear H1
   exact absurd hr_.out (by rw [← Option.some.inj H]; decide)

/-- A state of type 95 at block g of W; what its slices lead to came in by w0. -/
def IsS95 (w0 W : World) (g : Nat) (f0 : List Int) (f1 : Int) (f2 : Int) : Prop := ∃ A0 c0, W.heap[g]? = some (.cells #[.slice A0 f0.length c0, .int .i64 f1, .int .i64 f2] 95 (0, 0)) ∧ w0.heap.size ≤ g ∧ Kd.C (Kd.int .u8) w0 A0 f0.length f0
theorem IsS95.grown {w0 W : World} {g : Nat} {f0 : List Int} {f1 : Int} {f2 : Int} {W1 : World} {row : Option Nat} (h : IsS95 w0 W g f0 f1 f2) (hw : W.grownBy W1 row) (hne : some g ≠ row) : IsS95 w0 W1 g f0 f1 f2 := by
 obtain ⟨A0, c0, hb, hg, hr0⟩ := h
 exact ⟨A0, c0, blk_grown hb hw hne, hg, hr0⟩
theorem IsS95.own_neN {w0 W : World} {g : Nat} {f0 : List Int} {f1 : Int} {f2 : Int} {α : Type} {d : Kd α} {e : Nat} {base : Nat} {ok : Nat → Prop} {v : Value} {xs : List α} (h : IsS95 w0 W g f0 f1 f2) (ho : Kd.N d e W base ok v xs) (ht : e ≠ 95) : some g ≠ v.ownBlock := by
 obtain ⟨A0, c0, hb, hg, hr0⟩ := h
 exact Kd.N_ne ho hb ht
theorem IsS95.fresh {w0 W : World} {g : Nat} {f0 : List Int} {f1 : Int} {f2 : Int} (h : IsS95 w0 W g f0 f1 f2) : ∀ k, W.heap.size ≤ k → k ≠ g := by
 obtain ⟨A0, c0, hb, hg, hr0⟩ := h
 exact Kd.freshB hb
theorem IsS95.kept {w0 W : World} {g : Nat} {f0 : List Int} {f1 : Int} {f2 : Int} {W1 : World} {S : Nat → Prop} (h : IsS95 w0 W g f0 f1 f2) (hk : Kept W W1 S) (hne : ¬ S g) : IsS95 w0 W1 g f0 f1 f2 := by
 obtain ⟨A0, c0, hb, hg, hr0⟩ := h
 exact ⟨A0, c0, blk_kept hb hk hne, hg, hr0⟩
theorem IsS95.below {w0 W : World} {g : Nat} {f0 : List Int} {f1 : Int} {f2 : Int} {W1 : World} (h : IsS95 w0 W g f0 f1 f2) (hw : Below W.heap.size W W1) : IsS95 w0 W1 g f0 f1 f2 := h.grown (grown_of_below hw none) (by simp)
theorem IsS95.alloc {w0 W : World} {g : Nat} {f0 : List Int} {f1 : Int} {f2 : Int} (h : IsS95 w0 W g f0 f1 f2) (o : Obj) : IsS95 w0 (W.alloc o) g f0 f1 f2 := h.below (below_alloc (Below.refl _ _) o)
theorem IsS95.drewN {w0 W : World} {g : Nat} {f0 : List Int} {f1 : Int} {f2 : Int} (h : IsS95 w0 W g f0 f1 f2) (m : Nat) : IsS95 w0 (W.drewN m) g f0 f1 f2 := h
theorem IsS95.drew {w0 W : World} {g : Nat} {f0 : List Int} {f1 : Int} {f2 : Int} (h : IsS95 w0 W g f0 f1 f2) : IsS95 w0 W.drew g f0 f1 f2 := h
theorem IsS95.at_ {w0 W : World} {g : Nat} {f0 : List Int} {f1 : Int} {f2 : Int} {w' : World} {m : Nat} (hq : W.drewN m = w') (h : IsS95 w0 W g f0 f1 f2) : IsS95 w0 w' g f0 f1 f2 := by subst hq; exact IsS95.drewN h m
theorem IsS95.apart {w0 W : World} {g : Nat} {f0 : List Int} {f1 : Int} {f2 : Int} {α : Type} {d : Kd α} {e : Nat} {base : Nat} {ok : Nat → Prop} {v : Value} {xs : List α} (h : IsS95 w0 W g f0 f1 f2) (ho : d.R e W base ok v xs) (ht : ∀ q, q ∈ e :: d.E → q ≠ 95) : d.R e W base (fun k => ok k ∧ k ≠ g) v xs := by
 obtain ⟨A0, c0, hb, hg, hr0⟩ := h
 exact Kd.R_types ho hb ht
theorem IsS95.own_ne {w0 W : World} {g : Nat} {f0 : List Int} {f1 : Int} {f2 : Int} {α : Type} {d : Kd α} {e : Nat} {base : Nat} {ok : Nat → Prop} {v : Value} {xs : List α} (h : IsS95 w0 W g f0 f1 f2) (ho : d.R e W base ok v xs) (ht : e ≠ 95) : some g ≠ v.ownBlock := by
 obtain ⟨A0, c0, hb, hg, hr0⟩ := h
 exact Kd.R_ne ho hb ht
theorem IsS95.apartQ {w0 W : World} {g : Nat} {f0 : List Int} {f1 : Int} {f2 : Int} {α : Type} {d : Kd α} {e : Nat} {base : Nat} {ok : Nat → Prop} {v : Value} {xs : List α} (h : IsS95 w0 W g f0 f1 f2) (ho : d.Q e W base ok v xs) (ht : ∀ q, q ∈ e :: d.E → q ≠ 95) : d.Q e W base (fun k => ok k ∧ k ≠ g) v xs := by
 obtain ⟨A0, c0, hb, hg, hr0⟩ := h
 exact Kd.Q_types ho hb ht
theorem IsS95.own_neQ {w0 W : World} {g : Nat} {f0 : List Int} {f1 : Int} {f2 : Int} {α : Type} {d : Kd α} {e : Nat} {base : Nat} {ok : Nat → Prop} {v : Value} {xs : List α} (h : IsS95 w0 W g f0 f1 f2) (ho : d.Q e W base ok v xs) (ht : e ≠ 95) : some g ≠ v.ownBlock := by
 obtain ⟨A0, c0, hb, hg, hr0⟩ := h
 exact Kd.Q_ne ho hb ht
theorem IsS95.apartS {w0 W : World} {g : Nat} {f0 : List Int} {f1 : Int} {f2 : Int} {α : Type} {d : Kd α} {e : Nat} {base : Nat} {ok : Nat → Prop} {v : Value} {xs : List α} (h : IsS95 w0 W g f0 f1 f2) (ho : d.S e W base ok v xs) (ht : ∀ q, q ∈ e :: d.E → q ≠ 95) : d.S e W base (fun k => ok k ∧ k ≠ g) v xs := by
 obtain ⟨A0, c0, hb, hg, hr0⟩ := h
 exact Kd.S_types ho hb ht
theorem IsS95.own_neS {w0 W : World} {g : Nat} {f0 : List Int} {f1 : Int} {f2 : Int} {α : Type} {d : Kd α} {e : Nat} {base : Nat} {ok : Nat → Prop} {v : Value} {xs : List α} (h : IsS95 w0 W g f0 f1 f2) (ho : d.S e W base ok v xs) (ht : e ≠ 95) : some g ≠ v.ownBlock := by
 obtain ⟨A0, c0, hb, hg, hr0⟩ := h
 exact Kd.S_ne ho hb ht
theorem IsS95.lt {w0 W : World} {g : Nat} {f0 : List Int} {f1 : Int} {f2 : Int} (h : IsS95 w0 W g f0 f1 f2) : g < W.heap.size := by
 obtain ⟨A0, c0, hb, hg, hr0⟩ := h
 exact blk_lt hb
theorem IsS95.ge {w0 W : World} {g : Nat} {f0 : List Int} {f1 : Int} {f2 : Int} (h : IsS95 w0 W g f0 f1 f2) : w0.heap.size ≤ g := by
 obtain ⟨A0, c0, hb, hg, hr0⟩ := h
 exact hg
theorem IsS95.ne_blk {w0 W : World} {g : Nat} {f0 : List Int} {f1 : Int} {f2 : Int} {a : Nat} {cs : Array Value} {t : TypeId} {fr : Nat × Nat} (h : IsS95 w0 W g f0 f1 f2) (hb2 : W.heap[a]? = some (.cells cs t fr)) (ht : t ≠ 95) : g ≠ a := by
 obtain ⟨A0, c0, hb, hg, hr0⟩ := h
 rintro rfl
 rw [hb] at hb2
 injection hb2 with hb2
 injection hb2 with _ ht2
 exact ht ht2.symm
theorem IsS95.far {w0 W : World} {g : Nat} {f0 : List Int} {f1 : Int} {f2 : Int} {p : Addr} (h : IsS95 w0 W g f0 f1 f2) (hne : g ≠ p.block) (u : Value) : IsS95 w0 (W.setCell p u) g f0 f1 f2 := by
 obtain ⟨A0, c0, hb, hg, hr0⟩ := h
 exact ⟨A0, c0, blk_far hb hne u, hg, hr0⟩
theorem cellS95_0 {W : World} {g : Nat} {A0 : Option Addr} {c0 : Nat} {f0 : List Int} {f1 : Int} {f2 : Int} (h : W.heap[g]? = some (.cells #[.slice A0 f0.length c0, .int .i64 f1, .int .i64 f2] 95 (0, 0))) : W.cell? ⟨g, 0, none⟩ = some (.slice A0 f0.length c0) := (blk_cell h 0).trans rfl
theorem cellS95_1 {W : World} {g : Nat} {A0 : Option Addr} {c0 : Nat} {f0 : List Int} {f1 : Int} {f2 : Int} (h : W.heap[g]? = some (.cells #[.slice A0 f0.length c0, .int .i64 f1, .int .i64 f2] 95 (0, 0))) : W.cell? ⟨g, 1, none⟩ = some (.int .i64 f1) := (blk_cell h 1).trans rfl
theorem IsS95.set_1 {w0 W : World} {g : Nat} {f0 : List Int} {f1 : Int} {f2 : Int} (h : IsS95 w0 W g f0 f1 f2) (x : Int) : IsS95 w0 (W.setCell ⟨g, 1, none⟩ (.int .i64 x)) g f0 x f2 := by
 obtain ⟨A0, c0, hb, hg, hr0⟩ := h
 exact ⟨A0, c0, by simpa using blk_set hb 1 (.int .i64 x), hg, hr0⟩
theorem cellS95_2 {W : World} {g : Nat} {A0 : Option Addr} {c0 : Nat} {f0 : List Int} {f1 : Int} {f2 : Int} (h : W.heap[g]? = some (.cells #[.slice A0 f0.length c0, .int .i64 f1, .int .i64 f2] 95 (0, 0))) : W.cell? ⟨g, 2, none⟩ = some (.int .i64 f2) := (blk_cell h 2).trans rfl
theorem IsS95.set_2 {w0 W : World} {g : Nat} {f0 : List Int} {f1 : Int} {f2 : Int} (h : IsS95 w0 W g f0 f1 f2) (x : Int) : IsS95 w0 (W.setCell ⟨g, 2, none⟩ (.int .i64 x)) g f0 f1 x := by
 obtain ⟨A0, c0, hb, hg, hr0⟩ := h
 exact ⟨A0, c0, by simpa using blk_set hb 2 (.int .i64 x), hg, hr0⟩
theorem IsS95.new (w0 W : World) (A0 : Option Addr) (c0 : Nat) (f0 : List Int) (f1 : Int) (f2 : Int) (hB : Below w0.heap.size w0 W) (hr0 : Kd.C (Kd.int .u8) w0 A0 f0.length f0) : IsS95 w0 (W.alloc (.cells #[.slice A0 f0.length c0, .int .i64 f1, .int .i64 f2] 95)) W.heap.size f0 f1 f2 := ⟨A0, c0, by simpa using heap_alloc_new W _, hB.size, hr0⟩
/-! ### spec_l00Source: function 34 -/
def spec_l00Source.f (l0 : List Int) : Option (List Int × Int × Int) := some (l0, 0, (l0.length : Int) % 1000)
set_option maxHeartbeats 8000000 in
set_option maxRecDepth 100000 in
theorem spec_l00Source.calls (A0 : Option Addr) (c0 : Nat) (l0 : List Int) (r1 : List Int) (r2 : Int) (r3 : Int) (w0 w : World) (hB : Below w0.heap.size w0 w) (hr0 : Kd.C (Kd.int .u8) w0 A0 l0.length l0) (hc0 : l0.length ≤ c0) (h : spec_l00Source.f l0 = some (r1, r2, r3)) :
    Calls Tryd.prog 34 #[.slice A0 l0.length c0] w fun e w' => ∃ g_ : Nat, e = .returned (.pointer (some ⟨g_, 0, none⟩)) ∧ IsS95 w0 w' g_ r1 r2 r3 ∧ Below w0.heap.size w0 w' ∧ Below w.heap.size w w' := by
  have hu95 := Tryd.underlying95
  have HR0 := Aside0.mk hr0
  have HC0 := Aside0.mk hc0
  clear hr0 hc0
  have HBW := Aside0.mk (Below.refl w.heap.size w)
  have HW0 := Aside0.mk hB.size
  have HB := Aside0.mk hB
  clear hB
  have H : (some (l0, 0, (l0.length : Int) % 1000)) = some (r1, r2, r3) := h
  clear h
  simp only [Option.some.injEq, Prod.mk.injEq] at H
  obtain ⟨rfl, rfl, rfl⟩ := H
  go_enter Tryd.func34, Tryd.ntmps34
  go_wp2_with (first | ((with_reducible refine gate_dst (N := 8) rfl ?_); refine box_event ?hg (N := 8) ?hd (cs := #[.slice A0 l0.length c0, .int .i64 0, .int .i64 ((l0.length : Int) % 1000)]) (t := 95) ?hr ?_; (case hd => rfl); (case hg => rfl); (case hr => first | (go_simp; done) | (go_simp; rfl)); intro gb244 hg w2 hbox hb; have n0_ := Aside0.mk (below_step HBW.out hb); have n1_ := Aside0.mk (below_step (by repeat (first | (with_reducible first | exact HB.out | apply below_alloc | apply pw_below_drewN | apply below_drew1) | exact HB.out)) hb); have n2_ := Aside0.mk (hbox); have n3_ := Aside0.mk ((by rw [hg]; exact (below_size (by repeat (first | (with_reducible first | exact HBW.out | apply below_alloc | apply pw_below_drewN | apply below_drew1) | exact HBW.out))) : w.heap.size ≤ gb244)); have n4_ := Aside0.mk ((Nat.le_trans HW0.out (by rw [hg]; exact (below_size (by repeat (first | (with_reducible first | exact HBW.out | apply below_alloc | apply pw_below_drewN | apply below_drew1) | exact HBW.out))) : w.heap.size ≤ gb244) : w0.heap.size ≤ gb244)); clear HBW; clear HB; have HBW := n0_; have HB := n1_; have BK244 := n2_; have GW244 := n3_; have GE244 := n4_; clear n0_ n1_ n2_ n3_ n4_; clear hb hbox hg))
  go_ret
  exact ⟨_, rfl, (show IsS95 w0 _ gb244 l0 0 ((l0.length : Int) % 1000) from ⟨_, _, by (with_reducible repeat (first | refine blk_drewN ?_ _ | refine blk_drew ?_ | refine blk_alloc ?_ _)); exact BK244.out, GE244.out, HR0.out⟩), by repeat (first | (with_reducible first | exact HB.out | apply below_alloc | apply pw_below_drewN | apply below_drew1 | refine below_set ?_ GE244.out) | exact HB.out), by repeat (first | (with_reducible first | exact HBW.out | apply below_alloc | apply pw_below_drewN | apply below_drew1 | refine below_set ?_ GW244.out) | exact HBW.out)⟩
end Go.Proofs.YtniceoohmhjjlaaDoor.Q
