/- What laws.FnExactGuestOK reaches, part 3: the functions as Lean functions, the proofs that the program's functions answer so, and plain laws about them. -/
import Derived.Test.YtkejmbnfjjgfnaaKFnExactGuestOK1
import Derived.Test.YtkejmbnfjjgfnaaKFnExactGuestOK2
namespace Go.Proofs.Ytkejmbnfjjgfnaa.Q
open Go.RowKit Go.Proofs.Ytkejmbnfjjgfnaa.Ext Go.Proofs.YtkejmbnfjjgfnaaW.PrintWords Go.Proofs.YtkejmbnfjjgfnaaW.PrintLast Go.Proofs.YtkejmbnfjjgfnaaW.PrintMore
attribute [local go_sem] max2_int min2_int max_two min_two max_three min_three max_four min_four   -- for this text's walks alone
set_option linter.unusedVariables false
set_option linter.unusedSimpArgs false

set_option linter.unusedVariables false
set_option linter.unusedSimpArgs false
/-! ### laws_FnExactGuestOK: function 3 -/
def laws_FnExactGuestOK.f (k : Nat) (l0_0 : List Int) (l0_1 : List (S50)) : Option (Bool) := (laws_szGuest.f k l0_0 l0_1 1048576).bind fun t183 => (if t183 < 0 then (some true) else ((laws_toGuest.f k l0_0 l0_1).bind fun bt184 => ((spec_GuestOK.f k bt184.1 bt184.2).bind fun t190 => ((laws_toGuest.f k l0_0 l0_1).bind fun bt191 => ((impl_GuestOK.f k bt191.1 bt191.2).bind fun t198 => (if (t198 != t190) = true then (some false) else ((laws_toGuest.f k l0_0 l0_1).bind fun bt199 => ((laws_eqGuest.f k bt191.1 bt191.2 bt199.1 bt199.2).bind fun t205 => (if t205 = true then (some true) else (some false))))))))))
theorem laws_FnExactGuestOK.mono : ∀ a0 a1 k, LeO (laws_FnExactGuestOK.f k a0 a1) (laws_FnExactGuestOK.f (k + 1) a0 a1) := by
  intro a0 a1 k
  unfold laws_FnExactGuestOK.f
  repeat' first
      | (with_reducible exact impl_GuestOK.mono _ _ _)
      | (with_reducible exact laws_eqGuest.mono _ _ _ _ _)
      | (with_reducible exact laws_szGuest.mono _ _ _ _)
      | (with_reducible exact laws_toGuest.mono _ _ _)
      | (with_reducible exact spec_GuestOK.mono _ _ _)
      | (with_reducible exact LeO.refl _)
      | (with_reducible exact LeO.none _)
      | (with_reducible refine LeO.ite ?_ ?_)
      | (with_reducible refine LeO.bind ?_ (fun _ => ?_))
      | exact impl_GuestOK.mono _ _ _
      | exact laws_eqGuest.mono _ _ _ _ _
      | exact laws_szGuest.mono _ _ _ _
      | exact laws_toGuest.mono _ _ _
      | exact spec_GuestOK.mono _ _ _
      | exact LeO.none _
      | refine LeO.ite ?_ ?_
      | refine LeO.bind ?_ (fun _ => ?_)
set_option maxHeartbeats 8000000 in
set_option maxRecDepth 100000 in
theorem laws_FnExactGuestOK.calls (k : Nat) (A0_0 : Option Addr) (c0_0 : Nat) (l0_0 : List Int) (A0_1 : Option Addr) (c0_1 : Nat) (l0_1 : List (S50)) (r : Bool) (w : World) (hr0_0 : Kd.C (Kd.int .i64) w A0_0 l0_0.length l0_0) (hc0_0 : l0_0.length ≤ c0_0) (hr0_1 : Kd.C k50 w A0_1 l0_1.length l0_1) (hc0_1 : l0_1.length ≤ c0_1) (h : laws_FnExactGuestOK.f k l0_0 l0_1 = some r) :
    Calls Try.prog 3 #[.agg #[.slice A0_0 l0_0.length c0_0, .slice A0_1 l0_1.length c0_1]] w fun e w' => e = .returned (.bool r) ∧ Below w.heap.size w w' := by
 have hu25 := Try.underlying25
 have hu30 := Try.underlying30
 have Zm := zm hr0_0
 have Zn := zm hc0_0
 clear hr0_0 hc0_0
 have Zo := zm hr0_1
 have Zp := zm hc0_1
 clear hr0_1 hc0_1
 have HB := zm (Below.refl w.heap.size w)
 have H : ((laws_szGuest.f k l0_0 l0_1 1048576).bind fun t183 => (if t183 < 0 then (some true) else ((laws_toGuest.f k l0_0 l0_1).bind fun bt184 => ((spec_GuestOK.f k bt184.1 bt184.2).bind fun t190 => ((laws_toGuest.f k l0_0 l0_1).bind fun bt191 => ((impl_GuestOK.f k bt191.1 bt191.2).bind fun t198 => (if (t198 != t190) = true then (some false) else ((laws_toGuest.f k l0_0 l0_1).bind fun bt199 => ((laws_eqGuest.f k bt191.1 bt191.2 bt199.1 bt199.2).bind fun t205 => (if t205 = true then (some true) else (some false))))))))))) = some r := h
 clear h
 replace H := Option.bind_eq_some_iff.mp H
 obtain ⟨t183, A20, H⟩ := H
 replace H : (if t183 < 0 then (some true) else ((laws_toGuest.f k l0_0 l0_1).bind fun bt184 => ((spec_GuestOK.f k bt184.1 bt184.2).bind fun t190 => ((laws_toGuest.f k l0_0 l0_1).bind fun bt191 => ((impl_GuestOK.f k bt191.1 bt191.2).bind fun t198 => (if (t198 != t190) = true then (some false) else ((laws_toGuest.f k l0_0 l0_1).bind fun bt199 => ((laws_eqGuest.f k bt191.1 bt191.2 bt199.1 bt199.2).bind fun t205 => (if t205 = true then (some true) else (some false)))))))))) = some r := H
 have A2 := zm A20
 clear A20
 by_cases c3 : t183 < 0
 ·rw [if_pos c3] at H
  have c3b0 : decide (t183 < 0) = true := decide_eq_true c3
  clear c3
  obtain rfl := Option.some.inj H
  go_enter Try.func3, Try.ntmps3
  go_wp2_with (first | ((with_reducible refine gate_dst (N := 1) rfl ?_); refine box_event ?hg (N := 1) ?hd (cs := #[.slice A0_0 l0_0.length c0_0, .slice A0_1 l0_1.length c0_1]) (t := 25) ?hr ?_; (case hd => rfl); (case hg => rfl); (case hr => first | (go_simp; done) | (go_simp; rfl)); intro gb182 hg w4 hbox hb; have n0_ := zm (below_step (zg_0 HB.out) hb); have n1_ := zm (hbox); have n2_ := zm ((by rw [hg]; exact (below_size (zg_0 HB.out)) : w.heap.size ≤ gb182)); have n3_ := zm ((by rw [hg]; exact (below_size (zg_0 HB.out)) : w.heap.size ≤ gb182)); clear HB; have HB := n0_; have Za := n1_; have Zq := n2_; have Zg := n3_; clear n0_ n1_ n2_ n3_; clear hb hbox hg; have hcz5_0 : w4.cell? ⟨gb182, 0, none⟩ = some (.slice A0_0 l0_0.length c0_0) := (blk_cell Za.out 0).trans rfl; have hcz5_1 : w4.cell? ⟨gb182, 1, none⟩ = some (.slice A0_1 l0_1.length c0_1) := (blk_cell Za.out 1).trans rfl; have hfz5_0 := blk_frozen Za.out 0; have hfz5_1 := blk_frozen Za.out 1) | ((with_reducible refine gate_callee (f := 4) rfl ?_); refine goesL_ (some 9) rfl rfl Try.func4 (by kernel_rfl) rfl #[.agg #[.slice A0_0 l0_0.length c0_0, .slice A0_1 l0_1.length c0_1], .int .i64 1048576] rfl zq ?_; (with_reducible refine (laws_szGuest.calls k _ _ l0_0 _ _ l0_1 1048576 t183 _ ?side1 ?side2 ?side3 ?side4 A2.out).mono ?_); (case side1 => exact zC (Kd.C_below Zm.out HB.out)); (case side2 => exact Zn.out); (case side3 => exact zC (Kd.C_below Zo.out HB.out)); (case side4 => exact Zp.out); rintro e w6 ⟨rfl, hb⟩; refine ⟨_, rfl, ?_⟩; have n0_ := zm (blk_below (g := gb182) (o := .cells #[.slice A0_0 l0_0.length c0_0, .slice A0_1 l0_1.length c0_1] 25 (0, 0)) (zg_1 Za.out) hb); have n1_ := zm (below_step (zg_2 HB.out Zg.out) hb); clear Za; clear HB; have Za := n0_; have HB := n1_; clear n0_ n1_; (try clear hb); (try clear hb2); (try clear hk); (try clear hi)))
  go_ret
  exact ⟨by first | rfl | (simp [errW_none, errW_some] <;> rfl) | (simp [*, errW_none, errW_some] <;> rfl), zg_2 HB.out Zg.out⟩
 ·rw [if_neg c3] at H
  have c3b0 : decide (t183 < 0) = false := decide_eq_false c3
  clear c3
  replace H := Option.bind_eq_some_iff.mp H
  obtain ⟨⟨t184, t187⟩, A70, H⟩ := H
  replace H : ((spec_GuestOK.f k t184 t187).bind fun t190 => ((laws_toGuest.f k l0_0 l0_1).bind fun bt191 => ((impl_GuestOK.f k bt191.1 bt191.2).bind fun t198 => (if (t198 != t190) = true then (some false) else ((laws_toGuest.f k l0_0 l0_1).bind fun bt199 => ((laws_eqGuest.f k bt191.1 bt191.2 bt199.1 bt199.2).bind fun t205 => (if t205 = true then (some true) else (some false)))))))) = some r := H
  have A7 := zm A70
  clear A70
  replace H := Option.bind_eq_some_iff.mp H
  obtain ⟨t190, A80, H⟩ := H
  replace H : ((laws_toGuest.f k l0_0 l0_1).bind fun bt191 => ((impl_GuestOK.f k bt191.1 bt191.2).bind fun t198 => (if (t198 != t190) = true then (some false) else ((laws_toGuest.f k l0_0 l0_1).bind fun bt199 => ((laws_eqGuest.f k bt191.1 bt191.2 bt199.1 bt199.2).bind fun t205 => (if t205 = true then (some true) else (some false))))))) = some r := H
  have A8 := zm A80
  clear A80
  replace H := Option.bind_eq_some_iff.mp H
  obtain ⟨⟨t191, t194⟩, A90, H⟩ := H
  replace H : ((impl_GuestOK.f k t191 t194).bind fun t198 => (if (t198 != t190) = true then (some false) else ((laws_toGuest.f k l0_0 l0_1).bind fun bt199 => ((laws_eqGuest.f k t191 t194 bt199.1 bt199.2).bind fun t205 => (if t205 = true then (some true) else (some false)))))) = some r := H
  have A9 := zm A90
  clear A90
  replace H := Option.bind_eq_some_iff.mp H
  obtain ⟨t198, A100, H⟩ := H
  replace H : (if (t198 != t190) = true then (some false) else ((laws_toGuest.f k l0_0 l0_1).bind fun bt199 => ((laws_eqGuest.f k t191 t194 bt199.1 bt199.2).bind fun t205 => (if t205 = true then (some true) else (some false))))) = some r := H
  have A10 := zm A100
  clear A100
  by_cases c11 : (t198 != t190) = true
  ·rw [if_pos c11] at H
   have c11b0 : (t198 != t190) = true := c11
   (try (have c11b1 : decide (t198 = t190) = false := by simpa using c11))
   (try (have c11b2 : (t198 == t190) = false := by simpa using c11))
   (try (have c11b3 : ¬ (t198 = t190) := by simpa using c11))
   clear c11
   obtain rfl := Option.some.inj H
   go_enter Try.func3, Try.ntmps3
   go_wp2_with (first | ((with_reducible refine gate_dst (N := 1) rfl ?_); refine box_event ?hg (N := 1) ?hd (cs := #[.slice A0_0 l0_0.length c0_0, .slice A0_1 l0_1.length c0_1]) (t := 25) ?hr ?_; (case hd => rfl); (case hg => rfl); (case hr => first | (go_simp; done) | (go_simp; rfl)); intro gb182 hg w12 hbox hb; have n0_ := zm (below_step (zg_0 HB.out) hb); have n1_ := zm (hbox); have n2_ := zm ((by rw [hg]; exact (below_size (zg_0 HB.out)) : w.heap.size ≤ gb182)); have n3_ := zm ((by rw [hg]; exact (below_size (zg_0 HB.out)) : w.heap.size ≤ gb182)); clear HB; have HB := n0_; have Za := n1_; have Zq := n2_; have Zg := n3_; clear n0_ n1_ n2_ n3_; clear hb hbox hg; have hcz13_0 : w12.cell? ⟨gb182, 0, none⟩ = some (.slice A0_0 l0_0.length c0_0) := (blk_cell Za.out 0).trans rfl; have hcz13_1 : w12.cell? ⟨gb182, 1, none⟩ = some (.slice A0_1 l0_1.length c0_1) := (blk_cell Za.out 1).trans rfl; have hfz13_0 := blk_frozen Za.out 0; have hfz13_1 := blk_frozen Za.out 1) | ((with_reducible refine gate_callee (f := 4) rfl ?_); refine goesL_ (some 9) rfl rfl Try.func4 (by kernel_rfl) rfl #[.agg #[.slice A0_0 l0_0.length c0_0, .slice A0_1 l0_1.length c0_1], .int .i64 1048576] rfl zq ?_; (with_reducible refine (laws_szGuest.calls k _ _ l0_0 _ _ l0_1 1048576 t183 _ ?side1 ?side2 ?side3 ?side4 A2.out).mono ?_); (case side1 => exact zC (Kd.C_below Zm.out HB.out)); (case side2 => exact Zn.out); (case side3 => exact zC (Kd.C_below Zo.out HB.out)); (case side4 => exact Zp.out); rintro e w14 ⟨rfl, hb⟩; refine ⟨_, rfl, ?_⟩; have n0_ := zm (blk_below (g := gb182) (o := .cells #[.slice A0_0 l0_0.length c0_0, .slice A0_1 l0_1.length c0_1] 25 (0, 0)) (zg_1 Za.out) hb); have n1_ := zm (below_step (zg_2 HB.out Zg.out) hb); clear Za; clear HB; have Za := n0_; have HB := n1_; clear n0_ n1_; (try clear hb); (try clear hb2); (try clear hk); (try clear hi); have hcz15_0 : w14.cell? ⟨gb182, 0, none⟩ = some (.slice A0_0 l0_0.length c0_0) := (blk_cell Za.out 0).trans rfl; have hcz15_1 : w14.cell? ⟨gb182, 1, none⟩ = some (.slice A0_1 l0_1.length c0_1) := (blk_cell Za.out 1).trans rfl; have hfz15_0 := blk_frozen Za.out 0; have hfz15_1 := blk_frozen Za.out 1) | ((with_reducible refine gate_callee (f := 6) rfl ?_); refine goesL_ (some 13) rfl rfl Try.func6 (by kernel_rfl) rfl #[.agg #[.slice A0_0 l0_0.length c0_0, .slice A0_1 l0_1.length c0_1]] rfl zq ?_; (with_reducible refine (laws_toGuest.calls k _ _ l0_0 _ _ l0_1 t184 t187 _ ?side1 ?side2 ?side3 ?side4 A7.out).mono ?_); (case side1 => exact zC (Kd.C_below Zm.out HB.out)); (case side2 => exact Zn.out); (case side3 => exact zC (Kd.C_below Zo.out HB.out)); (case side4 => exact Zp.out); rintro e w16 ⟨v185, v188, rfl, ho0, ho1, hb⟩; refine ⟨_, rfl, ?_⟩; have n0_ := zm (Kd.R_lower ho0 (below_size (zg_2 HB.out Zg.out))); have n1_ := zm (Kd.S_lower ho1 (below_size (zg_2 HB.out Zg.out))); have n2_ := zm (blk_below (g := gb182) (o := .cells #[.slice A0_0 l0_0.length c0_0, .slice A0_1 l0_1.length c0_1] 25 (0, 0)) (zg_1 Za.out) hb); have n3_ := zm (below_step (zg_2 HB.out Zg.out) hb); clear Za; clear HB; have Zb := n0_; have Zd := n1_; have Za := n2_; have HB := n3_; clear n0_ n1_ n2_ n3_; (try clear hb); (try clear hb2); (try clear hk); (try clear hi); (try clear ho0); (try clear ho1); obtain ⟨Ao17, co17, eo17⟩ := Kd.R_slice Zb.out; subst eo17; obtain ⟨Ao18, co18, eo18⟩ := Kd.S_slice Zd.out; subst eo18) | ((with_reducible refine gate_callee (f := 5) rfl ?_); refine goesL_ (some 14) rfl rfl Try.func5 (by kernel_rfl) rfl #[.agg #[.slice Ao17 t184.length co17, .slice Ao18 t187.length co18]] rfl zq ?_; (with_reducible refine (spec_GuestOK.calls k _ _ t184 _ _ t187 t190 _ ?side1 ?side2 ?side3 ?side4 A8.out).mono ?_); (case side1 => exact zC ((Kd.R_reads' Zb.out).2.2)); (case side2 => exact (Kd.R_reads' Zb.out).2.1); (case side3 => exact zC ((Kd.S_reads' Zd.out).2.2)); (case side4 => exact (Kd.S_reads' Zd.out).2.1); rintro e w19 ⟨rfl, hb⟩; refine ⟨_, rfl, ?_⟩; have n0_ := zm (Kd.R_below (zg_3 Zb.out) hb); have n1_ := zm (Kd.S_below (zg_6 Zd.out) hb); have n2_ := zm (blk_below (g := gb182) (o := .cells #[.slice A0_0 l0_0.length c0_0, .slice A0_1 l0_1.length c0_1] 25 (0, 0)) (zg_1 Za.out) hb); have n3_ := zm (below_step (zg_2 HB.out Zg.out) hb); clear Zb; clear Zd; clear Za; clear HB; have Zb := n0_; have Zd := n1_; have Za := n2_; have HB := n3_; clear n0_ n1_ n2_ n3_; (try clear hb); (try clear hb2); (try clear hk); (try clear hi); have hcz20_0 : w19.cell? ⟨gb182, 0, none⟩ = some (.slice A0_0 l0_0.length c0_0) := (blk_cell Za.out 0).trans rfl; have hcz20_1 : w19.cell? ⟨gb182, 1, none⟩ = some (.slice A0_1 l0_1.length c0_1) := (blk_cell Za.out 1).trans rfl; have hfz20_0 := blk_frozen Za.out 0; have hfz20_1 := blk_frozen Za.out 1) | ((with_reducible refine gate_callee (f := 6) rfl ?_); refine goesL_ (some 16) rfl rfl Try.func6 (by kernel_rfl) rfl #[.agg #[.slice A0_0 l0_0.length c0_0, .slice A0_1 l0_1.length c0_1]] rfl zq ?_; (with_reducible refine (laws_toGuest.calls k _ _ l0_0 _ _ l0_1 t191 t194 _ ?side1 ?side2 ?side3 ?side4 A9.out).mono ?_); (case side1 => exact zC (Kd.C_below Zm.out HB.out)); (case side2 => exact Zn.out); (case side3 => exact zC (Kd.C_below Zo.out HB.out)); (case side4 => exact Zp.out); rintro e w21 ⟨v192, v195, rfl, ho0, ho1, hb⟩; refine ⟨_, rfl, ?_⟩; have n0_ := zm (Kd.R_elder' (zg_3 Zb.out) (Kd.R_base ho0) hb); have n1_ := zm (Kd.S_mono (Kd.S_told (Kd.S_told (Kd.S_old (zg_6 Zd.out) hb) (Kd.R_base ho0)) (Kd.S_base ho1)) (fun _ h_ => h_.1)); have n2_ := zm (Kd.R_lower (Kd.R_new' ho0 (Kd.R_lt (zg_3 Zb.out))) (below_size (zg_2 HB.out Zg.out))); have n3_ := zm (Kd.S_lower (Kd.S_new' (Kd.S_new' ho1 (Kd.R_lt (zg_3 Zb.out))) (Kd.S_lt (zg_6 Zd.out))) (below_size (zg_2 HB.out Zg.out))); have n4_ := zm (blk_below (g := gb182) (o := .cells #[.slice A0_0 l0_0.length c0_0, .slice A0_1 l0_1.length c0_1] 25 (0, 0)) (zg_1 Za.out) hb); have n5_ := zm (below_step (zg_2 HB.out Zg.out) hb); clear Zb; clear Zd; clear Za; clear HB; have Zb := n0_; have Zd := n1_; have Ze := n2_; have Zf := n3_; have Za := n4_; have HB := n5_; clear n0_ n1_ n2_ n3_ n4_ n5_; (try clear hb); (try clear hb2); (try clear hk); (try clear hi); (try clear ho0); (try clear ho1)) | ((with_reducible refine gate_dst (N := 5) rfl ?_); refine box_event ?hg (N := 5) ?hd (cs := #[.slice none 0 0, .slice none 0 0]) (t := 30) ?hr ?_; (case hd => rfl); (case hg => rfl); (case hr => first | (go_simp; done) | (go_simp; rfl)); intro gb197 hg w22 hbox hb; have n0_ := zm (Kd.R_below (zg_3 Zb.out) hb); have n1_ := zm (Kd.S_below (zg_6 Zd.out) hb); have n2_ := zm (Kd.R_below (zg_3 Ze.out) hb); have n3_ := zm (Kd.S_below (zg_6 Zf.out) hb); have n4_ := zm (blk_below (g := gb182) (o := .cells #[.slice A0_0 l0_0.length c0_0, .slice A0_1 l0_1.length c0_1] 25 (0, 0)) (zg_1 Za.out) hb); have n5_ := zm (below_step (zg_2 HB.out Zg.out) hb); have n6_ := zm (hbox); have n7_ := zm ((by rw [hg]; exact (below_size (zg_2 HB.out Zg.out)) : w.heap.size ≤ gb197)); have n8_ := zm ((by rw [hg]; exact (below_size (zg_2 HB.out Zg.out)) : w.heap.size ≤ gb197)); have n9_ := zm ((by rw [hg]; exact Nat.ne_of_lt (blk_lt (g := gb182) (o := .cells #[.slice A0_0 l0_0.length c0_0, .slice A0_1 l0_1.length c0_1] 25 (0, 0)) (zg_1 Za.out)) : gb182 ≠ gb197)); have n10_ := zm ((by rw [hg]; exact Nat.ne_of_gt (blk_lt (g := gb182) (o := .cells #[.slice A0_0 l0_0.length c0_0, .slice A0_1 l0_1.length c0_1] 25 (0, 0)) (zg_1 Za.out)) : gb197 ≠ gb182)); clear Zb; clear Zd; clear Ze; clear Zf; clear Za; clear HB; have Zb := n0_; have Zd := n1_; have Ze := n2_; have Zf := n3_; have Za := n4_; have HB := n5_; have Zc := n6_; have Zr := n7_; have Zi := n8_; have Zh := n9_; have Zj := n10_; clear n0_ n1_ n2_ n3_ n4_ n5_ n6_ n7_ n8_ n9_ n10_; clear hb hbox hg; obtain ⟨Ao23, co23, eo23⟩ := Kd.R_slice Ze.out; subst eo23; have hnb24 := Zj.out; have hnc24 := Zh.out; have hcz25_0 : w22.cell? ⟨gb197, 0, none⟩ = some (.slice none 0 0) := (blk_cell Zc.out 0).trans rfl; have hcz25_1 : w22.cell? ⟨gb197, 1, none⟩ = some (.slice none 0 0) := (blk_cell Zc.out 1).trans rfl; have hfz25_0 := blk_frozen Zc.out 0; have hfz25_1 := blk_frozen Zc.out 1; obtain ⟨Ao26, co26, eo26⟩ := Kd.S_slice Zf.out; subst eo26) | ((with_reducible refine gate_callee (f := 7) rfl ?_); refine goesL_ (some 18) rfl rfl Try.func7 (by kernel_rfl) rfl #[.agg #[.slice Ao23 t191.length co23, .slice Ao26 t194.length co26]] rfl zq ?_; (with_reducible refine (impl_GuestOK.calls k _ _ t191 _ _ t194 t198 _ ?side1 ?side2 ?side3 ?side4 A10.out).mono ?_); (case side1 => refine (Kd.R_reads' (e := 3) (base := w.heap.size) (ok := fun k_ => (True ∧ some k_ ≠ (.slice Ao17 t184.length co17 : Value).ownBlock)) (n := t191.length) (c := co23) ?_).2.2; exact (by (with_reducible repeat (first | apply Kd.R_alloc | apply Kd.R_drewN | apply Kd.R_drew)); exact (Kd.R_mono (Kd.R_far (p := ⟨gb197, 1, none⟩) (Kd.R_far (p := ⟨gb197, 0, none⟩) (Kd.R_types Ze.out Zc.out (by decide)) (fun _ hk => hk.2) (.slice Ao23 t191.length co23)) (fun _ hk => hk.2) (.slice Ao26 t194.length co26)) (fun _ h_ => h_.1)))); (case side2 => exact (Kd.R_reads' Ze.out).2.1); (case side3 => refine (Kd.S_reads' (e := 39) (base := w.heap.size) (ok := fun k_ => ((some k_ ≠ (.slice Ao23 t191.length co23 : Value).ownBlock ∧ some k_ ≠ (.slice Ao17 t184.length co17 : Value).ownBlock) ∧ some k_ ≠ (.slice Ao18 t187.length co18 : Value).ownBlock)) (n := t194.length) (c := co26) ?_).2.2; exact (by (with_reducible repeat (first | apply Kd.S_alloc | apply Kd.S_drewN | apply Kd.S_drew)); exact (Kd.S_mono (Kd.S_far (p := ⟨gb197, 1, none⟩) (Kd.S_far (p := ⟨gb197, 0, none⟩) (Kd.S_types Zf.out Zc.out (by decide)) (fun _ hk => hk.2) (.slice Ao23 t191.length co23)) (fun _ hk => hk.2) (.slice Ao26 t194.length co26)) (fun _ h_ => h_.1)))); (case side4 => exact (Kd.S_reads' Zf.out).2.1); rintro e w27 ⟨rfl, hb⟩; refine ⟨_, rfl, ?_⟩; have n0_ := zm (Kd.R_below (by (with_reducible repeat (first | apply Kd.R_alloc | apply Kd.R_drewN | apply Kd.R_drew)); exact (Kd.R_mono (Kd.R_far (p := ⟨gb197, 1, none⟩) (Kd.R_far (p := ⟨gb197, 0, none⟩) (Kd.R_types Zb.out Zc.out (by decide)) (fun _ hk => hk.2) (.slice Ao23 t191.length co23)) (fun _ hk => hk.2) (.slice Ao26 t194.length co26)) (fun _ h_ => h_.1))) hb); have n1_ := zm (Kd.S_below (by (with_reducible repeat (first | apply Kd.S_alloc | apply Kd.S_drewN | apply Kd.S_drew)); exact (Kd.S_mono (Kd.S_far (p := ⟨gb197, 1, none⟩) (Kd.S_far (p := ⟨gb197, 0, none⟩) (Kd.S_types Zd.out Zc.out (by decide)) (fun _ hk => hk.2) (.slice Ao23 t191.length co23)) (fun _ hk => hk.2) (.slice Ao26 t194.length co26)) (fun _ h_ => h_.1))) hb); have n2_ := zm (Kd.R_below (by (with_reducible repeat (first | apply Kd.R_alloc | apply Kd.R_drewN | apply Kd.R_drew)); exact (Kd.R_mono (Kd.R_far (p := ⟨gb197, 1, none⟩) (Kd.R_far (p := ⟨gb197, 0, none⟩) (Kd.R_types Ze.out Zc.out (by decide)) (fun _ hk => hk.2) (.slice Ao23 t191.length co23)) (fun _ hk => hk.2) (.slice Ao26 t194.length co26)) (fun _ h_ => h_.1))) hb); have n3_ := zm (Kd.S_below (by (with_reducible repeat (first | apply Kd.S_alloc | apply Kd.S_drewN | apply Kd.S_drew)); exact (Kd.S_mono (Kd.S_far (p := ⟨gb197, 1, none⟩) (Kd.S_far (p := ⟨gb197, 0, none⟩) (Kd.S_types Zf.out Zc.out (by decide)) (fun _ hk => hk.2) (.slice Ao23 t191.length co23)) (fun _ hk => hk.2) (.slice Ao26 t194.length co26)) (fun _ h_ => h_.1))) hb); have n4_ := zm (blk_below (g := gb182) (o := .cells #[.slice A0_0 l0_0.length c0_0, .slice A0_1 l0_1.length c0_1] 25 (0, 0)) (by (with_reducible repeat (first | refine blk_drewN ?_ _ | refine blk_drew ?_ | refine blk_alloc ?_ _)); refine blk_far ?_ Zh.out _; (with_reducible repeat (first | refine blk_drewN ?_ _ | refine blk_drew ?_ | refine blk_alloc ?_ _)); refine blk_far ?_ Zh.out _; (with_reducible repeat (first | refine blk_drewN ?_ _ | refine blk_drew ?_ | refine blk_alloc ?_ _)); exact Za.out) hb); have n5_ := zm (blk_below (g := gb197) (o := .cells #[.slice Ao23 t191.length co23, .slice Ao26 t194.length co26] 30 (0, 0)) (by (with_reducible repeat (first | refine blk_drewN ?_ _ | refine blk_drew ?_ | refine blk_alloc ?_ _)); refine blk_put (cs := #[.slice Ao23 t191.length co23, .slice none 0 0]) ?_ 1 _ rfl; (with_reducible repeat (first | refine blk_drewN ?_ _ | refine blk_drew ?_ | refine blk_alloc ?_ _)); refine blk_put (cs := #[.slice none 0 0, .slice none 0 0]) ?_ 0 _ rfl; (with_reducible repeat (first | refine blk_drewN ?_ _ | refine blk_drew ?_ | refine blk_alloc ?_ _)); exact Zc.out) hb); have n6_ := zm (below_step (zg_4 HB.out Zg.out Zi.out) hb); clear Zb; clear Zd; clear Ze; clear Zf; clear Za; clear Zc; clear HB; have Zb := n0_; have Zd := n1_; have Ze := n2_; have Zf := n3_; have Za := n4_; have Zc := n5_; have HB := n6_; clear n0_ n1_ n2_ n3_ n4_ n5_ n6_; (try clear hb); (try clear hb2); (try clear hk); (try clear hi)))
   go_ret
   exact ⟨by first | rfl | (simp [errW_none, errW_some] <;> rfl) | (simp [*, errW_none, errW_some] <;> rfl), zg_4 HB.out Zg.out Zi.out⟩
  ·rw [if_neg c11] at H
   have c11b0 : (t198 != t190) = false := by simpa using c11
   (try (have c11b1 : decide (t198 = t190) = true := by simpa using c11))
   (try (have c11b2 : (t198 == t190) = true := by simpa using c11))
   clear c11
   replace H := Option.bind_eq_some_iff.mp H
   obtain ⟨⟨t199, t202⟩, A280, H⟩ := H
   replace H : ((laws_eqGuest.f k t191 t194 t199 t202).bind fun t205 => (if t205 = true then (some true) else (some false))) = some r := H
   have A28 := zm A280
   clear A280
   replace H := Option.bind_eq_some_iff.mp H
   obtain ⟨t205, A290, H⟩ := H
   replace H : (if t205 = true then (some true) else (some false)) = some r := H
   have A29 := zm A290
   clear A290
   by_cases c30 : t205 = true
   ·subst c30
    have H1 : (some true) = some r := by rw [if_pos rfl] at H; exact H
    clear H
    have H := H1
    clear H1
    obtain rfl := Option.some.inj H
    go_enter Try.func3, Try.ntmps3
    try go_wp2_with (first | ((with_reducible refine gate_dst (N := 1) rfl ?_); refine box_event ?hg (N := 1) ?hd (cs := #[.slice A0_0 l0_0.length c0_0, .slice A0_1 l0_1.length c0_1]) (t := 25) ?hr ?_; (case hd => rfl); (case hg => rfl); (case hr => first | (go_simp; done) | (go_simp; rfl)); intro gb182 hg w31 hbox hb; have n0_ := zm (below_step (zg_0 HB.out) hb); have n1_ := zm (hbox); have n2_ := zm ((by rw [hg]; exact (below_size (zg_0 HB.out)) : w.heap.size ≤ gb182)); have n3_ := zm ((by rw [hg]; exact (below_size (zg_0 HB.out)) : w.heap.size ≤ gb182)); clear HB; have HB := n0_; have Za := n1_; have Zq := n2_; have Zg := n3_; clear n0_ n1_ n2_ n3_; clear hb hbox hg; have hcz32_0 : w31.cell? ⟨gb182, 0, none⟩ = some (.slice A0_0 l0_0.length c0_0) := (blk_cell Za.out 0).trans rfl; have hcz32_1 : w31.cell? ⟨gb182, 1, none⟩ = some (.slice A0_1 l0_1.length c0_1) := (blk_cell Za.out 1).trans rfl; have hfz32_0 := blk_frozen Za.out 0; have hfz32_1 := blk_frozen Za.out 1) | ((with_reducible refine gate_callee (f := 4) rfl ?_); refine goesL_ (some 9) rfl rfl Try.func4 (by kernel_rfl) rfl #[.agg #[.slice A0_0 l0_0.length c0_0, .slice A0_1 l0_1.length c0_1], .int .i64 1048576] rfl zq ?_; (with_reducible refine (laws_szGuest.calls k _ _ l0_0 _ _ l0_1 1048576 t183 _ ?side1 ?side2 ?side3 ?side4 A2.out).mono ?_); (case side1 => exact zC (Kd.C_below Zm.out HB.out)); (case side2 => exact Zn.out); (case side3 => exact zC (Kd.C_below Zo.out HB.out)); (case side4 => exact Zp.out); rintro e w33 ⟨rfl, hb⟩; refine ⟨_, rfl, ?_⟩; have n0_ := zm (blk_below (g := gb182) (o := .cells #[.slice A0_0 l0_0.length c0_0, .slice A0_1 l0_1.length c0_1] 25 (0, 0)) (zg_1 Za.out) hb); have n1_ := zm (below_step (zg_2 HB.out Zg.out) hb); clear Za; clear HB; have Za := n0_; have HB := n1_; clear n0_ n1_; (try clear hb); (try clear hb2); (try clear hk); (try clear hi); have hcz34_0 : w33.cell? ⟨gb182, 0, none⟩ = some (.slice A0_0 l0_0.length c0_0) := (blk_cell Za.out 0).trans rfl; have hcz34_1 : w33.cell? ⟨gb182, 1, none⟩ = some (.slice A0_1 l0_1.length c0_1) := (blk_cell Za.out 1).trans rfl; have hfz34_0 := blk_frozen Za.out 0; have hfz34_1 := blk_frozen Za.out 1) | ((with_reducible refine gate_callee (f := 6) rfl ?_); refine goesL_ (some 13) rfl rfl Try.func6 (by kernel_rfl) rfl #[.agg #[.slice A0_0 l0_0.length c0_0, .slice A0_1 l0_1.length c0_1]] rfl zq ?_; (with_reducible refine (laws_toGuest.calls k _ _ l0_0 _ _ l0_1 t184 t187 _ ?side1 ?side2 ?side3 ?side4 A7.out).mono ?_); (case side1 => exact zC (Kd.C_below Zm.out HB.out)); (case side2 => exact Zn.out); (case side3 => exact zC (Kd.C_below Zo.out HB.out)); (case side4 => exact Zp.out); rintro e w35 ⟨v185, v188, rfl, ho0, ho1, hb⟩; refine ⟨_, rfl, ?_⟩; have n0_ := zm (Kd.R_lower ho0 (below_size (zg_2 HB.out Zg.out))); have n1_ := zm (Kd.S_lower ho1 (below_size (zg_2 HB.out Zg.out))); have n2_ := zm (blk_below (g := gb182) (o := .cells #[.slice A0_0 l0_0.length c0_0, .slice A0_1 l0_1.length c0_1] 25 (0, 0)) (zg_1 Za.out) hb); have n3_ := zm (below_step (zg_2 HB.out Zg.out) hb); clear Za; clear HB; have Zb := n0_; have Zd := n1_; have Za := n2_; have HB := n3_; clear n0_ n1_ n2_ n3_; (try clear hb); (try clear hb2); (try clear hk); (try clear hi); (try clear ho0); (try clear ho1); obtain ⟨Ao36, co36, eo36⟩ := Kd.R_slice Zb.out; subst eo36; obtain ⟨Ao37, co37, eo37⟩ := Kd.S_slice Zd.out; subst eo37) | ((with_reducible refine gate_callee (f := 5) rfl ?_); refine goesL_ (some 14) rfl rfl Try.func5 (by kernel_rfl) rfl #[.agg #[.slice Ao36 t184.length co36, .slice Ao37 t187.length co37]] rfl zq ?_; (with_reducible refine (spec_GuestOK.calls k _ _ t184 _ _ t187 t190 _ ?side1 ?side2 ?side3 ?side4 A8.out).mono ?_); (case side1 => exact zC ((Kd.R_reads' Zb.out).2.2)); (case side2 => exact (Kd.R_reads' Zb.out).2.1); (case side3 => exact zC ((Kd.S_reads' Zd.out).2.2)); (case side4 => exact (Kd.S_reads' Zd.out).2.1); rintro e w38 ⟨rfl, hb⟩; refine ⟨_, rfl, ?_⟩; have n0_ := zm (Kd.R_below (zg_3 Zb.out) hb); have n1_ := zm (Kd.S_below (zg_6 Zd.out) hb); have n2_ := zm (blk_below (g := gb182) (o := .cells #[.slice A0_0 l0_0.length c0_0, .slice A0_1 l0_1.length c0_1] 25 (0, 0)) (zg_1 Za.out) hb); have n3_ := zm (below_step (zg_2 HB.out Zg.out) hb); clear Zb; clear Zd; clear Za; clear HB; have Zb := n0_; have Zd := n1_; have Za := n2_; have HB := n3_; clear n0_ n1_ n2_ n3_; (try clear hb); (try clear hb2); (try clear hk); (try clear hi); have hcz39_0 : w38.cell? ⟨gb182, 0, none⟩ = some (.slice A0_0 l0_0.length c0_0) := (blk_cell Za.out 0).trans rfl; have hcz39_1 : w38.cell? ⟨gb182, 1, none⟩ = some (.slice A0_1 l0_1.length c0_1) := (blk_cell Za.out 1).trans rfl; have hfz39_0 := blk_frozen Za.out 0; have hfz39_1 := blk_frozen Za.out 1) | ((with_reducible refine gate_callee (f := 6) rfl ?_); refine goesL_ (some 16) rfl rfl Try.func6 (by kernel_rfl) rfl #[.agg #[.slice A0_0 l0_0.length c0_0, .slice A0_1 l0_1.length c0_1]] rfl zq ?_; (with_reducible refine (laws_toGuest.calls k _ _ l0_0 _ _ l0_1 t191 t194 _ ?side1 ?side2 ?side3 ?side4 A9.out).mono ?_); (case side1 => exact zC (Kd.C_below Zm.out HB.out)); (case side2 => exact Zn.out); (case side3 => exact zC (Kd.C_below Zo.out HB.out)); (case side4 => exact Zp.out); rintro e w40 ⟨v192, v195, rfl, ho0, ho1, hb⟩; refine ⟨_, rfl, ?_⟩; have n0_ := zm (Kd.R_elder' (zg_3 Zb.out) (Kd.R_base ho0) hb); have n1_ := zm (Kd.S_mono (Kd.S_told (Kd.S_told (Kd.S_old (zg_6 Zd.out) hb) (Kd.R_base ho0)) (Kd.S_base ho1)) (fun _ h_ => h_.1)); have n2_ := zm (Kd.R_lower (Kd.R_new' ho0 (Kd.R_lt (zg_3 Zb.out))) (below_size (zg_2 HB.out Zg.out))); have n3_ := zm (Kd.S_lower (Kd.S_new' (Kd.S_new' ho1 (Kd.R_lt (zg_3 Zb.out))) (Kd.S_lt (zg_6 Zd.out))) (below_size (zg_2 HB.out Zg.out))); have n4_ := zm (blk_below (g := gb182) (o := .cells #[.slice A0_0 l0_0.length c0_0, .slice A0_1 l0_1.length c0_1] 25 (0, 0)) (zg_1 Za.out) hb); have n5_ := zm (below_step (zg_2 HB.out Zg.out) hb); clear Zb; clear Zd; clear Za; clear HB; have Zb := n0_; have Zd := n1_; have Ze := n2_; have Zf := n3_; have Za := n4_; have HB := n5_; clear n0_ n1_ n2_ n3_ n4_ n5_; (try clear hb); (try clear hb2); (try clear hk); (try clear hi); (try clear ho0); (try clear ho1)) | ((with_reducible refine gate_dst (N := 5) rfl ?_); refine box_event ?hg (N := 5) ?hd (cs := #[.slice none 0 0, .slice none 0 0]) (t := 30) ?hr ?_; (case hd => rfl); (case hg => rfl); (case hr => first | (go_simp; done) | (go_simp; rfl)); intro gb197 hg w41 hbox hb; have n0_ := zm (Kd.R_below (zg_3 Zb.out) hb); have n1_ := zm (Kd.S_below (zg_6 Zd.out) hb); have n2_ := zm (Kd.R_below (zg_3 Ze.out) hb); have n3_ := zm (Kd.S_below (zg_6 Zf.out) hb); have n4_ := zm (blk_below (g := gb182) (o := .cells #[.slice A0_0 l0_0.length c0_0, .slice A0_1 l0_1.length c0_1] 25 (0, 0)) (zg_1 Za.out) hb); have n5_ := zm (below_step (zg_2 HB.out Zg.out) hb); have n6_ := zm (hbox); have n7_ := zm ((by rw [hg]; exact (below_size (zg_2 HB.out Zg.out)) : w.heap.size ≤ gb197)); have n8_ := zm ((by rw [hg]; exact (below_size (zg_2 HB.out Zg.out)) : w.heap.size ≤ gb197)); have n9_ := zm ((by rw [hg]; exact Nat.ne_of_lt (blk_lt (g := gb182) (o := .cells #[.slice A0_0 l0_0.length c0_0, .slice A0_1 l0_1.length c0_1] 25 (0, 0)) (zg_1 Za.out)) : gb182 ≠ gb197)); have n10_ := zm ((by rw [hg]; exact Nat.ne_of_gt (blk_lt (g := gb182) (o := .cells #[.slice A0_0 l0_0.length c0_0, .slice A0_1 l0_1.length c0_1] 25 (0, 0)) (zg_1 Za.out)) : gb197 ≠ gb182)); clear Zb; clear Zd; clear Ze; clear Zf; clear Za; clear HB; have Zb := n0_; have Zd := n1_; have Ze := n2_; have Zf := n3_; have Za := n4_; have HB := n5_; have Zc := n6_; have Zr := n7_; have Zi := n8_; have Zh := n9_; have Zj := n10_; clear n0_ n1_ n2_ n3_ n4_ n5_ n6_ n7_ n8_ n9_ n10_; clear hb hbox hg; obtain ⟨Ao42, co42, eo42⟩ := Kd.R_slice Ze.out; subst eo42; have hnb43 := Zj.out; have hnc43 := Zh.out; have hcz44_0 : w41.cell? ⟨gb197, 0, none⟩ = some (.slice none 0 0) := (blk_cell Zc.out 0).trans rfl; have hcz44_1 : w41.cell? ⟨gb197, 1, none⟩ = some (.slice none 0 0) := (blk_cell Zc.out 1).trans rfl; have hfz44_0 := blk_frozen Zc.out 0; have hfz44_1 := blk_frozen Zc.out 1; obtain ⟨Ao45, co45, eo45⟩ := Kd.S_slice Zf.out; subst eo45) | ((with_reducible refine gate_callee (f := 7) rfl ?_); refine goesL_ (some 18) rfl rfl Try.func7 (by kernel_rfl) rfl #[.agg #[.slice Ao42 t191.length co42, .slice Ao45 t194.length co45]] rfl zq ?_; (with_reducible refine (impl_GuestOK.calls k _ _ t191 _ _ t194 t198 _ ?side1 ?side2 ?side3 ?side4 A10.out).mono ?_); (case side1 => refine (Kd.R_reads' (e := 3) (base := w.heap.size) (ok := fun k_ => (True ∧ some k_ ≠ (.slice Ao36 t184.length co36 : Value).ownBlock)) (n := t191.length) (c := co42) ?_).2.2; exact (by (with_reducible repeat (first | apply Kd.R_alloc | apply Kd.R_drewN | apply Kd.R_drew)); exact (Kd.R_mono (Kd.R_far (p := ⟨gb197, 1, none⟩) (Kd.R_far (p := ⟨gb197, 0, none⟩) (Kd.R_types Ze.out Zc.out (by decide)) (fun _ hk => hk.2) (.slice Ao42 t191.length co42)) (fun _ hk => hk.2) (.slice Ao45 t194.length co45)) (fun _ h_ => h_.1)))); (case side2 => exact (Kd.R_reads' Ze.out).2.1); (case side3 => refine (Kd.S_reads' (e := 39) (base := w.heap.size) (ok := fun k_ => ((some k_ ≠ (.slice Ao42 t191.length co42 : Value).ownBlock ∧ some k_ ≠ (.slice Ao36 t184.length co36 : Value).ownBlock) ∧ some k_ ≠ (.slice Ao37 t187.length co37 : Value).ownBlock)) (n := t194.length) (c := co45) ?_).2.2; exact (by (with_reducible repeat (first | apply Kd.S_alloc | apply Kd.S_drewN | apply Kd.S_drew)); exact (Kd.S_mono (Kd.S_far (p := ⟨gb197, 1, none⟩) (Kd.S_far (p := ⟨gb197, 0, none⟩) (Kd.S_types Zf.out Zc.out (by decide)) (fun _ hk => hk.2) (.slice Ao42 t191.length co42)) (fun _ hk => hk.2) (.slice Ao45 t194.length co45)) (fun _ h_ => h_.1)))); (case side4 => exact (Kd.S_reads' Zf.out).2.1); rintro e w46 ⟨rfl, hb⟩; refine ⟨_, rfl, ?_⟩; have n0_ := zm (Kd.R_below (by (with_reducible repeat (first | apply Kd.R_alloc | apply Kd.R_drewN | apply Kd.R_drew)); exact (Kd.R_mono (Kd.R_far (p := ⟨gb197, 1, none⟩) (Kd.R_far (p := ⟨gb197, 0, none⟩) (Kd.R_types Zb.out Zc.out (by decide)) (fun _ hk => hk.2) (.slice Ao42 t191.length co42)) (fun _ hk => hk.2) (.slice Ao45 t194.length co45)) (fun _ h_ => h_.1))) hb); have n1_ := zm (Kd.S_below (by (with_reducible repeat (first | apply Kd.S_alloc | apply Kd.S_drewN | apply Kd.S_drew)); exact (Kd.S_mono (Kd.S_far (p := ⟨gb197, 1, none⟩) (Kd.S_far (p := ⟨gb197, 0, none⟩) (Kd.S_types Zd.out Zc.out (by decide)) (fun _ hk => hk.2) (.slice Ao42 t191.length co42)) (fun _ hk => hk.2) (.slice Ao45 t194.length co45)) (fun _ h_ => h_.1))) hb); have n2_ := zm (Kd.R_below (by (with_reducible repeat (first | apply Kd.R_alloc | apply Kd.R_drewN | apply Kd.R_drew)); exact (Kd.R_mono (Kd.R_far (p := ⟨gb197, 1, none⟩) (Kd.R_far (p := ⟨gb197, 0, none⟩) (Kd.R_types Ze.out Zc.out (by decide)) (fun _ hk => hk.2) (.slice Ao42 t191.length co42)) (fun _ hk => hk.2) (.slice Ao45 t194.length co45)) (fun _ h_ => h_.1))) hb); have n3_ := zm (Kd.S_below (by (with_reducible repeat (first | apply Kd.S_alloc | apply Kd.S_drewN | apply Kd.S_drew)); exact (Kd.S_mono (Kd.S_far (p := ⟨gb197, 1, none⟩) (Kd.S_far (p := ⟨gb197, 0, none⟩) (Kd.S_types Zf.out Zc.out (by decide)) (fun _ hk => hk.2) (.slice Ao42 t191.length co42)) (fun _ hk => hk.2) (.slice Ao45 t194.length co45)) (fun _ h_ => h_.1))) hb); have n4_ := zm (blk_below (g := gb182) (o := .cells #[.slice A0_0 l0_0.length c0_0, .slice A0_1 l0_1.length c0_1] 25 (0, 0)) (by (with_reducible repeat (first | refine blk_drewN ?_ _ | refine blk_drew ?_ | refine blk_alloc ?_ _)); refine blk_far ?_ Zh.out _; (with_reducible repeat (first | refine blk_drewN ?_ _ | refine blk_drew ?_ | refine blk_alloc ?_ _)); refine blk_far ?_ Zh.out _; (with_reducible repeat (first | refine blk_drewN ?_ _ | refine blk_drew ?_ | refine blk_alloc ?_ _)); exact Za.out) hb); have n5_ := zm (blk_below (g := gb197) (o := .cells #[.slice Ao42 t191.length co42, .slice Ao45 t194.length co45] 30 (0, 0)) (by (with_reducible repeat (first | refine blk_drewN ?_ _ | refine blk_drew ?_ | refine blk_alloc ?_ _)); refine blk_put (cs := #[.slice Ao42 t191.length co42, .slice none 0 0]) ?_ 1 _ rfl; (with_reducible repeat (first | refine blk_drewN ?_ _ | refine blk_drew ?_ | refine blk_alloc ?_ _)); refine blk_put (cs := #[.slice none 0 0, .slice none 0 0]) ?_ 0 _ rfl; (with_reducible repeat (first | refine blk_drewN ?_ _ | refine blk_drew ?_ | refine blk_alloc ?_ _)); exact Zc.out) hb); have n6_ := zm (below_step (zg_4 HB.out Zg.out Zi.out) hb); clear Zb; clear Zd; clear Ze; clear Zf; clear Za; clear Zc; clear HB; have Zb := n0_; have Zd := n1_; have Ze := n2_; have Zf := n3_; have Za := n4_; have Zc := n5_; have HB := n6_; clear n0_ n1_ n2_ n3_ n4_ n5_ n6_; (try clear hb); (try clear hb2); (try clear hk); (try clear hi)))
    have n0_ := zm (Kd.R_drew Zb.out)
    have n1_ := zm (Kd.S_drew Zd.out)
    have n2_ := zm (Kd.R_drew Ze.out)
    have n3_ := zm (Kd.S_drew Zf.out)
    have n4_ := zm (blk_drew Za.out)
    have n5_ := zm (blk_drew Zc.out)
    have n6_ := zm (below_drew1 HB.out)
    clear Zb
    clear Zd
    clear Ze
    clear Zf
    clear Za
    clear Zc
    clear HB
    have Zb := n0_
    have Zd := n1_
    have Ze := n2_
    have Zf := n3_
    have Za := n4_
    have Zc := n5_
    have HB := n6_
    clear n0_ n1_ n2_ n3_ n4_ n5_ n6_
    refine start_ (n := 5) (S := fun w' => w'.cell? ⟨gb197, 0, none⟩ = some (.slice Ao42 t191.length co42) ∧ w'.cell? ⟨gb197, 1, none⟩ = some (.slice Ao45 t194.length co45) ∧ w'.cell? ⟨gb182, 0, none⟩ = some (.slice A0_0 l0_0.length c0_0) ∧ w'.cell? ⟨gb182, 1, none⟩ = some (.slice A0_1 l0_1.length c0_1)) (ds := []) #[false, false, false, false, false] (by kernel_rfl) rfl rfl ⟨(blk_cell Zc.out 0).trans rfl, (blk_cell Zc.out 1).trans rfl, (blk_cell Za.out 0).trans rfl, (blk_cell Za.out 1).trans rfl⟩ (fun hHeld => ?_)
    generalize w46.drew = w47 at Zb Zd Ze Zf Za Zc HB hHeld ⊢
    refine take_ (i := 0) (N := some 22) (v := ?_) (a' := ?_) #[true, false, false, false, false] rfl rfl (by kernel_rfl) (fun _ _ _ h => h) (Or.inl ⟨by rfl, ?_⟩) hHeld ?_ ?_
    rotate_left
    ·rintro w' ⟨s0, s1, s2, s3⟩
     go_simp
     with_reducible rfl
    rotate_left
    ·simp only [Act.put, zs, zz, zt, i64_w, i32_w]
     rfl
    refine take_ (i := 1) (N := some 23) (v := ?_) (a' := ?_) #[true, true, false, false, false] rfl rfl (by kernel_rfl) (fun _ _ _ h => h) (Or.inl ⟨by rfl, ?_⟩) hHeld ?_ ?_
    rotate_left
    ·rintro w' ⟨s0, s1, s2, s3⟩
     go_simp
     with_reducible rfl
    rotate_left
    ·simp only [Act.put, zs, zz, zt, i64_w, i32_w]
     rfl
    refine one_ (i := 2) (N := some 24) #[true, true, true, false, false] rfl rfl (by kernel_rfl) (by decide) (fun K hK => ?_)
    refine goes_ Try.func6 (by kernel_rfl) rfl #[.agg #[.slice A0_0 l0_0.length c0_0, .slice A0_1 l0_1.length c0_1]] (by rfl) rfl rfl zq ?_
    with_reducible refine (laws_toGuest.calls k _ _ l0_0 _ _ l0_1 t199 t202 _ ?side1 ?side2 ?side3 ?side4 A28.out).mono ?_
    (case side1 => exact zC (Kd.C_below Zm.out HB.out))
    (case side2 => exact Zn.out)
    (case side3 => exact zC (Kd.C_below Zo.out HB.out))
    (case side4 => exact Zp.out)
    rintro e w48 ⟨v200, v203, rfl, ho0, ho1, hb⟩
    refine ⟨_, rfl, ?_⟩
    have n0_ := zm (Kd.R_elder' (zg_3 Zb.out) (Kd.R_base ho0) hb)
    have n1_ := zm (Kd.S_mono (Kd.S_told (Kd.S_told (Kd.S_old (zg_6 Zd.out) hb) (Kd.R_base ho0)) (Kd.S_base ho1)) (fun _ h_ => h_.1))
    have n2_ := zm (Kd.R_elder' (zg_3 Ze.out) (Kd.R_base ho0) hb)
    have n3_ := zm (Kd.S_mono (Kd.S_told (Kd.S_told (Kd.S_old (zg_6 Zf.out) hb) (Kd.R_base ho0)) (Kd.S_base ho1)) (fun _ h_ => h_.1))
    have n4_ := zm (Kd.R_lower (Kd.R_new' (Kd.R_new' ho0 (Kd.R_lt (zg_3 Zb.out))) (Kd.R_lt (zg_3 Ze.out))) (below_size (zg_4 HB.out Zg.out Zi.out)))
    have n5_ := zm (Kd.S_lower (Kd.S_new' (Kd.S_new' (Kd.S_new' (Kd.S_new' ho1 (Kd.R_lt (zg_3 Zb.out))) (Kd.S_lt (zg_6 Zd.out))) (Kd.R_lt (zg_3 Ze.out))) (Kd.S_lt (zg_6 Zf.out))) (below_size (zg_4 HB.out Zg.out Zi.out)))
    have n6_ := zm (blk_below (g := gb182) (o := .cells #[.slice A0_0 l0_0.length c0_0, .slice A0_1 l0_1.length c0_1] 25 (0, 0)) (zg_1 Za.out) hb)
    have n7_ := zm (blk_below (g := gb197) (o := .cells #[.slice Ao42 t191.length co42, .slice Ao45 t194.length co45] 30 (0, 0)) (zg_1 Zc.out) hb)
    have n8_ := zm (below_step (zg_4 HB.out Zg.out Zi.out) hb)
    clear Zb
    clear Zd
    clear Ze
    clear Zf
    clear Za
    clear Zc
    clear HB
    have Zb := n0_
    have Zd := n1_
    have Ze := n2_
    have Zf := n3_
    have Zk := n4_
    have Zl := n5_
    have Za := n6_
    have Zc := n7_
    have HB := n8_
    clear n0_ n1_ n2_ n3_ n4_ n5_ n6_ n7_ n8_
    (try clear hb)
    (try clear hb2)
    (try clear hk)
    (try clear hi)
    (try clear ho0)
    (try clear ho1)
    obtain ⟨Ao49, co49, eo49⟩ := Kd.R_slice Zk.out
    (first | subst eo49 | (injection eo49 with f1_ f2_ f3_; have f4_ := f1_.symm; have f5_ := f3_.symm; clear f1_ f2_ f3_; subst f4_; subst f5_))
    obtain ⟨Ao50, co50, eo50⟩ := Kd.S_slice Zl.out
    (first | subst eo50 | (injection eo50 with f1_ f2_ f3_; have f4_ := f1_.symm; have f5_ := f3_.symm; clear f1_ f2_ f3_; subst f4_; subst f5_))
    refine hK.out _ _ ⟨(blk_cell Zc.out 0).trans rfl, (blk_cell Zc.out 1).trans rfl, (blk_cell Za.out 0).trans rfl, (blk_cell Za.out 1).trans rfl⟩ (fun hHeld => ?_)
    clear hK K
    refine norm_ (a' := ?_) ?_ ?_
    rotate_left
    ·show Act.put _ (some 24) _ = _
     simp only [Act.put, zs, zz, zt, i64_w, i32_w]
     rfl
    refine one_ (i := 3) (N := some 25) #[true, true, true, true, false] rfl rfl (by kernel_rfl) (by decide) (fun K hK => ?_)
    refine goes_ Try.func8 (by kernel_rfl) rfl #[.agg #[.slice Ao42 t191.length co42, .slice Ao45 t194.length co45], .agg #[.slice Ao49 t199.length co49, .slice Ao50 t202.length co50]] (by rfl) rfl rfl zq ?_
    with_reducible refine (laws_eqGuest.calls k _ _ t191 _ _ t194 _ _ t199 _ _ t202 true _ ?side1 ?side2 ?side3 ?side4 ?side5 ?side6 ?side7 ?side8 A29.out).mono ?_
    (case side1 => exact zC ((Kd.R_reads' Ze.out).2.2))
    (case side2 => exact (Kd.R_reads' Ze.out).2.1)
    (case side3 => exact zC ((Kd.S_reads' Zf.out).2.2))
    (case side4 => exact (Kd.S_reads' Zf.out).2.1)
    (case side5 => exact zC ((Kd.R_reads' Zk.out).2.2))
    (case side6 => exact (Kd.R_reads' Zk.out).2.1)
    (case side7 => exact zC ((Kd.S_reads' Zl.out).2.2))
    (case side8 => exact (Kd.S_reads' Zl.out).2.1)
    rintro e w51 ⟨rfl, hb⟩
    refine ⟨_, rfl, ?_⟩
    have n0_ := zm (Kd.R_below (zg_3 Zb.out) hb)
    have n1_ := zm (Kd.S_below (zg_6 Zd.out) hb)
    have n2_ := zm (Kd.R_below (zg_3 Ze.out) hb)
    have n3_ := zm (Kd.S_below (zg_6 Zf.out) hb)
    have n4_ := zm (Kd.R_below (zg_3 Zk.out) hb)
    have n5_ := zm (Kd.S_below (zg_6 Zl.out) hb)
    have n6_ := zm (blk_below (g := gb182) (o := .cells #[.slice A0_0 l0_0.length c0_0, .slice A0_1 l0_1.length c0_1] 25 (0, 0)) (zg_1 Za.out) hb)
    have n7_ := zm (blk_below (g := gb197) (o := .cells #[.slice Ao42 t191.length co42, .slice Ao45 t194.length co45] 30 (0, 0)) (zg_1 Zc.out) hb)
    have n8_ := zm (below_step (zg_4 HB.out Zg.out Zi.out) hb)
    clear Zb
    clear Zd
    clear Ze
    clear Zf
    clear Zk
    clear Zl
    clear Za
    clear Zc
    clear HB
    have Zb := n0_
    have Zd := n1_
    have Ze := n2_
    have Zf := n3_
    have Zk := n4_
    have Zl := n5_
    have Za := n6_
    have Zc := n7_
    have HB := n8_
    clear n0_ n1_ n2_ n3_ n4_ n5_ n6_ n7_ n8_
    (try clear hb)
    (try clear hb2)
    (try clear hk)
    (try clear hi)
    refine hK.out _ _ ⟨(blk_cell Zc.out 0).trans rfl, (blk_cell Zc.out 1).trans rfl, (blk_cell Za.out 0).trans rfl, (blk_cell Za.out 1).trans rfl⟩ (fun hHeld => ?_)
    clear hK K
    refine norm_ (a' := ?_) ?_ ?_
    rotate_left
    ·show Act.put _ (some 25) _ = _
     simp only [Act.put, zs, zz, zt, i64_w, i32_w]
     rfl
    refine pure_ (i := 4) (N := some 26) (v := ?_) (a' := ?_) #[true, true, true, true, true] rfl rfl (by kernel_rfl) (fun _ _ _ h => h) (Or.inl ⟨by rfl, ?_⟩) ?_ ?_
    rotate_left
    ·intro w'
     go_simp
     with_reducible rfl
    rotate_left
    ·simp only [Act.put, zs, zz, zt, i64_w, i32_w]
     rfl
    refine done_ (by kernel_rfl) ?_
    try go_wp2
    go_ret
    exact ⟨by first | rfl | (simp [errW_none, errW_some] <;> rfl) | (simp [*, errW_none, errW_some] <;> rfl), zg_4 HB.out Zg.out Zi.out⟩
   ·replace c30 := Bool.eq_false_iff.mpr c30
    subst c30
    have H1 : (some false) = some r := by rw [if_neg (show ¬ (false = true) by decide)] at H; exact H
    clear H
    have H := H1
    clear H1
    obtain rfl := Option.some.inj H
    go_enter Try.func3, Try.ntmps3
    try go_wp2_with (first | ((with_reducible refine gate_dst (N := 1) rfl ?_); refine box_event ?hg (N := 1) ?hd (cs := #[.slice A0_0 l0_0.length c0_0, .slice A0_1 l0_1.length c0_1]) (t := 25) ?hr ?_; (case hd => rfl); (case hg => rfl); (case hr => first | (go_simp; done) | (go_simp; rfl)); intro gb182 hg w52 hbox hb; have n0_ := zm (below_step (zg_0 HB.out) hb); have n1_ := zm (hbox); have n2_ := zm ((by rw [hg]; exact (below_size (zg_0 HB.out)) : w.heap.size ≤ gb182)); have n3_ := zm ((by rw [hg]; exact (below_size (zg_0 HB.out)) : w.heap.size ≤ gb182)); clear HB; have HB := n0_; have Za := n1_; have Zq := n2_; have Zg := n3_; clear n0_ n1_ n2_ n3_; clear hb hbox hg; have hcz53_0 : w52.cell? ⟨gb182, 0, none⟩ = some (.slice A0_0 l0_0.length c0_0) := (blk_cell Za.out 0).trans rfl; have hcz53_1 : w52.cell? ⟨gb182, 1, none⟩ = some (.slice A0_1 l0_1.length c0_1) := (blk_cell Za.out 1).trans rfl; have hfz53_0 := blk_frozen Za.out 0; have hfz53_1 := blk_frozen Za.out 1) | ((with_reducible refine gate_callee (f := 4) rfl ?_); refine goesL_ (some 9) rfl rfl Try.func4 (by kernel_rfl) rfl #[.agg #[.slice A0_0 l0_0.length c0_0, .slice A0_1 l0_1.length c0_1], .int .i64 1048576] rfl zq ?_; (with_reducible refine (laws_szGuest.calls k _ _ l0_0 _ _ l0_1 1048576 t183 _ ?side1 ?side2 ?side3 ?side4 A2.out).mono ?_); (case side1 => exact zC (Kd.C_below Zm.out HB.out)); (case side2 => exact Zn.out); (case side3 => exact zC (Kd.C_below Zo.out HB.out)); (case side4 => exact Zp.out); rintro e w54 ⟨rfl, hb⟩; refine ⟨_, rfl, ?_⟩; have n0_ := zm (blk_below (g := gb182) (o := .cells #[.slice A0_0 l0_0.length c0_0, .slice A0_1 l0_1.length c0_1] 25 (0, 0)) (zg_1 Za.out) hb); have n1_ := zm (below_step (zg_2 HB.out Zg.out) hb); clear Za; clear HB; have Za := n0_; have HB := n1_; clear n0_ n1_; (try clear hb); (try clear hb2); (try clear hk); (try clear hi); have hcz55_0 : w54.cell? ⟨gb182, 0, none⟩ = some (.slice A0_0 l0_0.length c0_0) := (blk_cell Za.out 0).trans rfl; have hcz55_1 : w54.cell? ⟨gb182, 1, none⟩ = some (.slice A0_1 l0_1.length c0_1) := (blk_cell Za.out 1).trans rfl; have hfz55_0 := blk_frozen Za.out 0; have hfz55_1 := blk_frozen Za.out 1) | ((with_reducible refine gate_callee (f := 6) rfl ?_); refine goesL_ (some 13) rfl rfl Try.func6 (by kernel_rfl) rfl #[.agg #[.slice A0_0 l0_0.length c0_0, .slice A0_1 l0_1.length c0_1]] rfl zq ?_; (with_reducible refine (laws_toGuest.calls k _ _ l0_0 _ _ l0_1 t184 t187 _ ?side1 ?side2 ?side3 ?side4 A7.out).mono ?_); (case side1 => exact zC (Kd.C_below Zm.out HB.out)); (case side2 => exact Zn.out); (case side3 => exact zC (Kd.C_below Zo.out HB.out)); (case side4 => exact Zp.out); rintro e w56 ⟨v185, v188, rfl, ho0, ho1, hb⟩; refine ⟨_, rfl, ?_⟩; have n0_ := zm (Kd.R_lower ho0 (below_size (zg_2 HB.out Zg.out))); have n1_ := zm (Kd.S_lower ho1 (below_size (zg_2 HB.out Zg.out))); have n2_ := zm (blk_below (g := gb182) (o := .cells #[.slice A0_0 l0_0.length c0_0, .slice A0_1 l0_1.length c0_1] 25 (0, 0)) (zg_1 Za.out) hb); have n3_ := zm (below_step (zg_2 HB.out Zg.out) hb); clear Za; clear HB; have Zb := n0_; have Zd := n1_; have Za := n2_; have HB := n3_; clear n0_ n1_ n2_ n3_; (try clear hb); (try clear hb2); (try clear hk); (try clear hi); (try clear ho0); (try clear ho1); obtain ⟨Ao57, co57, eo57⟩ := Kd.R_slice Zb.out; subst eo57; obtain ⟨Ao58, co58, eo58⟩ := Kd.S_slice Zd.out; subst eo58) | ((with_reducible refine gate_callee (f := 5) rfl ?_); refine goesL_ (some 14) rfl rfl Try.func5 (by kernel_rfl) rfl #[.agg #[.slice Ao57 t184.length co57, .slice Ao58 t187.length co58]] rfl zq ?_; (with_reducible refine (spec_GuestOK.calls k _ _ t184 _ _ t187 t190 _ ?side1 ?side2 ?side3 ?side4 A8.out).mono ?_); (case side1 => exact zC ((Kd.R_reads' Zb.out).2.2)); (case side2 => exact (Kd.R_reads' Zb.out).2.1); (case side3 => exact zC ((Kd.S_reads' Zd.out).2.2)); (case side4 => exact (Kd.S_reads' Zd.out).2.1); rintro e w59 ⟨rfl, hb⟩; refine ⟨_, rfl, ?_⟩; have n0_ := zm (Kd.R_below (zg_3 Zb.out) hb); have n1_ := zm (Kd.S_below (zg_6 Zd.out) hb); have n2_ := zm (blk_below (g := gb182) (o := .cells #[.slice A0_0 l0_0.length c0_0, .slice A0_1 l0_1.length c0_1] 25 (0, 0)) (zg_1 Za.out) hb); have n3_ := zm (below_step (zg_2 HB.out Zg.out) hb); clear Zb; clear Zd; clear Za; clear HB; have Zb := n0_; have Zd := n1_; have Za := n2_; have HB := n3_; clear n0_ n1_ n2_ n3_; (try clear hb); (try clear hb2); (try clear hk); (try clear hi); have hcz60_0 : w59.cell? ⟨gb182, 0, none⟩ = some (.slice A0_0 l0_0.length c0_0) := (blk_cell Za.out 0).trans rfl; have hcz60_1 : w59.cell? ⟨gb182, 1, none⟩ = some (.slice A0_1 l0_1.length c0_1) := (blk_cell Za.out 1).trans rfl; have hfz60_0 := blk_frozen Za.out 0; have hfz60_1 := blk_frozen Za.out 1) | ((with_reducible refine gate_callee (f := 6) rfl ?_); refine goesL_ (some 16) rfl rfl Try.func6 (by kernel_rfl) rfl #[.agg #[.slice A0_0 l0_0.length c0_0, .slice A0_1 l0_1.length c0_1]] rfl zq ?_; (with_reducible refine (laws_toGuest.calls k _ _ l0_0 _ _ l0_1 t191 t194 _ ?side1 ?side2 ?side3 ?side4 A9.out).mono ?_); (case side1 => exact zC (Kd.C_below Zm.out HB.out)); (case side2 => exact Zn.out); (case side3 => exact zC (Kd.C_below Zo.out HB.out)); (case side4 => exact Zp.out); rintro e w61 ⟨v192, v195, rfl, ho0, ho1, hb⟩; refine ⟨_, rfl, ?_⟩; have n0_ := zm (Kd.R_elder' (zg_3 Zb.out) (Kd.R_base ho0) hb); have n1_ := zm (Kd.S_mono (Kd.S_told (Kd.S_told (Kd.S_old (zg_6 Zd.out) hb) (Kd.R_base ho0)) (Kd.S_base ho1)) (fun _ h_ => h_.1)); have n2_ := zm (Kd.R_lower (Kd.R_new' ho0 (Kd.R_lt (zg_3 Zb.out))) (below_size (zg_2 HB.out Zg.out))); have n3_ := zm (Kd.S_lower (Kd.S_new' (Kd.S_new' ho1 (Kd.R_lt (zg_3 Zb.out))) (Kd.S_lt (zg_6 Zd.out))) (below_size (zg_2 HB.out Zg.out))); have n4_ := zm (blk_below (g := gb182) (o := .cells #[.slice A0_0 l0_0.length c0_0, .slice A0_1 l0_1.length c0_1] 25 (0, 0)) (zg_1 Za.out) hb); have n5_ := zm (below_step (zg_2 HB.out Zg.out) hb); clear Zb; clear Zd; clear Za; clear HB; have Zb := n0_; have Zd := n1_; have Ze := n2_; have Zf := n3_; have Za := n4_; have HB := n5_; clear n0_ n1_ n2_ n3_ n4_ n5_; (try clear hb); (try clear hb2); (try clear hk); (try clear hi); (try clear ho0); (try clear ho1)) | ((with_reducible refine gate_dst (N := 5) rfl ?_); refine box_event ?hg (N := 5) ?hd (cs := #[.slice none 0 0, .slice none 0 0]) (t := 30) ?hr ?_; (case hd => rfl); (case hg => rfl); (case hr => first | (go_simp; done) | (go_simp; rfl)); intro gb197 hg w62 hbox hb; have n0_ := zm (Kd.R_below (zg_3 Zb.out) hb); have n1_ := zm (Kd.S_below (zg_6 Zd.out) hb); have n2_ := zm (Kd.R_below (zg_3 Ze.out) hb); have n3_ := zm (Kd.S_below (zg_6 Zf.out) hb); have n4_ := zm (blk_below (g := gb182) (o := .cells #[.slice A0_0 l0_0.length c0_0, .slice A0_1 l0_1.length c0_1] 25 (0, 0)) (zg_1 Za.out) hb); have n5_ := zm (below_step (zg_2 HB.out Zg.out) hb); have n6_ := zm (hbox); have n7_ := zm ((by rw [hg]; exact (below_size (zg_2 HB.out Zg.out)) : w.heap.size ≤ gb197)); have n8_ := zm ((by rw [hg]; exact (below_size (zg_2 HB.out Zg.out)) : w.heap.size ≤ gb197)); have n9_ := zm ((by rw [hg]; exact Nat.ne_of_lt (blk_lt (g := gb182) (o := .cells #[.slice A0_0 l0_0.length c0_0, .slice A0_1 l0_1.length c0_1] 25 (0, 0)) (zg_1 Za.out)) : gb182 ≠ gb197)); have n10_ := zm ((by rw [hg]; exact Nat.ne_of_gt (blk_lt (g := gb182) (o := .cells #[.slice A0_0 l0_0.length c0_0, .slice A0_1 l0_1.length c0_1] 25 (0, 0)) (zg_1 Za.out)) : gb197 ≠ gb182)); clear Zb; clear Zd; clear Ze; clear Zf; clear Za; clear HB; have Zb := n0_; have Zd := n1_; have Ze := n2_; have Zf := n3_; have Za := n4_; have HB := n5_; have Zc := n6_; have Zr := n7_; have Zi := n8_; have Zh := n9_; have Zj := n10_; clear n0_ n1_ n2_ n3_ n4_ n5_ n6_ n7_ n8_ n9_ n10_; clear hb hbox hg; obtain ⟨Ao63, co63, eo63⟩ := Kd.R_slice Ze.out; subst eo63; have hnb64 := Zj.out; have hnc64 := Zh.out; have hcz65_0 : w62.cell? ⟨gb197, 0, none⟩ = some (.slice none 0 0) := (blk_cell Zc.out 0).trans rfl; have hcz65_1 : w62.cell? ⟨gb197, 1, none⟩ = some (.slice none 0 0) := (blk_cell Zc.out 1).trans rfl; have hfz65_0 := blk_frozen Zc.out 0; have hfz65_1 := blk_frozen Zc.out 1; obtain ⟨Ao66, co66, eo66⟩ := Kd.S_slice Zf.out; subst eo66) | ((with_reducible refine gate_callee (f := 7) rfl ?_); refine goesL_ (some 18) rfl rfl Try.func7 (by kernel_rfl) rfl #[.agg #[.slice Ao63 t191.length co63, .slice Ao66 t194.length co66]] rfl zq ?_; (with_reducible refine (impl_GuestOK.calls k _ _ t191 _ _ t194 t198 _ ?side1 ?side2 ?side3 ?side4 A10.out).mono ?_); (case side1 => refine (Kd.R_reads' (e := 3) (base := w.heap.size) (ok := fun k_ => (True ∧ some k_ ≠ (.slice Ao57 t184.length co57 : Value).ownBlock)) (n := t191.length) (c := co63) ?_).2.2; exact (by (with_reducible repeat (first | apply Kd.R_alloc | apply Kd.R_drewN | apply Kd.R_drew)); exact (Kd.R_mono (Kd.R_far (p := ⟨gb197, 1, none⟩) (Kd.R_far (p := ⟨gb197, 0, none⟩) (Kd.R_types Ze.out Zc.out (by decide)) (fun _ hk => hk.2) (.slice Ao63 t191.length co63)) (fun _ hk => hk.2) (.slice Ao66 t194.length co66)) (fun _ h_ => h_.1)))); (case side2 => exact (Kd.R_reads' Ze.out).2.1); (case side3 => refine (Kd.S_reads' (e := 39) (base := w.heap.size) (ok := fun k_ => ((some k_ ≠ (.slice Ao63 t191.length co63 : Value).ownBlock ∧ some k_ ≠ (.slice Ao57 t184.length co57 : Value).ownBlock) ∧ some k_ ≠ (.slice Ao58 t187.length co58 : Value).ownBlock)) (n := t194.length) (c := co66) ?_).2.2; exact (by (with_reducible repeat (first | apply Kd.S_alloc | apply Kd.S_drewN | apply Kd.S_drew)); exact (Kd.S_mono (Kd.S_far (p := ⟨gb197, 1, none⟩) (Kd.S_far (p := ⟨gb197, 0, none⟩) (Kd.S_types Zf.out Zc.out (by decide)) (fun _ hk => hk.2) (.slice Ao63 t191.length co63)) (fun _ hk => hk.2) (.slice Ao66 t194.length co66)) (fun _ h_ => h_.1)))); (case side4 => exact (Kd.S_reads' Zf.out).2.1); rintro e w67 ⟨rfl, hb⟩; refine ⟨_, rfl, ?_⟩; have n0_ := zm (Kd.R_below (by (with_reducible repeat (first | apply Kd.R_alloc | apply Kd.R_drewN | apply Kd.R_drew)); exact (Kd.R_mono (Kd.R_far (p := ⟨gb197, 1, none⟩) (Kd.R_far (p := ⟨gb197, 0, none⟩) (Kd.R_types Zb.out Zc.out (by decide)) (fun _ hk => hk.2) (.slice Ao63 t191.length co63)) (fun _ hk => hk.2) (.slice Ao66 t194.length co66)) (fun _ h_ => h_.1))) hb); have n1_ := zm (Kd.S_below (by (with_reducible repeat (first | apply Kd.S_alloc | apply Kd.S_drewN | apply Kd.S_drew)); exact (Kd.S_mono (Kd.S_far (p := ⟨gb197, 1, none⟩) (Kd.S_far (p := ⟨gb197, 0, none⟩) (Kd.S_types Zd.out Zc.out (by decide)) (fun _ hk => hk.2) (.slice Ao63 t191.length co63)) (fun _ hk => hk.2) (.slice Ao66 t194.length co66)) (fun _ h_ => h_.1))) hb); have n2_ := zm (Kd.R_below (by (with_reducible repeat (first | apply Kd.R_alloc | apply Kd.R_drewN | apply Kd.R_drew)); exact (Kd.R_mono (Kd.R_far (p := ⟨gb197, 1, none⟩) (Kd.R_far (p := ⟨gb197, 0, none⟩) (Kd.R_types Ze.out Zc.out (by decide)) (fun _ hk => hk.2) (.slice Ao63 t191.length co63)) (fun _ hk => hk.2) (.slice Ao66 t194.length co66)) (fun _ h_ => h_.1))) hb); have n3_ := zm (Kd.S_below (by (with_reducible repeat (first | apply Kd.S_alloc | apply Kd.S_drewN | apply Kd.S_drew)); exact (Kd.S_mono (Kd.S_far (p := ⟨gb197, 1, none⟩) (Kd.S_far (p := ⟨gb197, 0, none⟩) (Kd.S_types Zf.out Zc.out (by decide)) (fun _ hk => hk.2) (.slice Ao63 t191.length co63)) (fun _ hk => hk.2) (.slice Ao66 t194.length co66)) (fun _ h_ => h_.1))) hb); have n4_ := zm (blk_below (g := gb182) (o := .cells #[.slice A0_0 l0_0.length c0_0, .slice A0_1 l0_1.length c0_1] 25 (0, 0)) (by (with_reducible repeat (first | refine blk_drewN ?_ _ | refine blk_drew ?_ | refine blk_alloc ?_ _)); refine blk_far ?_ Zh.out _; (with_reducible repeat (first | refine blk_drewN ?_ _ | refine blk_drew ?_ | refine blk_alloc ?_ _)); refine blk_far ?_ Zh.out _; (with_reducible repeat (first | refine blk_drewN ?_ _ | refine blk_drew ?_ | refine blk_alloc ?_ _)); exact Za.out) hb); have n5_ := zm (blk_below (g := gb197) (o := .cells #[.slice Ao63 t191.length co63, .slice Ao66 t194.length co66] 30 (0, 0)) (by (with_reducible repeat (first | refine blk_drewN ?_ _ | refine blk_drew ?_ | refine blk_alloc ?_ _)); refine blk_put (cs := #[.slice Ao63 t191.length co63, .slice none 0 0]) ?_ 1 _ rfl; (with_reducible repeat (first | refine blk_drewN ?_ _ | refine blk_drew ?_ | refine blk_alloc ?_ _)); refine blk_put (cs := #[.slice none 0 0, .slice none 0 0]) ?_ 0 _ rfl; (with_reducible repeat (first | refine blk_drewN ?_ _ | refine blk_drew ?_ | refine blk_alloc ?_ _)); exact Zc.out) hb); have n6_ := zm (below_step (zg_4 HB.out Zg.out Zi.out) hb); clear Zb; clear Zd; clear Ze; clear Zf; clear Za; clear Zc; clear HB; have Zb := n0_; have Zd := n1_; have Ze := n2_; have Zf := n3_; have Za := n4_; have Zc := n5_; have HB := n6_; clear n0_ n1_ n2_ n3_ n4_ n5_ n6_; (try clear hb); (try clear hb2); (try clear hk); (try clear hi)))
    have n0_ := zm (Kd.R_drew Zb.out)
    have n1_ := zm (Kd.S_drew Zd.out)
    have n2_ := zm (Kd.R_drew Ze.out)
    have n3_ := zm (Kd.S_drew Zf.out)
    have n4_ := zm (blk_drew Za.out)
    have n5_ := zm (blk_drew Zc.out)
    have n6_ := zm (below_drew1 HB.out)
    clear Zb
    clear Zd
    clear Ze
    clear Zf
    clear Za
    clear Zc
    clear HB
    have Zb := n0_
    have Zd := n1_
    have Ze := n2_
    have Zf := n3_
    have Za := n4_
    have Zc := n5_
    have HB := n6_
    clear n0_ n1_ n2_ n3_ n4_ n5_ n6_
    refine start_ (n := 5) (S := fun w' => w'.cell? ⟨gb197, 0, none⟩ = some (.slice Ao63 t191.length co63) ∧ w'.cell? ⟨gb197, 1, none⟩ = some (.slice Ao66 t194.length co66) ∧ w'.cell? ⟨gb182, 0, none⟩ = some (.slice A0_0 l0_0.length c0_0) ∧ w'.cell? ⟨gb182, 1, none⟩ = some (.slice A0_1 l0_1.length c0_1)) (ds := []) #[false, false, false, false, false] (by kernel_rfl) rfl rfl ⟨(blk_cell Zc.out 0).trans rfl, (blk_cell Zc.out 1).trans rfl, (blk_cell Za.out 0).trans rfl, (blk_cell Za.out 1).trans rfl⟩ (fun hHeld => ?_)
    generalize w67.drew = w68 at Zb Zd Ze Zf Za Zc HB hHeld ⊢
    refine take_ (i := 0) (N := some 22) (v := ?_) (a' := ?_) #[true, false, false, false, false] rfl rfl (by kernel_rfl) (fun _ _ _ h => h) (Or.inl ⟨by rfl, ?_⟩) hHeld ?_ ?_
    rotate_left
    ·rintro w' ⟨s0, s1, s2, s3⟩
     go_simp
     with_reducible rfl
    rotate_left
    ·simp only [Act.put, zs, zz, zt, i64_w, i32_w]
     rfl
    refine take_ (i := 1) (N := some 23) (v := ?_) (a' := ?_) #[true, true, false, false, false] rfl rfl (by kernel_rfl) (fun _ _ _ h => h) (Or.inl ⟨by rfl, ?_⟩) hHeld ?_ ?_
    rotate_left
    ·rintro w' ⟨s0, s1, s2, s3⟩
     go_simp
     with_reducible rfl
    rotate_left
    ·simp only [Act.put, zs, zz, zt, i64_w, i32_w]
     rfl
    refine one_ (i := 2) (N := some 24) #[true, true, true, false, false] rfl rfl (by kernel_rfl) (by decide) (fun K hK => ?_)
    refine goes_ Try.func6 (by kernel_rfl) rfl #[.agg #[.slice A0_0 l0_0.length c0_0, .slice A0_1 l0_1.length c0_1]] (by rfl) rfl rfl zq ?_
    with_reducible refine (laws_toGuest.calls k _ _ l0_0 _ _ l0_1 t199 t202 _ ?side1 ?side2 ?side3 ?side4 A28.out).mono ?_
    (case side1 => exact zC (Kd.C_below Zm.out HB.out))
    (case side2 => exact Zn.out)
    (case side3 => exact zC (Kd.C_below Zo.out HB.out))
    (case side4 => exact Zp.out)
    rintro e w69 ⟨v200, v203, rfl, ho0, ho1, hb⟩
    refine ⟨_, rfl, ?_⟩
    have n0_ := zm (Kd.R_elder' (zg_3 Zb.out) (Kd.R_base ho0) hb)
    have n1_ := zm (Kd.S_mono (Kd.S_told (Kd.S_told (Kd.S_old (zg_6 Zd.out) hb) (Kd.R_base ho0)) (Kd.S_base ho1)) (fun _ h_ => h_.1))
    have n2_ := zm (Kd.R_elder' (zg_3 Ze.out) (Kd.R_base ho0) hb)
    have n3_ := zm (Kd.S_mono (Kd.S_told (Kd.S_told (Kd.S_old (zg_6 Zf.out) hb) (Kd.R_base ho0)) (Kd.S_base ho1)) (fun _ h_ => h_.1))
    have n4_ := zm (Kd.R_lower (Kd.R_new' (Kd.R_new' ho0 (Kd.R_lt (zg_3 Zb.out))) (Kd.R_lt (zg_3 Ze.out))) (below_size (zg_4 HB.out Zg.out Zi.out)))
    have n5_ := zm (Kd.S_lower (Kd.S_new' (Kd.S_new' (Kd.S_new' (Kd.S_new' ho1 (Kd.R_lt (zg_3 Zb.out))) (Kd.S_lt (zg_6 Zd.out))) (Kd.R_lt (zg_3 Ze.out))) (Kd.S_lt (zg_6 Zf.out))) (below_size (zg_4 HB.out Zg.out Zi.out)))
    have n6_ := zm (blk_below (g := gb182) (o := .cells #[.slice A0_0 l0_0.length c0_0, .slice A0_1 l0_1.length c0_1] 25 (0, 0)) (zg_1 Za.out) hb)
    have n7_ := zm (blk_below (g := gb197) (o := .cells #[.slice Ao63 t191.length co63, .slice Ao66 t194.length co66] 30 (0, 0)) (zg_1 Zc.out) hb)
    have n8_ := zm (below_step (zg_4 HB.out Zg.out Zi.out) hb)
    clear Zb
    clear Zd
    clear Ze
    clear Zf
    clear Za
    clear Zc
    clear HB
    have Zb := n0_
    have Zd := n1_
    have Ze := n2_
    have Zf := n3_
    have Zk := n4_
    have Zl := n5_
    have Za := n6_
    have Zc := n7_
    have HB := n8_
    clear n0_ n1_ n2_ n3_ n4_ n5_ n6_ n7_ n8_
    (try clear hb)
    (try clear hb2)
    (try clear hk)
    (try clear hi)
    (try clear ho0)
    (try clear ho1)
    obtain ⟨Ao70, co70, eo70⟩ := Kd.R_slice Zk.out
    (first | subst eo70 | (injection eo70 with f1_ f2_ f3_; have f4_ := f1_.symm; have f5_ := f3_.symm; clear f1_ f2_ f3_; subst f4_; subst f5_))
    obtain ⟨Ao71, co71, eo71⟩ := Kd.S_slice Zl.out
    (first | subst eo71 | (injection eo71 with f1_ f2_ f3_; have f4_ := f1_.symm; have f5_ := f3_.symm; clear f1_ f2_ f3_; subst f4_; subst f5_))
    refine hK.out _ _ ⟨(blk_cell Zc.out 0).trans rfl, (blk_cell Zc.out 1).trans rfl, (blk_cell Za.out 0).trans rfl, (blk_cell Za.out 1).trans rfl⟩ (fun hHeld => ?_)
    clear hK K
    refine norm_ (a' := ?_) ?_ ?_
    rotate_left
    ·show Act.put _ (some 24) _ = _
     simp only [Act.put, zs, zz, zt, i64_w, i32_w]
     rfl
    refine one_ (i := 3) (N := some 25) #[true, true, true, true, false] rfl rfl (by kernel_rfl) (by decide) (fun K hK => ?_)
    refine goes_ Try.func8 (by kernel_rfl) rfl #[.agg #[.slice Ao63 t191.length co63, .slice Ao66 t194.length co66], .agg #[.slice Ao70 t199.length co70, .slice Ao71 t202.length co71]] (by rfl) rfl rfl zq ?_
    with_reducible refine (laws_eqGuest.calls k _ _ t191 _ _ t194 _ _ t199 _ _ t202 false _ ?side1 ?side2 ?side3 ?side4 ?side5 ?side6 ?side7 ?side8 A29.out).mono ?_
    (case side1 => exact zC ((Kd.R_reads' Ze.out).2.2))
    (case side2 => exact (Kd.R_reads' Ze.out).2.1)
    (case side3 => exact zC ((Kd.S_reads' Zf.out).2.2))
    (case side4 => exact (Kd.S_reads' Zf.out).2.1)
    (case side5 => exact zC ((Kd.R_reads' Zk.out).2.2))
    (case side6 => exact (Kd.R_reads' Zk.out).2.1)
    (case side7 => exact zC ((Kd.S_reads' Zl.out).2.2))
    (case side8 => exact (Kd.S_reads' Zl.out).2.1)
    rintro e w72 ⟨rfl, hb⟩
    refine ⟨_, rfl, ?_⟩
    have n0_ := zm (Kd.R_below (zg_3 Zb.out) hb)
    have n1_ := zm (Kd.S_below (zg_6 Zd.out) hb)
    have n2_ := zm (Kd.R_below (zg_3 Ze.out) hb)
    have n3_ := zm (Kd.S_below (zg_6 Zf.out) hb)
    have n4_ := zm (Kd.R_below (zg_3 Zk.out) hb)
    have n5_ := zm (Kd.S_below (zg_6 Zl.out) hb)
    have n6_ := zm (blk_below (g := gb182) (o := .cells #[.slice A0_0 l0_0.length c0_0, .slice A0_1 l0_1.length c0_1] 25 (0, 0)) (zg_1 Za.out) hb)
    have n7_ := zm (blk_below (g := gb197) (o := .cells #[.slice Ao63 t191.length co63, .slice Ao66 t194.length co66] 30 (0, 0)) (zg_1 Zc.out) hb)
    have n8_ := zm (below_step (zg_4 HB.out Zg.out Zi.out) hb)
    clear Zb
    clear Zd
    clear Ze
    clear Zf
    clear Zk
    clear Zl
    clear Za
    clear Zc
    clear HB
    have Zb := n0_
    have Zd := n1_
    have Ze := n2_
    have Zf := n3_
    have Zk := n4_
    have Zl := n5_
    have Za := n6_
    have Zc := n7_
    have HB := n8_
    clear n0_ n1_ n2_ n3_ n4_ n5_ n6_ n7_ n8_
    (try clear hb)
    (try clear hb2)
    (try clear hk)
    (try clear hi)
    refine hK.out _ _ ⟨(blk_cell Zc.out 0).trans rfl, (blk_cell Zc.out 1).trans rfl, (blk_cell Za.out 0).trans rfl, (blk_cell Za.out 1).trans rfl⟩ (fun hHeld => ?_)
    clear hK K
    refine norm_ (a' := ?_) ?_ ?_
    rotate_left
    ·show Act.put _ (some 25) _ = _
     simp only [Act.put, zs, zz, zt, i64_w, i32_w]
     rfl
    refine pure_ (i := 4) (N := some 26) (v := ?_) (a' := ?_) #[true, true, true, true, true] rfl rfl (by kernel_rfl) (fun _ _ _ h => h) (Or.inl ⟨by rfl, ?_⟩) ?_ ?_
    rotate_left
    ·intro w'
     go_simp
     with_reducible rfl
    rotate_left
    ·simp only [Act.put, zs, zz, zt, i64_w, i32_w]
     rfl
    refine done_ (by kernel_rfl) ?_
    try go_wp2
    go_ret
    exact ⟨by first | rfl | (simp [errW_none, errW_some] <;> rfl) | (simp [*, errW_none, errW_some] <;> rfl), zg_4 HB.out Zg.out Zi.out⟩
/-! ### Base -/
def okI (x : Int) : Prop := (Lit.int .i64 x).wf = true
def okU8 (x : Int) : Prop := (Lit.int .u8 x).wf = true
def okB (_ : Bool) : Prop := True
def okS (x : ByteArray) : Prop := x.size ≤ maxLen
theorem w64 {n : Int} (h0 : -9223372036854775808 ≤ n) (h1 : n ≤ 9223372036854775807) : wrap64 n = n := by unfold wrap64; omega
theorem okI_iff {n : Int} (h : (Lit.int .i64 n).wf = true) : -9223372036854775808 ≤ n ∧ n ≤ 9223372036854775807 := by
  simp [Lit.wf, IntKind.min, IntKind.max, IntKind.signed, IntKind.bits] at h
  omega
theorem Ev.k {α : Type} {g : Nat → Option α} {r : α} (K : Nat) (h : ∀ k, K ≤ k → g k = some r) : Ev g r := ⟨K, h⟩
theorem ev_some {α : Type} (r : α) : Ev (fun _ => some r) r := ⟨0, fun _ _ => rfl⟩
theorem ev_of_eq {α : Type} {g : Nat → Option α} {r : α} (h : ∀ k, g k = some r) : Ev g r := ⟨0, fun k _ => h k⟩
theorem ev_bind {α β : Type} {g : Nat → Option α} {f : Nat → α → Option β} {a : α} {r : β} (h : Ev g a) (k : Ev (fun n => f n a) r) : Ev (fun n => (g n).bind (f n)) r := Ev.bind h k
theorem ev_if {α : Type} {c : Prop} [Decidable c] {g f : Nat → Option α} {r : α} (h : c → Ev g r) (h' : ¬ c → Ev f r) : Ev (fun n => if c then g n else f n) r := by
  by_cases hc : c
  · simp only [if_pos hc]; exact h hc
  · simp only [if_neg hc]; exact h' hc
theorem ev_pos {α : Type} {c : Prop} [Decidable c] {g f : Nat → Option α} {r : α} (hc : c) (h : Ev g r) : Ev (fun n => if c then g n else f n) r := by
  simp only [if_pos hc]; exact h
theorem ev_neg {α : Type} {c : Prop} [Decidable c] {g f : Nat → Option α} {r : α} (hc : ¬ c) (h : Ev f r) : Ev (fun n => if c then g n else f n) r := by
  simp only [if_neg hc]; exact h
theorem strOfNums_size (l : List Int) : (strOfNums l).size = l.length := by show (List.map _ l).toArray.size = _; simp
theorem ba_size_append (a b : ByteArray) : (a ++ b).size = a.size + b.size := by simp
theorem toList_inj {a b : ByteArray} : a.toList = b.toList ↔ a = b := by
  constructor
  · intro h
    have h1 : a.data.toList = b.data.toList := by simpa [ByteArray.toList_eq] using h
    have : a.data = b.data := Array.toList_inj.1 h1
    cases a; cases b; simp_all
  · rintro rfl; rfl
/-! ### In -/
def inB (n a b : Int) : Bool := decide (a ≤ n) && decide (n ≤ b)
theorem inB_iff {n a b : Int} : inB n a b = true ↔ a ≤ n ∧ n ≤ b := by simp [inB]
theorem inB_no {n a b : Int} : inB n a b = false ↔ ¬ (a ≤ n ∧ n ≤ b) := by rw [← inB_iff]; simp
theorem l01In_eq (n a b : Int) : spec_l01In.f n a b = some (inB n a b) := by
  unfold spec_l01In.f inB; by_cases h : a ≤ n <;> simp [h]
theorem within_eq (n a b : Int) : impl_within.f n a b = some (inB n a b) := by
  unfold impl_within.f inB; by_cases h : a ≤ n <;> simp [h]
theorem and_opt {b : Bool} {c : Option Bool} {c' : Bool} (h : c = some c') : (if b = true then c else some false) = some (b && c') := by
  cases b <;> simp [h]
/-! ### Mark -/
theorem ev_loop {α : Type} {g : Nat → Nat → Option α} {r : α} (n : Nat) (hend : Ev (fun k => g k n) r) (hstep : ∀ i, i < n → ∃ c, ∀ k, g (k + c) i = g k (i + 1) ∧ 1 ≤ c) : ∀ d i, i ≤ n → n - i = d → Ev (fun k => g k i) r := by
  intro d
  induction d with
  | zero =>
    intro i hi hd
    have e : i = n := by omega
    rw [e]; exact hend
  | succ d ih =>
    intro i hi hd
    obtain ⟨K, hK⟩ := ih (i + 1) (by omega) (by omega)
    obtain ⟨c, hc⟩ := hstep i (by omega)
    refine ⟨K + c, fun k hk => ?_⟩
    obtain ⟨m, rfl⟩ : ∃ m, k = m + c := ⟨k - c, by omega⟩
    show g (m + c) i = _
    rw [(hc m).1]; exact hK m (by omega)
theorem rdn (l : List Int) (i : Nat) (h : i < l.length) : rd l (i : Int) = l[i] := by simp [rd, h]
theorem wnext (i : Nat) (h : i < 1000000000000000000) : wrap64 ((i : Int) + 1) = ((i + 1 : Nat) : Int) := by rw [w64 (by omega) (by omega)]; omega
theorem eqIntS_ev (l : List Int) (hl : l.length ≤ 1000000000) : Ev (fun k => laws_eqIntS.f k l l) true := by
  unfold laws_eqIntS.f
  refine ev_pos rfl ?_
  refine ev_loop (g := fun k i => laws_eqIntS.l0 k l l (i : Int)) l.length ?_ ?_ l.length 0 (by omega) (by omega)
  · refine Ev.step (f := fun _ => some true) (fun k => ?_) (ev_some _)
    simp only [laws_eqIntS.l0]; rw [if_neg (by omega)]
  · intro i hi
    refine ⟨1, fun k => ⟨?_, by omega⟩⟩
    simp only [laws_eqIntS.l0]
    rw [if_pos (by omega), if_pos (by omega), if_pos (by omega), if_pos trivial, wnext i (by omega)]
/-- Consecutive numbers from a on, as many as a list has. -/
def countUp (a : Int) (n : Nat) : List Int := (List.range n).map (fun j : Nat => a + (j : Int))
theorem countUp_length (a : Int) (n : Nat) : (countUp a n).length = n := by simp [countUp]
theorem countUp_get (a : Int) (n i : Nat) (h : i < n) : (countUp a n)[i]'(by rw [countUp_length]; exact h) = a + (i : Int) := by simp [countUp]
theorem set_mid {α : Type} (l m : List α) (hlm : m.length = l.length) (i : Nat) (h : i < l.length) (x : α) (hx : m[i]'(by omega) = x) : (m.take i ++ l.drop i).set i x = m.take (i + 1) ++ l.drop (i + 1) := by
  subst hx
  rw [List.drop_eq_getElem_cons h, List.set_append_right _ _ (by rw [List.length_take]; omega)]
  have : i - (m.take i).length = 0 := by rw [List.length_take]; omega
  rw [this, List.set_cons_zero, List.take_succ_eq_append_getElem (by omega), List.append_assoc]
  rfl
/-! ### Ev -/
theorem Ev.succ {α : Type} {g : Nat → Option α} {r : α} (h : Ev (fun k => g (k + 1)) r) : Ev g r := Ev.step (f := fun k => g (k + 1)) (fun _ => rfl) h
theorem ev_all {α : Type} {g : Nat → Nat → Option Bool} (l : List α) (q : α → Bool) (r : Bool) (hend : Ev (fun k => g k l.length) r) (hstep : ∀ i (h : i < l.length) k, g (k + 1) i = if q l[i] = true then g k (i + 1) else some false) : Ev (fun k => g k 0) (l.all q && r) := by
  have hgo : ∀ d i, i ≤ l.length → l.length - i = d → Ev (fun k => g k i) ((l.drop i).all q && r) := by
    intro d
    induction d with
    | zero =>
      intro i hi hd
      have e : i = l.length := by omega
      subst e
      rw [List.drop_of_length_le (by omega)]; simp only [List.all_nil, Bool.true_and]; exact hend
    | succ d ih =>
      intro i hi hd
      have hlt : i < l.length := by omega
      refine Ev.step (f := fun k => if q l[i] = true then g k (i + 1) else some false) (hstep i hlt) ?_
      rw [List.drop_eq_getElem_cons hlt, List.all_cons]
      cases hq : q l[i]
      · simp only [Bool.false_and, Bool.false_eq_true, if_false]; exact ev_some _
      · simp only [Bool.true_and, if_true]; exact ih (i + 1) (by omega) (by omega)
  have := hgo l.length 0 (by omega) (by omega)
  rwa [List.drop_zero] at this
theorem ev_asks {α β : Type} {g : Nat → Nat → Option β} (l : List α) (q : α → Bool) (r bad : β) (hend : Ev (fun k => g k l.length) r) (hstep : ∀ i (h : i < l.length) k, g (k + 1) i = if q l[i] = true then g k (i + 1) else some bad) : Ev (fun k => g k 0) (if l.all q = true then r else bad) := by
  have hgo : ∀ d i, i ≤ l.length → l.length - i = d → Ev (fun k => g k i) (if (l.drop i).all q = true then r else bad) := by
    intro d
    induction d with
    | zero =>
      intro i hi hd
      have e : i = l.length := by omega
      subst e
      rw [List.drop_of_length_le (by omega)]; simp only [List.all_nil, if_true]; exact hend
    | succ d ih =>
      intro i hi hd
      have hlt : i < l.length := by omega
      refine Ev.step (f := fun k => if q l[i] = true then g k (i + 1) else some bad) (hstep i hlt) ?_
      rw [List.drop_eq_getElem_cons hlt, List.all_cons]
      cases hq : q l[i]
      · simp only [Bool.false_and, Bool.false_eq_true, if_false]; exact ev_some _
      · simp only [Bool.true_and, if_true]; exact ih (i + 1) (by omega) (by omega)
  have := hgo l.length 0 (by omega) (by omega)
  rwa [List.drop_zero] at this
/-- A loop that asks each element in turn, each question with rounds of its own. -/
theorem ev_asksE {α β : Type} {g : Nat → Nat → Option β} (l : List α) (q : α → Bool) (r bad : β) (hend : l.all q = true → Ev (fun k => g k l.length) r)
    (hstep : ∀ i (h : i < l.length), (q l[i] = true → Ev (fun k => g k (i + 1)) (if (l.drop (i + 1)).all q = true then r else bad) → Ev (fun k => g k i) (if (l.drop (i + 1)).all q = true then r else bad)) ∧ (q l[i] = false → Ev (fun k => g k i) bad)) : Ev (fun k => g k 0) (if l.all q = true then r else bad) := by
  have key : ∀ d i, i ≤ l.length → l.length - i = d → (l.take i).all q = true → Ev (fun k => g k i) (if (l.drop i).all q = true then r else bad) := by
    intro d
    induction d with
    | zero =>
      intro i hi hd ht
      have e : i = l.length := by omega
      subst e
      rw [List.take_length] at ht
      rw [List.drop_length, List.all_nil, if_pos rfl]
      exact hend ht
    | succ d ih =>
      intro i hi hd ht
      have hlt : i < l.length := by omega
      rw [List.drop_eq_getElem_cons hlt, List.all_cons]
      cases hq : q l[i] with
      | false => simpa using (hstep i hlt).2 hq
      | true =>
        rw [Bool.true_and]
        refine (hstep i hlt).1 hq (ih (i + 1) (by omega) (by omega) ?_)
        rw [List.take_succ_eq_append_getElem hlt, List.all_append, ht]
        simp [hq]
  simpa using key l.length 0 (by omega) (by omega) (by simp)
/-! ### Compact -/
theorem compact_full (zs : List (List UInt8)) : (Lib.compact zs).length = zs.length ↔ ∀ j, j < zs.length → Lib.keeps zs.toArray j = true := by
  unfold Lib.compact Lib.compactUpTo
  rw [List.length_map]
  constructor
  · intro h j hj
    have h2 : ((List.range zs.length).filter (Lib.keeps zs.toArray)).length = (List.range zs.length).length := by rw [h, List.length_range]
    exact (List.length_filter_eq_length_iff.1 h2) j (List.mem_range.2 hj)
  · intro h
    have : ((List.range zs.length).filter (Lib.keeps zs.toArray)).length = (List.range zs.length).length := List.length_filter_eq_length_iff.2 (fun j hj => h j (List.mem_range.1 hj))
    rw [this, List.length_range]
theorem sorted_nodup (ss : List (List UInt8)) : (Lib.compact (ss.mergeSort fun x y => decide (x ≤ y))).length = ss.length ↔ ss.Nodup := by
  have hp := List.mergeSort_perm ss (fun x y => decide (x ≤ y))
  have hs : (ss.mergeSort fun x y => decide (x ≤ y)).Pairwise (fun x y => decide (x ≤ y) = true) := List.pairwise_mergeSort (fun a b c h1 h2 => by
    simp only [decide_eq_true_eq] at *; exact List.le_trans h1 h2) (fun a b => by
    simp only [Bool.or_eq_true, decide_eq_true_eq]; exact List.le_total a b) ss
  rw [← hp.nodup_iff, ← hp.length_eq, compact_full]
  generalize (ss.mergeSort fun x y => decide (x ≤ y)) = s at hs
  have hle : ∀ i j (hi : i < j) (hj : j < s.length), s[i] ≤ s[j] := fun i j hi hj => by
    have := List.pairwise_iff_getElem.1 hs i j (by omega) hj hi
    simpa using this
  constructor
  · intro h
    rw [List.nodup_iff_pairwise_ne, List.pairwise_iff_getElem]
    intro i j hi hj hij e
    have h1 := h (i + 1) (by omega)
    have h2 : s[i]'hi = s[i + 1]'(by omega) := by
      refine List.le_antisymm (hle i (i + 1) (by omega) (by omega)) ?_
      by_cases c : i + 1 = j
      · subst c; rw [e]; exact List.le_refl _
      · rw [e]; exact hle (i + 1) j (by omega) hj
    simp [Lib.keeps, h2, show i + 1 < s.length by omega, show i < s.length from hi] at h1
  · intro h j hj
    by_cases c : j = 0
    · subst c; simp [Lib.keeps]
    · have hne : s[j]'hj ≠ s[j - 1]'(by omega) := by
        intro e
        have := List.pairwise_iff_getElem.1 (List.nodup_iff_pairwise_ne.1 h) (j - 1) j (by omega) hj (by omega)
        exact this e.symm
      simp [Lib.keeps, hj, show j - 1 < s.length by omega, hne]
/-! ### SnapName -/
def nmOK (t : ByteArray) : Bool := (List.range t.size).all (fun i => inB (bt t (i : Int)) 97 122) && inB (t.size : Int) 1 6
theorem spec_Name_ev (t : ByteArray) (ht : t.size ≤ 1000000000) : Ev (fun k => spec_l10Name.f k t) (nmOK t) := by
  unfold spec_l10Name.f nmOK
  refine ev_all (g := fun k i => spec_l10Name.l0 k t (i : Int)) (List.range t.size) (fun i => inB (bt t (i : Int)) 97 122) _ ?_ ?_
  · refine Ev.step (f := fun _ => some (inB (t.size : Int) 1 6)) (fun k => ?_) (ev_some _)
    simp only [spec_l10Name.l0, l01In_eq, Option.bind_some, List.length_range]; rw [if_neg (by omega)]
  · intro i hi k
    rw [List.length_range] at hi
    simp only [spec_l10Name.l0, List.getElem_range]
    rw [if_pos (by omega), if_pos (by omega), wnext i (by omega)]
    unfold inB
    by_cases h1 : bt t (i : Int) < 97
    · rw [if_pos h1, if_neg (by simp; omega)]
    · rw [if_neg h1]
      by_cases h2 : bt t (i : Int) > 122
      · rw [if_pos h2, if_neg (by simp; omega)]
      · rw [if_neg h2, if_pos (by simp; omega)]
theorem impl_Name_ev (t : ByteArray) (ht : t.size ≤ 1000000000) : Ev (fun k => impl_snapNameOK.f k t) (nmOK t) := by
  unfold impl_snapNameOK.f nmOK
  refine ev_all (g := fun k i => impl_snapNameOK.l0 k t (t.size : Int) (i : Int)) (List.range t.size) (fun i => inB (bt t (i : Int)) 97 122) _ ?_ ?_
  · refine Ev.step (f := fun _ => some (inB (t.size : Int) 1 6)) (fun k => ?_) (ev_some _)
    simp only [impl_snapNameOK.l0, within_eq, Option.bind_some, List.length_range]; rw [if_neg (by omega)]
  · intro i hi k
    rw [List.length_range] at hi
    simp only [impl_snapNameOK.l0, List.getElem_range]
    rw [if_pos (by omega), if_pos (by omega), if_pos (by omega), wnext i (by omega)]
    unfold inB
    by_cases h1 : bt t (i : Int) < 97
    · rw [if_pos h1, if_neg (by simp; omega)]
    · rw [if_neg h1]
      by_cases h2 : bt t (i : Int) > 122
      · rw [if_pos h2, if_neg (by simp; omega)]
      · rw [if_neg h2, if_pos (by simp; omega)]
theorem ev_allO {α : Type} (p : Nat → α → Option Bool) (q : α → Bool) : ∀ l : List α, (∀ x ∈ l, Ev (fun k => p k x) (q x)) → Ev (fun k => allO (p k) l) (l.all q) := by
  intro l
  induction l with
  | nil => intro _; exact ev_some true
  | cons x xs ih =>
    intro h
    have hx := h x (by simp)
    have hxs := ih (fun y hy => h y (by simp [hy]))
    simp only [allO, List.all_cons]
    refine ev_bind hx ?_
    cases q x
    · exact ev_neg (by decide) (ev_some _)
    · exact ev_pos rfl (by simpa using hxs)
def namesOK (l : List ByteArray) : Bool := decide ((l.length : Int) ≤ 3) && (l.all nmOK && decide l.Nodup)
theorem areNames_ev (l : List ByteArray) (hl : l.length ≤ 1000000000) (hs : ∀ x ∈ l, x.size ≤ 1000000000) : Ev (fun k => impl_areNames.f k l) (namesOK l) := by
  unfold impl_areNames.f namesOK
  refine ev_pos (by omega) ?_
  by_cases h3 : (l.length : Int) ≤ 3
  · rw [decide_eq_true h3, Bool.true_and]
    refine ev_pos h3 (ev_bind (a := l.all nmOK) (by unfold all30_impl_snapNameOK.f; exact ev_allO _ _ l (fun x hx => impl_Name_ev x (hs x hx))) ?_)
    cases l.all nmOK
    · exact ev_neg (by decide) (ev_some _)
    · refine ev_pos rfl ?_
      have e : (((Lib.compact (impl_areNames_sorted l)).length : Int) == (l.length : Int)) = decide l.Nodup := by
        rw [Bool.eq_iff_iff, beq_iff_eq, decide_eq_true_eq]
        have hn : (l.map (·.data.toList)).Nodup ↔ l.Nodup := by
          have ht : ∀ a b : ByteArray, a.data.toList ≠ b.data.toList ↔ a ≠ b := fun a b => by
            constructor
            · intro h e; exact h (by rw [e])
            · intro h e; exact h (by cases a; cases b; simpa [Array.toList_inj] using e)
          unfold List.Nodup
          rw [List.pairwise_map]
          simp only [ht]
        rw [← hn, ← sorted_nodup (l.map (·.data.toList)), List.length_map]
        unfold impl_areNames_sorted
        exact Int.ofNat_inj
      rw [e, Bool.true_and]; exact ev_some _
  · rw [decide_eq_false h3, Bool.false_and]
    exact ev_neg h3 (ev_some _)
/-! ### MarkT -/
theorem ev_down {α : Type} {g : Nat → Nat → Option α} {r : α} (n : Nat) (hend : Ev (fun k => g k n) r) (hstep : ∀ i, i < n → Ev (fun k => g k (i + 1)) r → Ev (fun k => g k i) r) : Ev (fun k => g k 0) r := by
  have : ∀ d i, i ≤ n → n - i = d → Ev (fun k => g k i) r := by
    intro d
    induction d with
    | zero => intro i hi hd; have e : i = n := by omega
              rw [e]; exact hend
    | succ d ih => intro i hi hd; exact hstep i (by omega) (ih (i + 1) (by omega) (by omega))
  exact this n 0 (by omega) (by omega)
/-! ### Ints -/
theorem szIntS_eq (l : List Int) (hl : l.length ≤ maxLen) (a : Int) (h0 : 0 ≤ a) (ha : a ≤ 1048576) : laws_szIntS.f l a = some (if a - (l.length : Int) < 0 then -1 else a - (l.length : Int)) := by
  have hM : maxLen = 9223372036854775807 := rfl
  unfold laws_szIntS.f
  rw [w64 (n := a - (l.length : Int)) (by omega) (by omega)]
  split <;> rfl
theorem toIntS_ev (l : List Int) (hl : l.length ≤ 1048576) : Ev (fun k => laws_toIntS.f k l) l := by
  unfold laws_toIntS.f
  refine ev_pos (by omega) (ev_pos (by omega) ?_)
  rw [Int.toNat_natCast]
  have hc : l.length = (List.replicate l.length (0 : Int)).length := by simp
  have h := ev_loop (g := fun k i => laws_toIntS.l0 k l (l.take i ++ (List.replicate l.length (0 : Int)).drop i) (i : Int)) (r := l) l.length ?_ ?_ l.length 0 (by omega) (by omega)
  · simpa using h
  · refine Ev.step (f := fun _ => some l) (fun k => ?_) (ev_some _)
    simp only [laws_toIntS.l0]
    rw [if_neg (by omega), List.drop_of_length_le (by simp), List.take_of_length_le (by simp)]; simp
  · intro i hi
    refine ⟨1, fun k => ⟨?_, by omega⟩⟩
    simp only [laws_toIntS.l0]
    have hlen : (l.take i ++ (List.replicate l.length (0 : Int)).drop i).length = l.length := by simp; omega
    rw [if_pos (by omega), if_pos (by omega), if_pos (by rw [hlen]; omega), rdn l i hi, Int.toNat_natCast, set_mid _ _ hc i (by simpa using hi) _ rfl, wnext i (by omega)]
/-! ### ShotE -/
theorem rdE_Shot (l : List S39) (i : Nat) (h : i < l.length) : rd_T39 l (i : Int) = l[i] := by simp [rd_T39, h]
theorem eqShotS_ev (l : List S39) (hl : l.length ≤ 1000000000) (hs : ∀ x ∈ l, x.f1.length ≤ 1000000000) : Ev (fun k => laws_eqShotS.f k l l) true := by
  unfold laws_eqShotS.f
  refine ev_pos rfl ?_
  refine ev_down (g := fun k i => laws_eqShotS.l0 k l l (i : Int)) l.length ?_ ?_
  · refine Ev.step (f := fun _ => some true) (fun k => ?_) (ev_some _)
    simp only [laws_eqShotS.l0]; rw [if_neg (by omega)]
  · intro i hi h
    refine Ev.succ ?_
    simp only [laws_eqShotS.l0, laws_eqShot.f, rdE_Shot l i hi, wnext i (show i < 1000000000000000000 by omega), if_true]
    exact ev_pos (by omega) (ev_pos (by omega) (ev_pos (by omega) (ev_bind (ev_bind (eqIntS_ev _ (hs _ (List.getElem_mem hi))) (ev_pos rfl (ev_some _))) (ev_pos rfl h))))
/-! ### Shot -/
theorem rdP_Shot (l : List S50) (i : Nat) (h : i < l.length) : rd_T50 l (i : Int) = l[i] := by simp [rd_T50, h]
def cvShot (x : S50) : S39 := ⟨x.f0, x.f1⟩
theorem szShot_le (x : S50) (h0 : x.f0.size ≤ maxLen) (h1 : x.f1.length ≤ maxLen) (a : Int) (ha0 : 0 ≤ a) (ha : a ≤ 1048576) : ∃ s, laws_szShot.f x.f0 x.f1 a = some s ∧ (s < 0 ∨ (0 ≤ s ∧ s ≤ a ∧ (x.f0.size : Int) ≤ a ∧ (x.f1.length : Int) ≤ a)) := by
  have hM : maxLen = 9223372036854775807 := rfl
  unfold laws_szShot.f
  rw [w64 (n := a - (x.f0.size : Int)) (by omega) (by omega)]
  by_cases c : a - (x.f0.size : Int) < 0
  · rw [if_pos c]; exact ⟨-1, rfl, Or.inl (by omega)⟩
  · rw [if_neg c, szIntS_eq x.f1 h1 _ (by omega) (by omega), Option.bind_some]
    by_cases c2 : a - (x.f0.size : Int) - (x.f1.length : Int) < 0
    · rw [if_pos c2, if_pos (by omega)]; exact ⟨-1, rfl, Or.inl (by omega)⟩
    · rw [if_neg c2, if_neg c2]; exact ⟨_, rfl, Or.inr ⟨by omega, by omega, by omega, by omega⟩⟩
theorem szShotS_from (l : List S50) (hs : ∀ x ∈ l, x.f0.size ≤ maxLen ∧ x.f1.length ≤ maxLen) (hl : l.length ≤ 1048576) : ∀ d i (x : Int), 0 ≤ x → x ≤ 1048576 → i ≤ l.length → l.length - i = d → ∃ s, Ev (fun k => laws_szShotS.l0 k l x (i : Int)) s ∧ (s < 0 ∨ (s ≤ x ∧ 0 ≤ s ∧ ∀ j (h : j < l.length), i ≤ j → (l[j].f0.size : Int) ≤ x ∧ (l[j].f1.length : Int) ≤ x)) := by
  intro d
  induction d with
  | zero =>
    intro i x h0 hx hi hd
    refine ⟨x, Ev.step (f := fun _ => some x) (fun k => ?_) (ev_some _), Or.inr ⟨by omega, h0, fun j hj hij => absurd hj (by omega)⟩⟩
    simp only [laws_szShotS.l0]; rw [if_neg (by omega)]
  | succ d ih =>
    intro i x h0 hx hi hd
    have hlt : i < l.length := by omega
    have hz := hs l[i] (List.getElem_mem hlt)
    obtain ⟨s, e, hb⟩ := szShot_le l[i] hz.1 hz.2 x h0 hx
    by_cases hc : s < 0
    · refine ⟨-1, Ev.step (f := fun _ => some (-1)) (fun k => ?_) (ev_some _), Or.inl (by omega)⟩
      simp only [laws_szShotS.l0]
      rw [if_pos (by omega), if_pos (by omega), rdP_Shot l i hlt, e, Option.bind_some, if_pos hc]
    · rcases hb with hb | ⟨b0, b1, b2, b3⟩
      · exact absurd hb hc
      · obtain ⟨s', h1, h2⟩ := ih (i + 1) s b0 (by omega) (by omega) (by omega)
        refine ⟨s', Ev.step (f := fun k => laws_szShotS.l0 k l s ((i + 1 : Nat) : Int)) (fun k => ?_) h1, ?_⟩
        · simp only [laws_szShotS.l0]
          rw [if_pos (by omega), if_pos (by omega), rdP_Shot l i hlt, e, Option.bind_some, if_neg hc, wnext i (by omega)]
        · rcases h2 with h2 | ⟨h2, h3, h4⟩
          · exact Or.inl h2
          · refine Or.inr ⟨by omega, h3, fun j hj hij => ?_⟩
            rcases Nat.eq_or_lt_of_le hij with e' | e'
            · subst e'; exact ⟨b2, b3⟩
            · have := h4 j hj e'; omega
theorem szShotS_ev (l : List S50) (hs : ∀ x ∈ l, x.f0.size ≤ maxLen ∧ x.f1.length ≤ maxLen) (hm : l.length ≤ maxLen) (a : Int) (h0 : 0 ≤ a) (ha : a ≤ 1048576) : ∃ s, Ev (fun k => laws_szShotS.f k l a) s ∧ (s < 0 ∨ (s ≤ a ∧ 0 ≤ s ∧ (l.length : Int) ≤ a ∧ ∀ x ∈ l, (x.f0.size : Int) ≤ a ∧ (x.f1.length : Int) ≤ a)) := by
  have hM : maxLen = 9223372036854775807 := rfl
  unfold laws_szShotS.f
  rw [w64 (n := a - (l.length : Int)) (by omega) (by omega)]
  by_cases hc : a - (l.length : Int) < 0
  · exact ⟨-1, ev_pos hc (ev_some _), Or.inl (by omega)⟩
  · obtain ⟨s, h1, h2⟩ := szShotS_from l hs (by omega) l.length 0 (a - (l.length : Int)) (by omega) (by omega) (by omega) (by omega)
    refine ⟨s, ev_neg hc h1, ?_⟩
    rcases h2 with h2 | ⟨h2, h3, h4⟩
    · exact Or.inl h2
    · refine Or.inr ⟨by omega, h3, by omega, fun x hx => ?_⟩
      obtain ⟨j, hj, rfl⟩ := List.getElem_of_mem hx
      have := h4 j hj (by omega); omega
theorem toShotS_ev (l : List S50) (hl : l.length ≤ 1048576) (hs : ∀ x ∈ l, x.f1.length ≤ 1048576) : Ev (fun k => laws_toShotS.f k l) (l.map cvShot) := by
  unfold laws_toShotS.f
  refine ev_pos (by omega) (ev_pos (by omega) ?_)
  rw [Int.toNat_natCast]
  have hc : (l.map cvShot).length = (List.replicate l.length z39).length := by simp
  have h := ev_down (g := fun k i => laws_toShotS.l0 k l ((l.map cvShot).take i ++ (List.replicate l.length z39).drop i) (i : Int)) (r := l.map cvShot) l.length ?_ ?_
  · simpa using h
  · refine Ev.step (f := fun _ => some (l.map cvShot)) (fun k => ?_) (ev_some _)
    simp only [laws_toShotS.l0]
    rw [if_neg (by omega), List.drop_of_length_le (by simp), List.take_of_length_le (by simp)]; simp
  · intro i hi h
    have hlen : ((l.map cvShot).take i ++ (List.replicate l.length z39).drop i).length = l.length := by simp; omega
    refine Ev.succ ?_
    simp only [laws_toShotS.l0, laws_toShot.f, rdP_Shot l i hi]
    refine ev_pos (by omega) (ev_pos (by omega) (ev_bind (ev_bind (toIntS_ev l[i].f1 (hs _ (List.getElem_mem hi))) (ev_some _)) (ev_pos (by rw [hlen]; omega) ?_)))
    rw [Int.toNat_natCast, set_mid _ _ hc i (by simpa using hi) _ (by simp [cvShot]), wnext i (by omega)]
    exact h
/-! ### GuestOk -/
theorem ev_allE {g : Nat → Nat → Option Bool} (n : Nat) (P : Nat → Bool) (r : Bool) (hend : Ev (fun k => g k n) r) (hstep : ∀ i, i < n → ∀ b, Ev (fun k => g k (i + 1)) b → Ev (fun k => g k i) (P i && b)) : Ev (fun k => g k 0) ((List.range n).all P && r) := by
  have hgo : ∀ d i, i ≤ n → n - i = d → Ev (fun k => g k i) (((List.range n).drop i).all P && r) := by
    intro d
    induction d with
    | zero =>
      intro i hi hd
      have e : i = n := by omega
      subst e
      rw [List.drop_of_length_le (by simp)]; simp only [List.all_nil, Bool.true_and]; exact hend
    | succ d ih =>
      intro i hi hd
      have hlt : i < (List.range n).length := by simp; omega
      have := hstep i (by omega) _ (ih (i + 1) (by omega) (by omega))
      rw [List.drop_eq_getElem_cons hlt, List.all_cons, List.getElem_range, Bool.and_assoc]
      exact this
  have := hgo n 0 (by omega) (by omega)
  rwa [List.drop_zero] at this
def valsOK (l : List Int) : Bool := l.all (fun n => inB n 0 2147483647) && decide ((l.length : Int) ≤ 12)
theorem spec_vals_ev (l : List Int) (hl : l.length ≤ 1000000000) : Ev (fun k => spec_l14Values.f k l) (valsOK l) := by
  unfold spec_l14Values.f valsOK
  refine ev_all (g := fun k i => spec_l14Values.l0 k l (i : Int)) l _ _ ?_ ?_
  · refine Ev.step (f := fun _ => some (decide ((l.length : Int) ≤ 12))) (fun k => ?_) (ev_some _)
    simp only [spec_l14Values.l0]; rw [if_neg (by omega)]
  · intro i hi k
    simp only [spec_l14Values.l0, spec_l02Int.f, l01In_eq, Option.bind_some]
    rw [if_pos (by omega), if_pos (by omega), rdn l i hi, wnext i (by omega)]
theorem impl_vals_eq (l : List Int) : impl_areValues.f l = some (valsOK l) := by
  have hA : all26_impl_isNumber.f l () = some (l.all (fun n => inB n 0 2147483647)) := by unfold all26_impl_isNumber.f; exact allO_some _ _ (fun x _ => by simp only [impl_isNumber.f, within_eq, Option.bind_some])
  unfold impl_areValues.f valsOK
  rw [hA, Option.bind_some]
  by_cases h : (l.length : Int) ≤ 12
  · rw [if_pos h, decide_eq_true h, Bool.and_true]
  · rw [if_neg h, decide_eq_false h, Bool.and_false]
def nmS (l : List S39) (i : Nat) : ByteArray := (rd_T39 l (i : Int)).f0
def okAt (l : List S39) (i : Nat) : Bool := nmOK (nmS l i) && (valsOK (rd_T39 l (i : Int)).f1 && (List.range i).all (fun j => decide (nmS l j ≠ nmS l i)))
theorem spec_gok_ev (v : List Int) (l : List S39) (hv : v.length ≤ 1000000000) (hl : l.length ≤ 1000000000) (hs : ∀ x ∈ l, x.f0.size ≤ 1000000000 ∧ x.f1.length ≤ 1000000000) : Ev (fun k => spec_GuestOK.f k v l) (valsOK v && (decide ((l.length : Int) ≤ 3) && (List.range l.length).all (okAt l))) := by
  have hL : Ev (fun k => spec_GuestOK.l0 k ((0 : Nat) : Int) v l) ((List.range l.length).all (okAt l) && true) := by
    refine ev_allE (g := fun k i => spec_GuestOK.l0 k (i : Int) v l) l.length (okAt l) true ?_ ?_
    · refine Ev.step (f := fun _ => some true) (fun k => ?_) (ev_some _)
      simp only [spec_GuestOK.l0]; rw [if_neg (by omega)]
    · intro i hi b hb
      have hmem := hs l[i] (List.getElem_mem hi)
      have hin : Ev (fun k => spec_GuestOK.l1 k (i : Int) ((0 : Nat) : Int) v l) ((List.range i).all (fun j => decide (nmS l j ≠ nmS l i)) && b) := by
        refine ev_all (g := fun k j => spec_GuestOK.l1 k (i : Int) (j : Int) v l) (List.range i) _ b ?_ ?_
        · rw [List.length_range]
          refine Ev.step (f := fun k => spec_GuestOK.l0 k ((i + 1 : Nat) : Int) v l) (fun k => ?_) hb
          simp only [spec_GuestOK.l1]; rw [if_neg (by omega), wnext i (by omega)]
        · intro j hj k
          rw [List.length_range] at hj
          simp only [spec_GuestOK.l1, List.getElem_range]
          rw [if_pos (by omega), if_pos (by omega), if_pos (by omega), if_pos (by omega), if_pos (by omega), wnext j (by omega)]
          show (if (nmS l j).toList = (nmS l i).toList then some false else _) = _
          by_cases c : nmS l j = nmS l i
          · rw [if_pos (by rw [c]), if_neg (by simp [c])]
          · rw [if_neg (fun h => c (toList_inj.1 h)), if_pos (by simp [c])]
      refine Ev.succ ?_
      simp only [spec_GuestOK.l0]
      refine ev_pos (by omega) (ev_pos (by omega) ?_)
      have e1 : (rd_T39 l (i : Int)).f0 = nmS l i := rfl
      have e2 := rdE_Shot l i hi
      unfold okAt
      rw [e1]
      refine ev_bind (spec_Name_ev _ (by unfold nmS; rw [e2]; exact hmem.1)) ?_
      cases nmOK (nmS l i)
      · refine ev_neg (by decide) (Ev.succ ?_)
        simp only [spec_GuestOK.j2, if_true, Bool.false_and]; exact ev_some _
      · refine ev_pos rfl (ev_bind (spec_vals_ev _ (by rw [e2]; exact hmem.2)) (Ev.succ ?_))
        cases valsOK (rd_T39 l (i : Int)).f1
        · simp only [spec_GuestOK.j2, Bool.not_false, if_true, Bool.false_and, Bool.and_false]; exact ev_some _
        · simp only [spec_GuestOK.j2, Bool.not_true, Bool.false_eq_true, if_false, Bool.true_and]; exact hin
  rw [Bool.and_true] at hL
  unfold spec_GuestOK.f
  refine ev_bind (spec_vals_ev v hv) ?_
  cases valsOK v
  · refine ev_neg (by decide) (Ev.succ ?_)
    simp only [spec_GuestOK.j0, if_true, Bool.false_and]; exact ev_some _
  · refine ev_pos rfl (Ev.succ ?_)
    simp only [spec_GuestOK.j0, decide_eq_true_eq, Bool.true_and]
    by_cases h3 : (l.length : Int) ≤ 3
    · rw [decide_eq_true h3, Bool.true_and]; exact ev_neg (by omega) hL
    · rw [decide_eq_false h3, Bool.false_and]; exact ev_pos (by omega) (ev_some _)
theorem names_ev (v : List Int) (l : List S39) (hl : l.length ≤ 1000000000) : Ev (fun k => impl_Guest_names.f k v l) (l.map (·.f0)) := by
  unfold impl_Guest_names.f
  have h := ev_loop (g := fun k i => impl_Guest_names.l0 k ((l.map (·.f0)).take i) l (l.length : Int) (i : Int)) (r := l.map (·.f0)) l.length ?_ ?_ l.length 0 (by omega) (by omega)
  · simpa using h
  · refine Ev.step (f := fun _ => some (l.map (·.f0))) (fun k => ?_) (ev_some _)
    simp only [impl_Guest_names.l0]
    rw [if_neg (by omega), List.take_of_length_le (by simp)]
  · intro i hi
    refine ⟨1, fun k => ⟨?_, by omega⟩⟩
    simp only [impl_Guest_names.l0]
    rw [if_pos (by omega), if_pos (by omega), if_pos (by omega), if_pos (by simp; omega), rdE_Shot l i hi, wnext i (by omega), List.take_succ_eq_append_getElem (by simpa using hi), List.getElem_map]
theorem gok_same (l : List S39) : (List.range l.length).all (okAt l) = ((l.map (·.f0)).all nmOK && decide (l.map (·.f0)).Nodup && l.all (fun x => valsOK x.f1)) := by
  have hn : ∀ i (h : i < l.length), nmS l i = l[i].f0 := fun i h => by unfold nmS; rw [rdE_Shot l i h]
  rw [Bool.eq_iff_iff]
  simp only [Bool.and_eq_true, List.all_eq_true, decide_eq_true_eq, List.mem_range, List.mem_map]
  constructor
  · intro h
    have h' : ∀ i (hi : i < l.length), nmOK l[i].f0 = true ∧ valsOK l[i].f1 = true ∧ ∀ j, j < i → nmS l j ≠ nmS l i := fun i hi => by
      have := h i hi
      unfold okAt at this
      simp only [Bool.and_eq_true, List.all_eq_true, decide_eq_true_eq, List.mem_range] at this
      rw [hn i hi, rdE_Shot l i hi] at this
      exact ⟨this.1, this.2.1, fun j hj => by have := this.2.2 j hj; rw [hn i hi]; exact this⟩
    refine ⟨⟨?_, ?_⟩, ?_⟩
    · rintro x ⟨y, hy, rfl⟩
      obtain ⟨i, hi, rfl⟩ := List.getElem_of_mem hy
      exact (h' i hi).1
    · rw [List.nodup_iff_pairwise_ne, List.pairwise_iff_getElem]
      intro i j hi hj hij
      rw [List.length_map] at hi hj
      have := (h' j hj).2.2 i hij
      rw [hn i hi, hn j hj] at this
      simpa using this
    · intro x hx
      obtain ⟨i, hi, rfl⟩ := List.getElem_of_mem hx
      exact (h' i hi).2.1
  · rintro ⟨⟨h1, h2⟩, h3⟩ i hi
    unfold okAt
    simp only [Bool.and_eq_true, List.all_eq_true, decide_eq_true_eq, List.mem_range]
    rw [rdE_Shot l i hi]
    refine ⟨?_, h3 _ (List.getElem_mem hi), fun j hj => ?_⟩
    · rw [hn i hi]; exact h1 _ ⟨_, List.getElem_mem hi, rfl⟩
    · rw [hn i hi, hn j (by omega)]
      have := List.pairwise_iff_getElem.1 (List.nodup_iff_pairwise_ne.1 h2) j i (by simp; omega) (by simpa using hi) hj
      simpa using this
theorem impl_gok_ev (v : List Int) (l : List S39) (hl : l.length ≤ 1000000000) (hs : ∀ x ∈ l, x.f0.size ≤ 1000000000) : Ev (fun k => impl_GuestOK.f k v l) (valsOK v && (decide ((l.length : Int) ≤ 3) && (List.range l.length).all (okAt l))) := by
  unfold impl_GuestOK.f
  simp only [impl_vals_eq, Option.bind_some]
  rw [gok_same]
  cases valsOK v
  · exact ev_neg (by decide) (ev_some _)
  · refine ev_pos rfl ?_
    rw [Bool.true_and]
    by_cases h3 : (l.length : Int) ≤ 3
    · refine ev_pos h3 (ev_bind (names_ev v l hl) (ev_bind (areNames_ev _ (by simpa using hl) (fun x hx => by
        obtain ⟨y, hy, rfl⟩ := List.mem_map.1 hx; exact hs y hy)) ?_))
      have e : namesOK (l.map (·.f0)) = ((l.map (·.f0)).all nmOK && decide (l.map (·.f0)).Nodup) := by
        unfold namesOK; rw [decide_eq_true (by simpa using h3), Bool.true_and]
      have hA : all18_impl_GuestOK_1.f l () = some (l.all (fun x => valsOK x.f1)) := by unfold all18_impl_GuestOK_1.f; exact allO_some _ _ (fun x _ => by simp only [impl_GuestOK_1.f, impl_vals_eq, Option.bind_some])
      rw [e, hA, decide_eq_true h3, Bool.true_and]
      cases ((l.map (·.f0)).all nmOK && decide (l.map (·.f0)).Nodup)
      · exact ev_neg (by decide) (ev_some _)
      · refine ev_pos rfl ?_
        simp only [Option.bind_some, Bool.true_and]; exact ev_some _
    · rw [decide_eq_false h3, Bool.false_and]; exact ev_neg h3 (ev_some _)
end Go.Proofs.Ytkejmbnfjjgfnaa.Q
