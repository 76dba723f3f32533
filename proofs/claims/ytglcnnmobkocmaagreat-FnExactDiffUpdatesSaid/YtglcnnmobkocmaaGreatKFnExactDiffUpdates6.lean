/- What laws.FnExactDiffUpdates reaches, part 6: the functions as Lean functions, the proofs that the program's functions answer so, and plain laws about them. -/
import Derived.Test.YtglcnnmobkocmaaGreatKFnExactDiffUpdates1
import Derived.Test.YtglcnnmobkocmaaGreatKFnExactDiffUpdates5
namespace Go.Proofs.YtglcnnmobkocmaaGreat.Q
open Go.RowKit Go.Proofs.YtglcnnmobkocmaaGreat.Ext Go.Proofs.YtglcnnmobkocmaaGreatW.PrintWords Go.Proofs.YtglcnnmobkocmaaGreatW.PrintLast Go.Proofs.YtglcnnmobkocmaaGreatW.PrintMore
attribute [local go_sem] max2_int min2_int max_two min_two max_three min_three max_four min_four   -- for this text's walks alone
set_option linter.unusedVariables false
set_option linter.unusedSimpArgs false

set_option linter.unusedVariables false
set_option linter.unusedSimpArgs false
mutual
def spec_l10Form.j0 : Nat → Bool → List Int → List Int → List (S103) → List Int → Option (Bool)
  | 0, _, _, _, _, _ => none
  | k + 1, x27, x428000, x428001, x428002, x428003 => if x27 = true then (some false) else (spec_l10Form.l0 k 0 x428000 x428001 x428002 x428003)
def spec_l10Form.l0 : Nat → Int → List Int → List Int → List (S103) → List Int → Option (Bool)
  | 0, _, _, _, _, _ => none
  | k + 1, x3, x428000, x428001, x428002, x428003 => if x3 < (x428002.length : Int) then (if 0 ≤ x3 then ((spec_l10Name.f k ((rd_T103 x428002 x3).f0)).bind fun t431 => (if t431 = true then ((spec_TableOK.f k ((rd_T103 x428002 x3).f1)).bind fun t433 => (spec_l10Form.j2 k x3 (!t433) x428000 x428001 x428002 x428003)) else (spec_l10Form.j2 k x3 true x428000 x428001 x428002 x428003))) else (none)) else (spec_l10Form.l2 k 0 x428000 x428001 x428002 x428003)
def spec_l10Form.j2 : Nat → Int → Bool → List Int → List Int → List (S103) → List Int → Option (Bool)
  | 0, _, _, _, _, _, _ => none
  | k + 1, x3, x52, x428000, x428001, x428002, x428003 => if x52 = true then (some false) else (spec_l10Form.l1 k x3 0 x428000 x428001 x428002 x428003)
def spec_l10Form.l1 : Nat → Int → Int → List Int → List Int → List (S103) → List Int → Option (Bool)
  | 0, _, _, _, _, _, _ => none
  | k + 1, x3, x4, x428000, x428001, x428002, x428003 => if x4 < x3 then (if 0 ≤ x4 then (if x4 < (x428002.length : Int) then (if 0 ≤ x3 then (if x3 < (x428002.length : Int) then (if ((rd_T103 x428002 x4).f0).toList = ((rd_T103 x428002 x3).f0).toList then (some false) else (spec_l10Form.l1 k x3 (wrap64 (x4 + 1)) x428000 x428001 x428002 x428003)) else (none)) else (none)) else (none)) else (none)) else (spec_l10Form.l0 k (wrap64 (x3 + 1)) x428000 x428001 x428002 x428003)
def spec_l10Form.l2 : Nat → Int → List Int → List Int → List (S103) → List Int → Option (Bool)
  | 0, _, _, _, _, _ => none
  | k + 1, x5, x428000, x428001, x428002, x428003 => if x5 < (x428003.length : Int) then (if 0 ≤ x5 then ((spec_l02Int.f (rd x428003 x5)).bind fun t437 => (if t437 = true then (spec_l10Form.l2 k (wrap64 (x5 + 1)) x428000 x428001 x428002 x428003) else (some false))) else (none)) else (some true)
end
def spec_l10Form.f (k : Nat) (l0_0 : List Int) (l0_1 : List Int) (l0_2 : List (S103)) (l0_3 : List Int) : Option (Bool) := (spec_RefsOK.f k l0_0).bind fun t428 => (if t428 = true then ((spec_TableOK.f k l0_1).bind fun t429 => (if t429 = true then (if (l0_2.length : Int) > 3 then (spec_l10Form.j0 k true l0_0 l0_1 l0_2 l0_3) else (spec_l10Form.j0 k ((l0_3.length : Int) != 24) l0_0 l0_1 l0_2 l0_3)) else (spec_l10Form.j0 k true l0_0 l0_1 l0_2 l0_3))) else (spec_l10Form.j0 k true l0_0 l0_1 l0_2 l0_3))
theorem spec_l10Form.mono_l : ∀ k, (∀ y0 y1 y2 y3 y4, LeO (spec_l10Form.j0 k y0 y1 y2 y3 y4) (spec_l10Form.j0 (k + 1) y0 y1 y2 y3 y4)) ∧ (∀ y0 y1 y2 y3 y4, LeO (spec_l10Form.l0 k y0 y1 y2 y3 y4) (spec_l10Form.l0 (k + 1) y0 y1 y2 y3 y4)) ∧ (∀ y0 y1 y2 y3 y4 y5, LeO (spec_l10Form.j2 k y0 y1 y2 y3 y4 y5) (spec_l10Form.j2 (k + 1) y0 y1 y2 y3 y4 y5)) ∧ (∀ y0 y1 y2 y3 y4 y5, LeO (spec_l10Form.l1 k y0 y1 y2 y3 y4 y5) (spec_l10Form.l1 (k + 1) y0 y1 y2 y3 y4 y5)) ∧ (∀ y0 y1 y2 y3 y4, LeO (spec_l10Form.l2 k y0 y1 y2 y3 y4) (spec_l10Form.l2 (k + 1) y0 y1 y2 y3 y4))
  | 0 => ⟨fun _ _ _ _ _ r h => by simp [spec_l10Form.j0] at h, fun _ _ _ _ _ r h => by simp [spec_l10Form.l0] at h, fun _ _ _ _ _ _ r h => by simp [spec_l10Form.j2] at h, fun _ _ _ _ _ _ r h => by simp [spec_l10Form.l1] at h, fun _ _ _ _ _ r h => by simp [spec_l10Form.l2] at h⟩
  | k + 1 => by
    obtain ⟨ih0, ih1, ih2, ih3, ih4⟩ := spec_l10Form.mono_l k
    refine ⟨?_, ?_, ?_, ?_, ?_⟩
    · intro y0 y1 y2 y3 y4
      unfold spec_l10Form.j0
      repeat' first| (with_reducible first | exact ih0 _ _ _ _ _ | exact ih1 _ _ _ _ _ | exact ih2 _ _ _ _ _ _ | exact ih3 _ _ _ _ _ _ | exact ih4 _ _ _ _ _ | exact spec_RefsOK.mono _ _ | exact spec_TableOK.mono _ _ | exact spec_l10Name.mono _ _ | exact LeO.refl _ | exact LeO.none _ | refine LeO.ite ?_ ?_ | refine LeO.bind ?_ (fun _ => ?_)) | exact ih0 _ _ _ _ _ | exact ih1 _ _ _ _ _ | exact ih2 _ _ _ _ _ _ | exact ih3 _ _ _ _ _ _ | exact ih4 _ _ _ _ _ | exact spec_RefsOK.mono _ _ | exact spec_TableOK.mono _ _ | exact spec_l10Name.mono _ _ | exact LeO.none _ | refine LeO.ite ?_ ?_ | refine LeO.bind ?_ (fun _ => ?_)
    · intro y0 y1 y2 y3 y4
      unfold spec_l10Form.l0
      repeat' first| (with_reducible first | exact ih0 _ _ _ _ _ | exact ih1 _ _ _ _ _ | exact ih2 _ _ _ _ _ _ | exact ih3 _ _ _ _ _ _ | exact ih4 _ _ _ _ _ | exact spec_RefsOK.mono _ _ | exact spec_TableOK.mono _ _ | exact spec_l10Name.mono _ _ | exact LeO.refl _ | exact LeO.none _ | refine LeO.ite ?_ ?_ | refine LeO.bind ?_ (fun _ => ?_)) | exact ih0 _ _ _ _ _ | exact ih1 _ _ _ _ _ | exact ih2 _ _ _ _ _ _ | exact ih3 _ _ _ _ _ _ | exact ih4 _ _ _ _ _ | exact spec_RefsOK.mono _ _ | exact spec_TableOK.mono _ _ | exact spec_l10Name.mono _ _ | exact LeO.none _ | refine LeO.ite ?_ ?_ | refine LeO.bind ?_ (fun _ => ?_)
    · intro y0 y1 y2 y3 y4 y5
      unfold spec_l10Form.j2
      repeat' first| (with_reducible first | exact ih0 _ _ _ _ _ | exact ih1 _ _ _ _ _ | exact ih2 _ _ _ _ _ _ | exact ih3 _ _ _ _ _ _ | exact ih4 _ _ _ _ _ | exact spec_RefsOK.mono _ _ | exact spec_TableOK.mono _ _ | exact spec_l10Name.mono _ _ | exact LeO.refl _ | exact LeO.none _ | refine LeO.ite ?_ ?_ | refine LeO.bind ?_ (fun _ => ?_)) | exact ih0 _ _ _ _ _ | exact ih1 _ _ _ _ _ | exact ih2 _ _ _ _ _ _ | exact ih3 _ _ _ _ _ _ | exact ih4 _ _ _ _ _ | exact spec_RefsOK.mono _ _ | exact spec_TableOK.mono _ _ | exact spec_l10Name.mono _ _ | exact LeO.none _ | refine LeO.ite ?_ ?_ | refine LeO.bind ?_ (fun _ => ?_)
    · intro y0 y1 y2 y3 y4 y5
      unfold spec_l10Form.l1
      repeat' first| (with_reducible first | exact ih0 _ _ _ _ _ | exact ih1 _ _ _ _ _ | exact ih2 _ _ _ _ _ _ | exact ih3 _ _ _ _ _ _ | exact ih4 _ _ _ _ _ | exact spec_RefsOK.mono _ _ | exact spec_TableOK.mono _ _ | exact spec_l10Name.mono _ _ | exact LeO.refl _ | exact LeO.none _ | refine LeO.ite ?_ ?_ | refine LeO.bind ?_ (fun _ => ?_)) | exact ih0 _ _ _ _ _ | exact ih1 _ _ _ _ _ | exact ih2 _ _ _ _ _ _ | exact ih3 _ _ _ _ _ _ | exact ih4 _ _ _ _ _ | exact spec_RefsOK.mono _ _ | exact spec_TableOK.mono _ _ | exact spec_l10Name.mono _ _ | exact LeO.none _ | refine LeO.ite ?_ ?_ | refine LeO.bind ?_ (fun _ => ?_)
    · intro y0 y1 y2 y3 y4
      unfold spec_l10Form.l2
      repeat' first| (with_reducible first | exact ih0 _ _ _ _ _ | exact ih1 _ _ _ _ _ | exact ih2 _ _ _ _ _ _ | exact ih3 _ _ _ _ _ _ | exact ih4 _ _ _ _ _ | exact spec_RefsOK.mono _ _ | exact spec_TableOK.mono _ _ | exact spec_l10Name.mono _ _ | exact LeO.refl _ | exact LeO.none _ | refine LeO.ite ?_ ?_ | refine LeO.bind ?_ (fun _ => ?_)) | exact ih0 _ _ _ _ _ | exact ih1 _ _ _ _ _ | exact ih2 _ _ _ _ _ _ | exact ih3 _ _ _ _ _ _ | exact ih4 _ _ _ _ _ | exact spec_RefsOK.mono _ _ | exact spec_TableOK.mono _ _ | exact spec_l10Name.mono _ _ | exact LeO.none _ | refine LeO.ite ?_ ?_ | refine LeO.bind ?_ (fun _ => ?_)
theorem spec_l10Form.mono : ∀ a0 a1 a2 a3 k, LeO (spec_l10Form.f k a0 a1 a2 a3) (spec_l10Form.f (k + 1) a0 a1 a2 a3) := by
  intro a0 a1 a2 a3 k
  obtain ⟨ih0, ih1, ih2, ih3, ih4⟩ := spec_l10Form.mono_l k
  unfold spec_l10Form.f
  repeat' first| (with_reducible first | exact ih0 _ _ _ _ _ | exact ih1 _ _ _ _ _ | exact ih2 _ _ _ _ _ _ | exact ih3 _ _ _ _ _ _ | exact ih4 _ _ _ _ _ | exact spec_RefsOK.mono _ _ | exact spec_TableOK.mono _ _ | exact spec_l10Name.mono _ _ | exact LeO.refl _ | exact LeO.none _ | refine LeO.ite ?_ ?_ | refine LeO.bind ?_ (fun _ => ?_)) | exact ih0 _ _ _ _ _ | exact ih1 _ _ _ _ _ | exact ih2 _ _ _ _ _ _ | exact ih3 _ _ _ _ _ _ | exact ih4 _ _ _ _ _ | exact spec_RefsOK.mono _ _ | exact spec_TableOK.mono _ _ | exact spec_l10Name.mono _ _ | exact LeO.none _ | refine LeO.ite ?_ ?_ | refine LeO.bind ?_ (fun _ => ?_)
set_option maxHeartbeats 8000000 in
set_option maxRecDepth 100000 in
theorem spec_l10Form.calls (k : Nat) (A0_0 : Option Addr) (c0_0 : Nat) (l0_0 : List Int) (A0_1 : Option Addr) (c0_1 : Nat) (l0_1 : List Int) (A0_2 : Option Addr) (c0_2 : Nat) (l0_2 : List (S103)) (A0_3 : Option Addr) (c0_3 : Nat) (l0_3 : List Int) (r : Bool) (w : World) (hr0_0 : Kd.C (Kd.int .i64) w A0_0 l0_0.length l0_0) (hc0_0 : l0_0.length ≤ c0_0) (hr0_1 : Kd.C (Kd.int .i64) w A0_1 l0_1.length l0_1) (hc0_1 : l0_1.length ≤ c0_1) (hr0_2 : Kd.C k103 w A0_2 l0_2.length l0_2) (hc0_2 : l0_2.length ≤ c0_2) (hr0_3 : Kd.C (Kd.int .i64) w A0_3 l0_3.length l0_3) (hc0_3 : l0_3.length ≤ c0_3) (h : spec_l10Form.f k l0_0 l0_1 l0_2 l0_3 = some r) :
    Calls Tryz.prog 84 #[.agg #[.slice A0_0 l0_0.length c0_0, .slice A0_1 l0_1.length c0_1, .slice A0_2 l0_2.length c0_2, .slice A0_3 l0_3.length c0_3]] w fun e w' => e = .returned (.bool r) ∧ Below w.heap.size w w' := by
 have hu26 := Tryz.underlying26; have Zc := zm hr0_0; have Zd := zm hc0_0; clear hr0_0 hc0_0; have Ze := zm hr0_1; have Zf := zm hc0_1; clear hr0_1 hc0_1; have Zg := zm hr0_2; have Zs := zm hc0_2; clear hr0_2 hc0_2; have Zp := zm hr0_3; have Zt := zm hc0_3; clear hr0_3 hc0_3; have HB := zm (Below.refl w.heap.size w); have H := h
 unfold spec_l10Form.f at H
 clear h; have HC2 := zm H; clear H
 go_enter Tryz.func84, Tryz.ntmps84
 go_upto_region 1 with (first | ((with_reducible refine gate_dst (N := 1) rfl ?_); (try (refine gate_guard (by rfl) ?_; dsimp only)); refine box_event ?hg (N := 1) ?hd (cs := #[.slice A0_0 l0_0.length c0_0, .slice A0_1 l0_1.length c0_1, .slice A0_2 l0_2.length c0_2, .slice A0_3 l0_3.length c0_3]) (t := 26) ?hr ?_; (case hd => rfl); (case hg => rfl); (case hr => first | (go_simp; done) | (go_simp; rfl)); intro gb427 hg w3 hbox hb; have n0_ := zm (below_step (zg_1 HB.out) hb); have n1_ := zm (hbox); have n2_ := zm ((by rw [hg]; exact (below_size (zg_1 HB.out)) : w.heap.size ≤ gb427)); have n3_ := zm ((by rw [hg]; exact (below_size (zg_1 HB.out)) : w.heap.size ≤ gb427)); replace HB := n0_; have Za := n1_; have Zq := n2_; have Zb := n3_; clear n0_ n1_ n2_ n3_; clear hb hbox hg))
 repeat (go_quiet (first | ((with_reducible refine gate_dst (N := 1) rfl ?_); (try (refine gate_guard (by rfl) ?_; dsimp only)); refine box_event ?hg (N := 1) ?hd (cs := #[.slice A0_0 l0_0.length c0_0, .slice A0_1 l0_1.length c0_1, .slice A0_2 l0_2.length c0_2, .slice A0_3 l0_3.length c0_3]) (t := 26) ?hr ?_; (case hd => rfl); (case hg => rfl); (case hr => first | (go_simp; done) | (go_simp; rfl)); intro gb427 hg w3 hbox hb; have n0_ := zm (below_step (zg_1 HB.out) hb); have n1_ := zm (hbox); have n2_ := zm ((by rw [hg]; exact (below_size (zg_1 HB.out)) : w.heap.size ≤ gb427)); have n3_ := zm ((by rw [hg]; exact (below_size (zg_1 HB.out)) : w.heap.size ≤ gb427)); replace HB := n0_; have Za := n1_; have Zq := n2_; have Zb := n3_; clear n0_ n1_ n2_ n3_; clear hb hbox hg)); go_upto_region 1 with (first | ((with_reducible refine gate_dst (N := 1) rfl ?_); (try (refine gate_guard (by rfl) ?_; dsimp only)); refine box_event ?hg (N := 1) ?hd (cs := #[.slice A0_0 l0_0.length c0_0, .slice A0_1 l0_1.length c0_1, .slice A0_2 l0_2.length c0_2, .slice A0_3 l0_3.length c0_3]) (t := 26) ?hr ?_; (case hd => rfl); (case hg => rfl); (case hr => first | (go_simp; done) | (go_simp; rfl)); intro gb427 hg w3 hbox hb; have n0_ := zm (below_step (zg_1 HB.out) hb); have n1_ := zm (hbox); have n2_ := zm ((by rw [hg]; exact (below_size (zg_1 HB.out)) : w.heap.size ≤ gb427)); have n3_ := zm ((by rw [hg]; exact (below_size (zg_1 HB.out)) : w.heap.size ≤ gb427)); replace HB := n0_; have Za := n1_; have Zq := n2_; have Zb := n3_; clear n0_ n1_ n2_ n3_; clear hb hbox hg)))
 (try simp only [Act.put, zs, zz, zt])
 go_cut [27] (fun v27 wc => ∃ (kq : Nat) (x27_1 : Bool), v27 = .bool x27_1 ∧ Aside0 (spec_l10Form.j0 kq x27_1 l0_0 l0_1 l0_2 l0_3 = some r) ∧ Aside0 (kq ≤ k) ∧ Aside0 (wc.heap[gb427]? = some (.cells #[(.slice A0_0 l0_0.length c0_0), (.slice A0_1 l0_1.length c0_1), (.slice A0_2 l0_2.length c0_2), (.slice A0_3 l0_3.length c0_3)] 26 (0, 0))) ∧ Aside0 (Below w.heap.size w wc))
 case first =>
  have H := HC2.out; clear HC2; replace H := Option.bind_eq_some_iff.mp H
  obtain ⟨t428, A40, H⟩ := H
  try dsimp only at H
  have A4 := zm A40; clear A40
  by_cases c5 : t428 = true
  ·subst c5
   replace H : ((spec_TableOK.f k l0_1).bind fun t429 => (if t429 = true then (if (l0_2.length : Int) > 3 then (spec_l10Form.j0 k true l0_0 l0_1 l0_2 l0_3) else (spec_l10Form.j0 k ((l0_3.length : Int) != 24) l0_0 l0_1 l0_2 l0_3)) else (spec_l10Form.j0 k true l0_0 l0_1 l0_2 l0_3))) = some r := by rw [if_pos rfl] at H; exact H
   replace H := Option.bind_eq_some_iff.mp H
   obtain ⟨t429, A60, H⟩ := H
   try dsimp only at H
   have A6 := zm A60; clear A60
   by_cases c7 : t429 = true
   ·subst c7
    replace H : (if (l0_2.length : Int) > 3 then (spec_l10Form.j0 k true l0_0 l0_1 l0_2 l0_3) else (spec_l10Form.j0 k ((l0_3.length : Int) != 24) l0_0 l0_1 l0_2 l0_3)) = some r := by rw [if_pos rfl] at H; exact H
    by_cases c8 : (l0_2.length : Int) > 3
    ·rw [if_pos c8] at H
     have c8b0 := decide_eq_true c8
     have c8b1 : decide (3 < l0_2.length) = true := decide_eq_true (by omega)
     clear c8
     (first | rw [c8b0] | (simp only [i64_w, i32_w]; rw [c8b0]) | skip)
     have H' := zm H
     clear H
     obtain ⟨hcz9_0, hcz9_1, hcz9_2, hcz9_3, hfz9_0, hfz9_1, hfz9_2, hfz9_3⟩ := zb4 Za.out
     go_wp2_with (first | (go_at_call 125; (with_reducible refine (spec_RefsOK.calls k _ _ l0_0 true _ ?side1 ?side2 A4.out).mono ?_); (case side1 => exact zC (Kd.C_below Zc.out HB.out)); (case side2 => exact Zd.out); rintro e w' ⟨rfl, ⟨nd, rfl⟩⟩; (try exact zn)) | (go_at_call 126; (with_reducible refine (spec_TableOK.calls k _ _ l0_1 true _ ?side1 ?side2 A6.out).mono ?_); (case side1 => exact zC (Kd.C_below Ze.out (zg_2 HB.out Zb.out))); (case side2 => exact Zf.out); rintro e w' ⟨rfl, ⟨nd, rfl⟩⟩; (try exact zn)))
     repeat (go_quiet (first | (go_at_call 125; (with_reducible refine (spec_RefsOK.calls k _ _ l0_0 true _ ?side1 ?side2 A4.out).mono ?_); (case side1 => exact zC (Kd.C_below Zc.out HB.out)); (case side2 => exact Zd.out); rintro e w' ⟨rfl, ⟨nd, rfl⟩⟩; (try exact zn)) | (go_at_call 126; (with_reducible refine (spec_TableOK.calls k _ _ l0_1 true _ ?side1 ?side2 A6.out).mono ?_); (case side1 => exact zC (Kd.C_below Ze.out (zg_2 HB.out Zb.out))); (case side2 => exact Zf.out); rintro e w' ⟨rfl, ⟨nd, rfl⟩⟩; (try exact zn))); try go_wp2_with (first | (go_at_call 125; (with_reducible refine (spec_RefsOK.calls k _ _ l0_0 true _ ?side1 ?side2 A4.out).mono ?_); (case side1 => exact zC (Kd.C_below Zc.out HB.out)); (case side2 => exact Zd.out); rintro e w' ⟨rfl, ⟨nd, rfl⟩⟩; (try exact zn)) | (go_at_call 126; (with_reducible refine (spec_TableOK.calls k _ _ l0_1 true _ ?side1 ?side2 A6.out).mono ?_); (case side1 => exact zC (Kd.C_below Ze.out (zg_2 HB.out Zb.out))); (case side2 => exact Zf.out); rintro e w' ⟨rfl, ⟨nd, rfl⟩⟩; (try exact zn))))
     go_meet
     case rel => exact ⟨_, (true), zr, H', ⟨by first | omega | exact Nat.le_refl _⟩, ⟨zl Za.out⟩, ⟨zg_2 HB.out Zb.out⟩⟩
    ·rw [if_neg c8] at H
     have c8b0 := decide_eq_false c8
     have c8b1 : decide (3 < l0_2.length) = false := decide_eq_false (by omega)
     clear c8
     (first | rw [c8b0] | (simp only [i64_w, i32_w]; rw [c8b0]) | skip)
     have H' := zm H
     clear H
     obtain ⟨hcz10_0, hcz10_1, hcz10_2, hcz10_3, hfz10_0, hfz10_1, hfz10_2, hfz10_3⟩ := zb4 Za.out
     go_wp2_with (first | (go_at_call 125; (with_reducible refine (spec_RefsOK.calls k _ _ l0_0 true _ ?side1 ?side2 A4.out).mono ?_); (case side1 => exact zC (Kd.C_below Zc.out HB.out)); (case side2 => exact Zd.out); rintro e w' ⟨rfl, ⟨nd, rfl⟩⟩; (try exact zn)) | (go_at_call 126; (with_reducible refine (spec_TableOK.calls k _ _ l0_1 true _ ?side1 ?side2 A6.out).mono ?_); (case side1 => exact zC (Kd.C_below Ze.out (zg_2 HB.out Zb.out))); (case side2 => exact Zf.out); rintro e w' ⟨rfl, ⟨nd, rfl⟩⟩; (try exact zn)))
     repeat (go_quiet (first | (go_at_call 125; (with_reducible refine (spec_RefsOK.calls k _ _ l0_0 true _ ?side1 ?side2 A4.out).mono ?_); (case side1 => exact zC (Kd.C_below Zc.out HB.out)); (case side2 => exact Zd.out); rintro e w' ⟨rfl, ⟨nd, rfl⟩⟩; (try exact zn)) | (go_at_call 126; (with_reducible refine (spec_TableOK.calls k _ _ l0_1 true _ ?side1 ?side2 A6.out).mono ?_); (case side1 => exact zC (Kd.C_below Ze.out (zg_2 HB.out Zb.out))); (case side2 => exact Zf.out); rintro e w' ⟨rfl, ⟨nd, rfl⟩⟩; (try exact zn))); try go_wp2_with (first | (go_at_call 125; (with_reducible refine (spec_RefsOK.calls k _ _ l0_0 true _ ?side1 ?side2 A4.out).mono ?_); (case side1 => exact zC (Kd.C_below Zc.out HB.out)); (case side2 => exact Zd.out); rintro e w' ⟨rfl, ⟨nd, rfl⟩⟩; (try exact zn)) | (go_at_call 126; (with_reducible refine (spec_TableOK.calls k _ _ l0_1 true _ ?side1 ?side2 A6.out).mono ?_); (case side1 => exact zC (Kd.C_below Ze.out (zg_2 HB.out Zb.out))); (case side2 => exact Zf.out); rintro e w' ⟨rfl, ⟨nd, rfl⟩⟩; (try exact zn))))
     go_meet
     case rel => exact ⟨_, (((l0_3.length : Int) != 24)), zr, H', ⟨by first | omega | exact Nat.le_refl _⟩, ⟨zl Za.out⟩, ⟨zg_2 HB.out Zb.out⟩⟩
   ·replace c7 := Bool.eq_false_iff.mpr c7
    subst c7
    replace H : (spec_l10Form.j0 k true l0_0 l0_1 l0_2 l0_3) = some r := by rw [if_neg (show ¬ (false = true) by decide)] at H; exact H
    have H' := zm H
    clear H
    obtain ⟨hcz11_0, hcz11_1, hcz11_2, hcz11_3, hfz11_0, hfz11_1, hfz11_2, hfz11_3⟩ := zb4 Za.out
    go_wp2_with (first | (go_at_call 125; (with_reducible refine (spec_RefsOK.calls k _ _ l0_0 true _ ?side1 ?side2 A4.out).mono ?_); (case side1 => exact zC (Kd.C_below Zc.out HB.out)); (case side2 => exact Zd.out); rintro e w' ⟨rfl, ⟨nd, rfl⟩⟩; (try exact zn)) | (go_at_call 126; (with_reducible refine (spec_TableOK.calls k _ _ l0_1 false _ ?side1 ?side2 A6.out).mono ?_); (case side1 => exact zC (Kd.C_below Ze.out (zg_2 HB.out Zb.out))); (case side2 => exact Zf.out); rintro e w' ⟨rfl, ⟨nd, rfl⟩⟩; (try exact zn)))
    repeat (go_quiet (first | (go_at_call 125; (with_reducible refine (spec_RefsOK.calls k _ _ l0_0 true _ ?side1 ?side2 A4.out).mono ?_); (case side1 => exact zC (Kd.C_below Zc.out HB.out)); (case side2 => exact Zd.out); rintro e w' ⟨rfl, ⟨nd, rfl⟩⟩; (try exact zn)) | (go_at_call 126; (with_reducible refine (spec_TableOK.calls k _ _ l0_1 false _ ?side1 ?side2 A6.out).mono ?_); (case side1 => exact zC (Kd.C_below Ze.out (zg_2 HB.out Zb.out))); (case side2 => exact Zf.out); rintro e w' ⟨rfl, ⟨nd, rfl⟩⟩; (try exact zn))); try go_wp2_with (first | (go_at_call 125; (with_reducible refine (spec_RefsOK.calls k _ _ l0_0 true _ ?side1 ?side2 A4.out).mono ?_); (case side1 => exact zC (Kd.C_below Zc.out HB.out)); (case side2 => exact Zd.out); rintro e w' ⟨rfl, ⟨nd, rfl⟩⟩; (try exact zn)) | (go_at_call 126; (with_reducible refine (spec_TableOK.calls k _ _ l0_1 false _ ?side1 ?side2 A6.out).mono ?_); (case side1 => exact zC (Kd.C_below Ze.out (zg_2 HB.out Zb.out))); (case side2 => exact Zf.out); rintro e w' ⟨rfl, ⟨nd, rfl⟩⟩; (try exact zn))))
    go_meet
    case rel => exact ⟨_, (true), zr, H', ⟨by first | omega | exact Nat.le_refl _⟩, ⟨zl Za.out⟩, ⟨zg_2 HB.out Zb.out⟩⟩
  ·replace c5 := Bool.eq_false_iff.mpr c5
   subst c5
   replace H : (spec_l10Form.j0 k true l0_0 l0_1 l0_2 l0_3) = some r := by rw [if_neg (show ¬ (false = true) by decide)] at H; exact H
   have H' := zm H
   clear H
   obtain ⟨hcz12_0, hcz12_1, hcz12_2, hcz12_3, hfz12_0, hfz12_1, hfz12_2, hfz12_3⟩ := zb4 Za.out
   go_wp2_with (first | (go_at_call 125; (with_reducible refine (spec_RefsOK.calls k _ _ l0_0 false _ ?side1 ?side2 A4.out).mono ?_); (case side1 => exact zC (Kd.C_below Zc.out HB.out)); (case side2 => exact Zd.out); rintro e w' ⟨rfl, ⟨nd, rfl⟩⟩; (try exact zn)))
   repeat (go_quiet (first | (go_at_call 125; (with_reducible refine (spec_RefsOK.calls k _ _ l0_0 false _ ?side1 ?side2 A4.out).mono ?_); (case side1 => exact zC (Kd.C_below Zc.out HB.out)); (case side2 => exact Zd.out); rintro e w' ⟨rfl, ⟨nd, rfl⟩⟩; (try exact zn))); try go_wp2_with (first | (go_at_call 125; (with_reducible refine (spec_RefsOK.calls k _ _ l0_0 false _ ?side1 ?side2 A4.out).mono ?_); (case side1 => exact zC (Kd.C_below Zc.out HB.out)); (case side2 => exact Zd.out); rintro e w' ⟨rfl, ⟨nd, rfl⟩⟩; (try exact zn))))
   go_meet
   case rel => exact ⟨_, (true), zr, H', ⟨by first | omega | exact Nat.le_refl _⟩, ⟨zl Za.out⟩, ⟨zg_2 HB.out Zb.out⟩⟩
 case rest =>
  clear HC2
  try clear p2
  try clear c5
  try clear c7
  try clear c8
  try clear c8b0
  try clear c8b1
  obtain ⟨kq, x27_1, rfl, HA, HJ1, Za, HB⟩ := hcut
  cases kq with
  | zero => exact absurd HA.out (by simp [spec_l10Form.j0])
  | succ kj1 =>
   have H := HA.out; clear HA
   simp only [spec_l10Form.j0] at H
   by_cases c13 : x27_1 = true
   ·subst c13
    replace H : (some false) = some r := by rw [if_pos rfl] at H; exact H
    obtain rfl := Option.some.inj H
    go_wp2
    repeat (go_quiet (fail); try go_wp2)
    go_ret
    exact ⟨ze, zg_2 HB.out Zb.out⟩
   ·replace c13 := Bool.eq_false_iff.mpr c13
    subst c13
    replace H : (spec_l10Form.l0 kj1 0 l0_0 l0_1 l0_2 l0_3) = some r := by rw [if_neg (show ¬ (false = true) by decide)] at H; exact H
    have H' := zm H
    clear H
    go_wp2
    repeat (go_quiet (fail); try go_wp2)
    go_loopg [3] kj1 (fun kq v3 w' => ∃ (x3_2 : Int), v3 = .int .i64 x3_2 ∧ Aside0 (spec_l10Form.l0 kq x3_2 l0_0 l0_1 l0_2 l0_3 = some r) ∧ Aside0 (kq ≤ kj1) ∧ Aside0 (w'.heap[gb427]? = some (.cells #[(.slice A0_0 l0_0.length c0_0), (.slice A0_1 l0_1.length c0_1), (.slice A0_2 l0_2.length c0_2), (.slice A0_3 l0_3.length c0_3)] 26 (0, 0))) ∧ Aside0 (Below w.heap.size w w'))
    case atStart => exact ⟨(0), zr, H', ⟨Nat.le_refl _⟩, ⟨zl Za.out⟩, ⟨zg_2 HB.out Zb.out⟩⟩
    case round =>
     clear H'
     try clear c1
     try clear p2
     try clear c5
     try clear c7
     try clear c8
     try clear c8b0
     try clear c8b1
     try clear c13
     try clear p2
     obtain ⟨x3_2, rfl, HA, HK2, Za, HB⟩ := hrel
     cases gk with
     | zero => exact absurd HA.out (by simp [spec_l10Form.l0])
     | succ k2 =>
      have H := HA.out; clear HA
      simp only [spec_l10Form.l0] at H
      by_cases c14 : x3_2 < (l0_2.length : Int)
      ·rw [if_pos c14] at H
       have c14b0 := decide_eq_true c14; clear c14; have Zr := zm H; clear H
       obtain ⟨hcz16_0, hcz16_1, hcz16_2, hcz16_3, hfz16_0, hfz16_1, hfz16_2, hfz16_3⟩ := zb4 Za.out
       go_upto_region 6 with (fail)
       repeat (go_quiet (fail); go_upto_region 6 with (fail))
       go_cut [52] (fun v52 wc => ∃ (kq : Nat) (x52_14 : Bool), v52 = .bool x52_14 ∧ Aside0 (spec_l10Form.j2 kq x3_2 x52_14 l0_0 l0_1 l0_2 l0_3 = some r) ∧ Aside0 (kq ≤ k2) ∧ Aside0 (wc.heap[gb427]? = some (.cells #[(.slice A0_0 l0_0.length c0_0), (.slice A0_1 l0_1.length c0_1), (.slice A0_2 l0_2.length c0_2), (.slice A0_3 l0_3.length c0_3)] 26 (0, 0))) ∧ Aside0 (Below w.heap.size w wc))
       case first =>
        have H := Zr.out; clear Zr
        by_cases c17 : 0 ≤ x3_2
        ·rw [if_pos c17] at H
         have c17b0 := decide_eq_true c17; clear c17
         (first | rw [c17b0] | (simp only [i64_w, i32_w]; rw [c17b0]) | skip)
         replace H := Option.bind_eq_some_iff.mp H
         obtain ⟨t431, A180, H⟩ := H
         try dsimp only at H
         have A18 := zm A180; clear A180
         by_cases c19 : t431 = true
         ·subst c19
          replace H : ((spec_TableOK.f k2 ((rd_T103 l0_2 x3_2).f1)).bind fun t433 => (spec_l10Form.j2 k2 x3_2 (!t433) l0_0 l0_1 l0_2 l0_3)) = some r := by rw [if_pos rfl] at H; exact H
          replace H := Option.bind_eq_some_iff.mp H
          obtain ⟨t433, A200, H⟩ := H
          try dsimp only at H
          have A20 := zm A200; clear A200
          have H' := zm H
          clear H
          obtain ⟨hcz21_0, hcz21_1, hcz21_2, hcz21_3, hfz21_0, hfz21_1, hfz21_2, hfz21_3⟩ := zb4 Za.out
          have p430 : 0 ≤ (x3_2 : Int) := zd
          have q430 : x3_2 < (l0_2.length : Int) := zd
          obtain ⟨ad430, A430_1, c430_1, e430, hx430_0, hx430_1, hl430_1, hi430_1⟩ := at_T103 Zg.out x3_2 p430 q430
          cases e430; replace hx430_0 := (HB.out.cell (World.block_lt_of_cell? w _ hx430_0)).trans hx430_0; replace hx430_1 := (HB.out.cell (World.block_lt_of_cell? w _ hx430_1)).trans hx430_1; have Zj := zm hi430_1; have Zk := zm hl430_1; clear hi430_1 hl430_1; replace p430 := eq_true p430; replace q430 := eq_true q430
          go_wp2_with (first | (go_at_call 104; (with_reducible refine (spec_l10Name.calls k2 ((rd_T103 l0_2 x3_2).f0) true _ A18.out).mono ?_); rintro e w' ⟨rfl, ⟨nd, rfl⟩⟩; (try exact zn); have p432 : 0 ≤ (x3_2 : Int) := zd; have q432 : x3_2 < (l0_2.length : Int) := zd; obtain ⟨ad432, A432_1, c432_1, e432, hx432_0, hx432_1, hl432_1, hi432_1⟩ := at_T103 Zg.out x3_2 p432 q432; obtain rfl : ad430 = ad432 := (by injection e432); replace hx432_0 := (HB.out.cell (World.block_lt_of_cell? w _ hx432_0)).trans hx432_0; replace hx432_1 := (HB.out.cell (World.block_lt_of_cell? w _ hx432_1)).trans hx432_1; have Zh := zm hi432_1; have Zi := zm hl432_1; clear hi432_1 hl432_1; replace p432 := eq_true p432; replace q432 := eq_true q432; have ea_ := Option.some.inj (hx430_1.symm.trans hx432_1); injection ea_ with ea_ en_ ec_; subst ea_; subst ec_; clear en_) | (go_at_call 126; (with_reducible refine (spec_TableOK.calls k2 _ _ ((rd_T103 l0_2 x3_2).f1) t433 _ ?side1 ?side2 A20.out).mono ?_); (case side1 => exact zC (Kd.C_below Zh.out (zg_2 HB.out Zb.out))); (case side2 => exact Zi.out); rintro e w' ⟨rfl, ⟨nd, rfl⟩⟩; (try exact zn)))
          repeat (go_quiet (first | (go_at_call 104; (with_reducible refine (spec_l10Name.calls k2 ((rd_T103 l0_2 x3_2).f0) true _ A18.out).mono ?_); rintro e w' ⟨rfl, ⟨nd, rfl⟩⟩; (try exact zn); have p432 : 0 ≤ (x3_2 : Int) := zd; have q432 : x3_2 < (l0_2.length : Int) := zd; obtain ⟨ad432, A432_1, c432_1, e432, hx432_0, hx432_1, hl432_1, hi432_1⟩ := at_T103 Zg.out x3_2 p432 q432; obtain rfl : ad430 = ad432 := (by injection e432); replace hx432_0 := (HB.out.cell (World.block_lt_of_cell? w _ hx432_0)).trans hx432_0; replace hx432_1 := (HB.out.cell (World.block_lt_of_cell? w _ hx432_1)).trans hx432_1; have Zh := zm hi432_1; have Zi := zm hl432_1; clear hi432_1 hl432_1; replace p432 := eq_true p432; replace q432 := eq_true q432; have ea_ := Option.some.inj (hx430_1.symm.trans hx432_1); injection ea_ with ea_ en_ ec_; subst ea_; subst ec_; clear en_) | (go_at_call 126; (with_reducible refine (spec_TableOK.calls k2 _ _ ((rd_T103 l0_2 x3_2).f1) t433 _ ?side1 ?side2 A20.out).mono ?_); (case side1 => exact zC (Kd.C_below Zh.out (zg_2 HB.out Zb.out))); (case side2 => exact Zi.out); rintro e w' ⟨rfl, ⟨nd, rfl⟩⟩; (try exact zn))); try go_wp2_with (first | (go_at_call 104; (with_reducible refine (spec_l10Name.calls k2 ((rd_T103 l0_2 x3_2).f0) true _ A18.out).mono ?_); rintro e w' ⟨rfl, ⟨nd, rfl⟩⟩; (try exact zn); have p432 : 0 ≤ (x3_2 : Int) := zd; have q432 : x3_2 < (l0_2.length : Int) := zd; obtain ⟨ad432, A432_1, c432_1, e432, hx432_0, hx432_1, hl432_1, hi432_1⟩ := at_T103 Zg.out x3_2 p432 q432; obtain rfl : ad430 = ad432 := (by injection e432); replace hx432_0 := (HB.out.cell (World.block_lt_of_cell? w _ hx432_0)).trans hx432_0; replace hx432_1 := (HB.out.cell (World.block_lt_of_cell? w _ hx432_1)).trans hx432_1; have Zh := zm hi432_1; have Zi := zm hl432_1; clear hi432_1 hl432_1; replace p432 := eq_true p432; replace q432 := eq_true q432; have ea_ := Option.some.inj (hx430_1.symm.trans hx432_1); injection ea_ with ea_ en_ ec_; subst ea_; subst ec_; clear en_) | (go_at_call 126; (with_reducible refine (spec_TableOK.calls k2 _ _ ((rd_T103 l0_2 x3_2).f1) t433 _ ?side1 ?side2 A20.out).mono ?_); (case side1 => exact zC (Kd.C_below Zh.out (zg_2 HB.out Zb.out))); (case side2 => exact Zi.out); rintro e w' ⟨rfl, ⟨nd, rfl⟩⟩; (try exact zn))))
          go_meet
          case rel => exact ⟨_, (!t433), zr, H', ⟨by have := HJ1.out; have := HK2.out; first | omega | exact Nat.le_refl _⟩, ⟨zl Za.out⟩, ⟨zg_2 HB.out Zb.out⟩⟩
         ·replace c19 := Bool.eq_false_iff.mpr c19
          subst c19
          replace H : (spec_l10Form.j2 k2 x3_2 true l0_0 l0_1 l0_2 l0_3) = some r := by rw [if_neg (show ¬ (false = true) by decide)] at H; exact H
          have H' := zm H
          clear H
          obtain ⟨hcz22_0, hcz22_1, hcz22_2, hcz22_3, hfz22_0, hfz22_1, hfz22_2, hfz22_3⟩ := zb4 Za.out
          have p430 : 0 ≤ (x3_2 : Int) := zd
          have q430 : x3_2 < (l0_2.length : Int) := zd
          obtain ⟨ad430, A430_1, c430_1, e430, hx430_0, hx430_1, hl430_1, hi430_1⟩ := at_T103 Zg.out x3_2 p430 q430
          cases e430; replace hx430_0 := (HB.out.cell (World.block_lt_of_cell? w _ hx430_0)).trans hx430_0; replace hx430_1 := (HB.out.cell (World.block_lt_of_cell? w _ hx430_1)).trans hx430_1; have Zj := zm hi430_1; have Zk := zm hl430_1; clear hi430_1 hl430_1; replace p430 := eq_true p430; replace q430 := eq_true q430
          go_wp2_with (first | (go_at_call 104; (with_reducible refine (spec_l10Name.calls k2 ((rd_T103 l0_2 x3_2).f0) false _ A18.out).mono ?_); rintro e w' ⟨rfl, ⟨nd, rfl⟩⟩; (try exact zn)))
          repeat (go_quiet (first | (go_at_call 104; (with_reducible refine (spec_l10Name.calls k2 ((rd_T103 l0_2 x3_2).f0) false _ A18.out).mono ?_); rintro e w' ⟨rfl, ⟨nd, rfl⟩⟩; (try exact zn))); try go_wp2_with (first | (go_at_call 104; (with_reducible refine (spec_l10Name.calls k2 ((rd_T103 l0_2 x3_2).f0) false _ A18.out).mono ?_); rintro e w' ⟨rfl, ⟨nd, rfl⟩⟩; (try exact zn))))
          go_meet
          case rel => exact ⟨_, (true), zr, H', ⟨by have := HJ1.out; have := HK2.out; first | omega | exact Nat.le_refl _⟩, ⟨zl Za.out⟩, ⟨zg_2 HB.out Zb.out⟩⟩
        ·rw [if_neg c17] at H
         exact absurd H (by simp)
       case rest =>
        clear Zr
        try clear c1
        try clear p2
        try clear c4
        try clear p4
        try clear q4
        try clear hx4
        try clear c5
        try clear c7
        try clear c8
        try clear c8b0
        try clear c8b1
        try clear c13
        try clear c14
        try clear c14b0
        try clear c17
        try clear c17b0
        try clear c19
        try clear hx430_0
        try clear hx430_1
        try clear hx432_0
        try clear hx432_1
        try clear p2
        try clear p430
        try clear p432
        try clear q430
        try clear q432
        obtain ⟨kq, x52_14, rfl, HA, HJ14, Za, HB⟩ := hcut
        cases kq with
        | zero => exact absurd HA.out (by simp [spec_l10Form.j2])
        | succ kj14 =>
         have H := HA.out; clear HA
         simp only [spec_l10Form.j2] at H
         by_cases c23 : x52_14 = true
         ·subst c23
          replace H : (some false) = some r := by rw [if_pos rfl] at H; exact H
          obtain rfl := Option.some.inj H
          go_wp2
          repeat (go_quiet (fail); try go_wp2)
          go_ret
          exact ⟨ze, zg_2 HB.out Zb.out⟩
         ·replace c23 := Bool.eq_false_iff.mpr c23
          subst c23
          replace H : (spec_l10Form.l1 kj14 x3_2 0 l0_0 l0_1 l0_2 l0_3) = some r := by rw [if_neg (show ¬ (false = true) by decide)] at H; exact H
          have H' := zm H
          clear H
          go_wp2
          repeat (go_quiet (fail); try go_wp2)
          go_loopg [4] kj14 (fun kq v4 w' => ∃ (x4_4 : Int), v4 = .int .i64 x4_4 ∧ Aside0 (spec_l10Form.l1 kq x3_2 x4_4 l0_0 l0_1 l0_2 l0_3 = some r) ∧ Aside0 (kq ≤ kj14) ∧ Aside0 (w'.heap[gb427]? = some (.cells #[(.slice A0_0 l0_0.length c0_0), (.slice A0_1 l0_1.length c0_1), (.slice A0_2 l0_2.length c0_2), (.slice A0_3 l0_3.length c0_3)] 26 (0, 0))) ∧ Aside0 (Below w.heap.size w w'))
          case atStart => exact ⟨(0), zr, H', ⟨Nat.le_refl _⟩, ⟨zl Za.out⟩, ⟨zg_2 HB.out Zb.out⟩⟩
          case round =>
           clear H'
           try clear c1
           try clear c2
           try clear p2
           try clear c4
           try clear p4
           try clear q4
           try clear hx4
           try clear c5
           try clear c7
           try clear c8
           try clear c8b0
           try clear c8b1
           try clear c13
           try clear c14
           try clear c14b0
           try clear c17
           try clear c17b0
           try clear c19
           try clear c23
           try clear hx430_0
           try clear hx430_1
           try clear hx432_0
           try clear hx432_1
           try clear p2
           try clear p4
           try clear p430
           try clear p432
           try clear q4
           try clear q430
           try clear q432
           obtain ⟨x4_4, rfl, HA, HK4, Za, HB⟩ := hrel
           cases gk with
           | zero => exact absurd HA.out (by simp [spec_l10Form.l1])
           | succ k4 =>
            have H := HA.out; clear HA
            simp only [spec_l10Form.l1] at H
            by_cases c24 : x4_4 < x3_2
            ·rw [if_pos c24] at H
             have c24b0 := decide_eq_true c24; clear c24
             by_cases c25 : 0 ≤ x4_4
             ·rw [if_pos c25] at H
              have c25b0 := decide_eq_true c25; clear c25
              by_cases c26 : x4_4 < (l0_2.length : Int)
              ·rw [if_pos c26] at H
               have c26b0 := decide_eq_true c26; clear c26
               by_cases c27 : 0 ≤ x3_2
               ·rw [if_pos c27] at H
                have c27b0 := decide_eq_true c27; clear c27
                by_cases c28 : x3_2 < (l0_2.length : Int)
                ·rw [if_pos c28] at H
                 have c28b0 := decide_eq_true c28; clear c28
                 by_cases c29 : ((rd_T103 l0_2 x4_4).f0).toList = ((rd_T103 l0_2 x3_2).f0).toList
                 ·rw [if_pos c29] at H
                  have c29b0 : (((rd_T103 l0_2 x4_4).f0).toList == ((rd_T103 l0_2 x3_2).f0).toList) = true := beq_iff_eq.mpr c29
                  have c29b1 : (((rd_T103 l0_2 x4_4).f0).toList != ((rd_T103 l0_2 x3_2).f0).toList) = false := bne_eq_false_iff_eq.mpr c29
                  clear c29; obtain rfl := Option.some.inj H
                  obtain ⟨hcz30_0, hcz30_1, hcz30_2, hcz30_3, hfz30_0, hfz30_1, hfz30_2, hfz30_3⟩ := zb4 Za.out
                  have p434 : 0 ≤ (x4_4 : Int) := zd
                  have q434 : x4_4 < (l0_2.length : Int) := zd
                  obtain ⟨ad434, A434_1, c434_1, e434, hx434_0, hx434_1, hl434_1, hi434_1⟩ := at_T103 Zg.out x4_4 p434 q434
                  cases e434; replace hx434_0 := (HB.out.cell (World.block_lt_of_cell? w _ hx434_0)).trans hx434_0; replace hx434_1 := (HB.out.cell (World.block_lt_of_cell? w _ hx434_1)).trans hx434_1; have Zl := zm hi434_1; have Zm := zm hl434_1; clear hi434_1 hl434_1; replace p434 := eq_true p434; replace q434 := eq_true q434
                  have p435 : 0 ≤ (x3_2 : Int) := zd
                  have q435 : x3_2 < (l0_2.length : Int) := zd
                  obtain ⟨ad435, A435_1, c435_1, e435, hx435_0, hx435_1, hl435_1, hi435_1⟩ := at_T103 Zg.out x3_2 p435 q435
                  obtain rfl : ad434 = ad435 := (by injection e435)
                  (try (have ea_ := Option.some.inj (hx435_1.symm.trans hw434_1); injection ea_ with ea_ en_ ec_; subst ea_; subst ec_))
                  replace hx435_0 := (HB.out.cell (World.block_lt_of_cell? w _ hx435_0)).trans hx435_0; replace hx435_1 := (HB.out.cell (World.block_lt_of_cell? w _ hx435_1)).trans hx435_1; have Zn := zm hi435_1; have Zo := zm hl435_1; clear hi435_1 hl435_1; replace p435 := eq_true p435; replace q435 := eq_true q435
                  go_wp2
                  repeat (go_quiet (fail); try go_wp2)
                  go_ret
                  exact ⟨ze, zg_2 HB.out Zb.out⟩
                 ·rw [if_neg c29] at H
                  have c29b0 : (((rd_T103 l0_2 x4_4).f0).toList == ((rd_T103 l0_2 x3_2).f0).toList) = false := beq_eq_false_iff_ne.mpr c29
                  have c29b1 : (((rd_T103 l0_2 x4_4).f0).toList != ((rd_T103 l0_2 x3_2).f0).toList) = true := bne_iff_ne.mpr c29
                  have H' := zm H
                  clear H
                  obtain ⟨hcz31_0, hcz31_1, hcz31_2, hcz31_3, hfz31_0, hfz31_1, hfz31_2, hfz31_3⟩ := zb4 Za.out
                  have p434 : 0 ≤ (x4_4 : Int) := zd
                  have q434 : x4_4 < (l0_2.length : Int) := zd
                  obtain ⟨ad434, A434_1, c434_1, e434, hx434_0, hx434_1, hl434_1, hi434_1⟩ := at_T103 Zg.out x4_4 p434 q434
                  cases e434; replace hx434_0 := (HB.out.cell (World.block_lt_of_cell? w _ hx434_0)).trans hx434_0; replace hx434_1 := (HB.out.cell (World.block_lt_of_cell? w _ hx434_1)).trans hx434_1; have Zl := zm hi434_1; have Zm := zm hl434_1; clear hi434_1 hl434_1; replace p434 := eq_true p434; replace q434 := eq_true q434
                  have p435 : 0 ≤ (x3_2 : Int) := zd
                  have q435 : x3_2 < (l0_2.length : Int) := zd
                  obtain ⟨ad435, A435_1, c435_1, e435, hx435_0, hx435_1, hl435_1, hi435_1⟩ := at_T103 Zg.out x3_2 p435 q435
                  obtain rfl : ad434 = ad435 := (by injection e435)
                  (try (have ea_ := Option.some.inj (hx435_1.symm.trans hw434_1); injection ea_ with ea_ en_ ec_; subst ea_; subst ec_))
                  replace hx435_0 := (HB.out.cell (World.block_lt_of_cell? w _ hx435_0)).trans hx435_0; replace hx435_1 := (HB.out.cell (World.block_lt_of_cell? w _ hx435_1)).trans hx435_1; have Zn := zm hi435_1; have Zo := zm hl435_1; clear hi435_1 hl435_1; replace p435 := eq_true p435; replace q435 := eq_true q435
                  go_wp2
                  repeat (go_quiet (fail); try go_wp2)
                  go_roundg k4
                  case measure => have := HJ1.out; have := HK2.out; have := HJ14.out; have := HK4.out; omega
                  case rel => exact ⟨(wrap64 (x4_4 + 1)), zr, H', ⟨by have := HJ1.out; have := HK2.out; have := HJ14.out; have := HK4.out; omega⟩, ⟨zl Za.out⟩, ⟨zg_2 HB.out Zb.out⟩⟩
                ·rw [if_neg c28] at H
                 exact absurd H (by simp)
               ·rw [if_neg c27] at H
                exact absurd H (by simp)
              ·rw [if_neg c26] at H
               exact absurd H (by simp)
             ·rw [if_neg c25] at H
              exact absurd H (by simp)
            ·rw [if_neg c24] at H
             have c24b0 := decide_eq_false c24; clear c24
             have H' := zm H
             clear H
             go_wp2
             repeat (go_quiet (fail); try go_wp2)
             go_roundg k4
             case measure => have := HJ1.out; have := HK2.out; have := HJ14.out; have := HK4.out; omega
             case rel => exact ⟨(wrap64 (x3_2 + 1)), zr, H', ⟨by have := HJ1.out; have := HK2.out; have := HJ14.out; have := HK4.out; omega⟩, ⟨zl Za.out⟩, ⟨zg_2 HB.out Zb.out⟩⟩
      ·rw [if_neg c14] at H
       have c14b0 := decide_eq_false c14; clear c14
       have H' := zm H
       clear H
       obtain ⟨hcz32_0, hcz32_1, hcz32_2, hcz32_3, hfz32_0, hfz32_1, hfz32_2, hfz32_3⟩ := zb4 Za.out
       go_wp2
       repeat (go_quiet (fail); try go_wp2)
       go_loopg [5] k2 (fun kq v5 w' => ∃ (x5_3 : Int), v5 = .int .i64 x5_3 ∧ Aside0 (spec_l10Form.l2 kq x5_3 l0_0 l0_1 l0_2 l0_3 = some r) ∧ Aside0 (kq ≤ k2) ∧ Aside0 (w'.heap[gb427]? = some (.cells #[(.slice A0_0 l0_0.length c0_0), (.slice A0_1 l0_1.length c0_1), (.slice A0_2 l0_2.length c0_2), (.slice A0_3 l0_3.length c0_3)] 26 (0, 0))) ∧ Aside0 (Below w.heap.size w w'))
       case atStart => exact ⟨(0), zr, H', ⟨Nat.le_refl _⟩, ⟨zl Za.out⟩, ⟨zg_2 HB.out Zb.out⟩⟩
       case round =>
        clear H'
        try clear c1
        try clear c2
        try clear p2
        try clear c4
        try clear p4
        try clear q4
        try clear hx4
        try clear c5
        try clear p6
        try clear c7
        try clear c8
        try clear c8b0
        try clear c8b1
        try clear c13
        try clear c14
        try clear c14b0
        try clear c17
        try clear c17b0
        try clear c19
        try clear c23
        try clear c24
        try clear c24b0
        try clear c25
        try clear c25b0
        try clear c26
        try clear c26b0
        try clear c27
        try clear c27b0
        try clear c28
        try clear c28b0
        try clear c29
        try clear c29b0
        try clear c29b1
        try clear hx430_0
        try clear hx430_1
        try clear hx432_0
        try clear hx432_1
        try clear hx434_0
        try clear hx434_1
        try clear hx435_0
        try clear hx435_1
        try clear p2
        try clear p4
        try clear p430
        try clear p432
        try clear p434
        try clear p435
        try clear q4
        try clear q430
        try clear q432
        try clear q434
        try clear q435
        obtain ⟨x5_3, rfl, HA, HK3, Za, HB⟩ := hrel
        cases gk with
        | zero => exact absurd HA.out (by simp [spec_l10Form.l2])
        | succ k3 =>
         have H := HA.out; clear HA
         simp only [spec_l10Form.l2] at H
         by_cases c33 : x5_3 < (l0_3.length : Int)
         ·rw [if_pos c33] at H
          have c33b0 := decide_eq_true c33; clear c33
          by_cases c34 : 0 ≤ x5_3
          ·rw [if_pos c34] at H
           have c34b0 := decide_eq_true c34; clear c34; replace H := Option.bind_eq_some_iff.mp H
           obtain ⟨t437, A350, H⟩ := H
           try dsimp only at H
           have A35 := zm A350; clear A350
           by_cases c36 : t437 = true
           ·subst c36
            replace H : (spec_l10Form.l2 k3 (wrap64 (x5_3 + 1)) l0_0 l0_1 l0_2 l0_3) = some r := by rw [if_pos rfl] at H; exact H
            have H' := zm H
            clear H
            obtain ⟨hcz37_0, hcz37_1, hcz37_2, hcz37_3, hfz37_0, hfz37_1, hfz37_2, hfz37_3⟩ := zb4 Za.out
            have p436 : 0 ≤ (x5_3 : Int) := zd
            have q436 : x5_3 < (l0_3.length : Int) := zd
            obtain ⟨ad436, e436, hx436_0⟩ := Kd.at_int Zp.out x5_3 p436 q436
            cases e436; replace hx436_0 := (HB.out.cell (World.block_lt_of_cell? w _ hx436_0)).trans hx436_0; replace p436 := eq_true p436; replace q436 := eq_true q436
            go_wp2_with (first | (go_at_call 127; (with_reducible refine (spec_l02Int.calls (rd l0_3 x5_3) true _ A35.out).mono ?_); rintro e w' ⟨rfl, ⟨nd, rfl⟩⟩; (try exact zn)))
            repeat (go_quiet (first | (go_at_call 127; (with_reducible refine (spec_l02Int.calls (rd l0_3 x5_3) true _ A35.out).mono ?_); rintro e w' ⟨rfl, ⟨nd, rfl⟩⟩; (try exact zn))); try go_wp2_with (first | (go_at_call 127; (with_reducible refine (spec_l02Int.calls (rd l0_3 x5_3) true _ A35.out).mono ?_); rintro e w' ⟨rfl, ⟨nd, rfl⟩⟩; (try exact zn))))
            go_roundg k3
            case measure => have := HJ1.out; have := HK2.out; have := HK3.out; omega
            case rel => exact ⟨(wrap64 (x5_3 + 1)), zr, H', ⟨by have := HJ1.out; have := HK2.out; have := HK3.out; omega⟩, ⟨zl Za.out⟩, ⟨zg_2 HB.out Zb.out⟩⟩
           ·replace c36 := Bool.eq_false_iff.mpr c36
            subst c36
            replace H : (some false) = some r := by rw [if_neg (show ¬ (false = true) by decide)] at H; exact H
            obtain rfl := Option.some.inj H
            obtain ⟨hcz38_0, hcz38_1, hcz38_2, hcz38_3, hfz38_0, hfz38_1, hfz38_2, hfz38_3⟩ := zb4 Za.out
            have p436 : 0 ≤ (x5_3 : Int) := zd
            have q436 : x5_3 < (l0_3.length : Int) := zd
            obtain ⟨ad436, e436, hx436_0⟩ := Kd.at_int Zp.out x5_3 p436 q436
            cases e436; replace hx436_0 := (HB.out.cell (World.block_lt_of_cell? w _ hx436_0)).trans hx436_0; replace p436 := eq_true p436; replace q436 := eq_true q436
            go_wp2_with (first | (go_at_call 127; (with_reducible refine (spec_l02Int.calls (rd l0_3 x5_3) false _ A35.out).mono ?_); rintro e w' ⟨rfl, ⟨nd, rfl⟩⟩; (try exact zn)))
            repeat (go_quiet (first | (go_at_call 127; (with_reducible refine (spec_l02Int.calls (rd l0_3 x5_3) false _ A35.out).mono ?_); rintro e w' ⟨rfl, ⟨nd, rfl⟩⟩; (try exact zn))); try go_wp2_with (first | (go_at_call 127; (with_reducible refine (spec_l02Int.calls (rd l0_3 x5_3) false _ A35.out).mono ?_); rintro e w' ⟨rfl, ⟨nd, rfl⟩⟩; (try exact zn))))
            go_ret
            exact ⟨ze, zg_2 HB.out Zb.out⟩
          ·rw [if_neg c34] at H
           exact absurd H (by simp)
         ·rw [if_neg c33] at H
          have c33b0 := decide_eq_false c33; clear c33; obtain rfl := Option.some.inj H
          obtain ⟨hcz39_0, hcz39_1, hcz39_2, hcz39_3, hfz39_0, hfz39_1, hfz39_2, hfz39_3⟩ := zb4 Za.out
          go_wp2
          repeat (go_quiet (fail); try go_wp2)
          go_ret
          exact ⟨ze, zg_2 HB.out Zb.out⟩
mutual
def spec_l10Twice.l0 : Nat → List Int → Int → Option (Bool)
  | 0, _, _ => none
  | k + 1, x3, x4 => if x4 < (x3.length : Int) then (spec_l10Twice.l1 k x3 x4 0) else (some false)
def spec_l10Twice.l1 : Nat → List Int → Int → Int → Option (Bool)
  | 0, _, _, _ => none
  | k + 1, x3, x4, x5 => if x5 < x4 then (if 0 ≤ x4 then (if x4 < (x3.length : Int) then (if 0 ≤ x5 then (if x5 < (x3.length : Int) then (if (rd x3 x4) = (rd x3 x5) then (some true) else (spec_l10Twice.l1 k x3 x4 (wrap64 (x5 + 1)))) else (none)) else (none)) else (none)) else (none)) else (spec_l10Twice.l0 k x3 (wrap64 (x4 + 1)))
end
def spec_l10Twice.f (k : Nat) (l0 : List Int) : Option (Bool) := (spec_l09Clusters.f k l0).bind fun t438 => (spec_l10Twice.l0 k t438 0)
theorem spec_l10Twice.mono_l : ∀ k, (∀ y0 y1, LeO (spec_l10Twice.l0 k y0 y1) (spec_l10Twice.l0 (k + 1) y0 y1)) ∧ (∀ y0 y1 y2, LeO (spec_l10Twice.l1 k y0 y1 y2) (spec_l10Twice.l1 (k + 1) y0 y1 y2))
  | 0 => ⟨fun _ _ r h => by simp [spec_l10Twice.l0] at h, fun _ _ _ r h => by simp [spec_l10Twice.l1] at h⟩
  | k + 1 => by
    obtain ⟨ih0, ih1⟩ := spec_l10Twice.mono_l k
    refine ⟨?_, ?_⟩
    · intro y0 y1
      unfold spec_l10Twice.l0
      repeat' first| (with_reducible first | exact ih0 _ _ | exact ih1 _ _ _ | exact spec_l09Clusters.mono _ _ | exact LeO.refl _ | exact LeO.none _ | refine LeO.ite ?_ ?_ | refine LeO.bind ?_ (fun _ => ?_)) | exact ih0 _ _ | exact ih1 _ _ _ | exact spec_l09Clusters.mono _ _ | exact LeO.none _ | refine LeO.ite ?_ ?_ | refine LeO.bind ?_ (fun _ => ?_)
    · intro y0 y1 y2
      unfold spec_l10Twice.l1
      repeat' first| (with_reducible first | exact ih0 _ _ | exact ih1 _ _ _ | exact spec_l09Clusters.mono _ _ | exact LeO.refl _ | exact LeO.none _ | refine LeO.ite ?_ ?_ | refine LeO.bind ?_ (fun _ => ?_)) | exact ih0 _ _ | exact ih1 _ _ _ | exact spec_l09Clusters.mono _ _ | exact LeO.none _ | refine LeO.ite ?_ ?_ | refine LeO.bind ?_ (fun _ => ?_)
theorem spec_l10Twice.mono : ∀ a0 k, LeO (spec_l10Twice.f k a0) (spec_l10Twice.f (k + 1) a0) := by
  intro a0 k
  obtain ⟨ih0, ih1⟩ := spec_l10Twice.mono_l k
  unfold spec_l10Twice.f
  repeat' first| (with_reducible first | exact ih0 _ _ | exact ih1 _ _ _ | exact spec_l09Clusters.mono _ _ | exact LeO.refl _ | exact LeO.none _ | refine LeO.ite ?_ ?_ | refine LeO.bind ?_ (fun _ => ?_)) | exact ih0 _ _ | exact ih1 _ _ _ | exact spec_l09Clusters.mono _ _ | exact LeO.none _ | refine LeO.ite ?_ ?_ | refine LeO.bind ?_ (fun _ => ?_)
set_option maxHeartbeats 8000000 in
set_option maxRecDepth 100000 in
theorem spec_l10Twice.calls (k : Nat) (A0 : Option Addr) (c0 : Nat) (l0 : List Int) (r : Bool) (w : World) (hr0 : Kd.C (Kd.int .i64) w A0 l0.length l0) (hc0 : l0.length ≤ c0) (h : spec_l10Twice.f k l0 = some r) :
    Calls Tryz.prog 85 #[.slice A0 l0.length c0] w fun e w' => e = .returned (.bool r) ∧ Below w.heap.size w w' := by
 have HR0 := zm hr0; have HC0 := zm hc0; clear hr0 hc0; have HB := zm (Below.refl w.heap.size w)
 have H : ((spec_l09Clusters.f k l0).bind fun t438 => (spec_l10Twice.l0 k t438 0)) = some r := h
 clear h; replace H := Option.bind_eq_some_iff.mp H
 obtain ⟨t438, A20, H⟩ := H
 replace H : (spec_l10Twice.l0 k t438 0) = some r := H
 have A2 := zm A20; clear A20
 have H' := zm H
 clear H
 go_enter Tryz.func85, Tryz.ntmps85
 go_wp2_with (first | (go_at_call 128; (with_reducible refine (spec_l09Clusters.calls k _ _ l0 t438 _ ?side1 ?side2 A2.out).mono ?_); (case side1 => exact zC HR0.out); (case side2 => exact HC0.out); rintro e w3 ⟨v439, rfl, ho0, hb⟩; have n0_ := zm (Kd.R_lower ho0 (below_size (zg_1 HB.out))); have n1_ := zm (below_step (zg_1 HB.out) hb); have Zb := n0_; replace HB := n1_; clear n0_ n1_; (try clear hb); (try clear hb2); (try clear hk); (try clear hi); (try clear ho0)))
 repeat (go_quiet (first | (go_at_call 128; (with_reducible refine (spec_l09Clusters.calls k _ _ l0 t438 _ ?side1 ?side2 A2.out).mono ?_); (case side1 => exact zC HR0.out); (case side2 => exact HC0.out); rintro e w3 ⟨v439, rfl, ho0, hb⟩; have n0_ := zm (Kd.R_lower ho0 (below_size (zg_1 HB.out))); have n1_ := zm (below_step (zg_1 HB.out) hb); have Zb := n0_; replace HB := n1_; clear n0_ n1_; (try clear hb); (try clear hb2); (try clear hk); (try clear hi); (try clear ho0))); try go_wp2_with (first | (go_at_call 128; (with_reducible refine (spec_l09Clusters.calls k _ _ l0 t438 _ ?side1 ?side2 A2.out).mono ?_); (case side1 => exact zC HR0.out); (case side2 => exact HC0.out); rintro e w3 ⟨v439, rfl, ho0, hb⟩; have n0_ := zm (Kd.R_lower ho0 (below_size (zg_1 HB.out))); have n1_ := zm (below_step (zg_1 HB.out) hb); have Zb := n0_; replace HB := n1_; clear n0_ n1_; (try clear hb); (try clear hb2); (try clear hk); (try clear hi); (try clear ho0))))
 go_loopg [4] k (fun kq v4 w' => ∃ (x4_1 : Int), v4 = .int .i64 x4_1 ∧ Aside0 (spec_l10Twice.l0 kq t438 x4_1 = some r) ∧ Aside0 (kq ≤ k) ∧ Aside0 (Kd.R (Kd.int .i64) 3 w' w.heap.size (fun _ => True) v439 t438) ∧ Aside0 (Below w.heap.size w w'))
 case atStart => exact ⟨(0), zr, H', ⟨Nat.le_refl _⟩, ⟨zlR Zb.out⟩, ⟨zg_1 HB.out⟩⟩
 case round =>
  clear H'
  try clear p2
  obtain ⟨x4_1, rfl, HA, HK1, Za, HB⟩ := hrel
  cases gk with
  | zero => exact absurd HA.out (by simp [spec_l10Twice.l0])
  | succ k1 =>
   have H := HA.out; clear HA
   simp only [spec_l10Twice.l0] at H
   by_cases c4 : x4_1 < (t438.length : Int)
   ·rw [if_pos c4] at H
    have c4b0 := decide_eq_true c4; clear c4
    have H' := zm H
    clear H
    obtain ⟨Ao5, co5, eo5⟩ := Kd.R_slice Za.out
    subst eo5
    go_wp2
    repeat (go_quiet (fail); try go_wp2)
    go_loopg [5] k1 (fun kq v5 w' => ∃ (x5_2 : Int), v5 = .int .i64 x5_2 ∧ Aside0 (spec_l10Twice.l1 kq t438 x4_1 x5_2 = some r) ∧ Aside0 (kq ≤ k1) ∧ Aside0 (Kd.R (Kd.int .i64) 3 w' w.heap.size (fun _ => True) (.slice Ao5 t438.length co5) t438) ∧ Aside0 (Below w.heap.size w w'))
    case atStart => exact ⟨(0), zr, H', ⟨Nat.le_refl _⟩, ⟨zlR Za.out⟩, ⟨zg_1 HB.out⟩⟩
    case round =>
     clear H'
     try clear p2
     try clear c4
     try clear c4b0
     try clear p2
     obtain ⟨x5_2, rfl, HA, HK2, Za, HB⟩ := hrel
     cases gk with
     | zero => exact absurd HA.out (by simp [spec_l10Twice.l1])
     | succ k2 =>
      have H := HA.out; clear HA
      simp only [spec_l10Twice.l1] at H
      by_cases c6 : x5_2 < x4_1
      ·rw [if_pos c6] at H
       have c6b0 := decide_eq_true c6; clear c6
       by_cases c7 : 0 ≤ x4_1
       ·rw [if_pos c7] at H
        have c7b0 := decide_eq_true c7; clear c7
        by_cases c8 : x4_1 < (t438.length : Int)
        ·rw [if_pos c8] at H
         have c8b0 := decide_eq_true c8; clear c8
         by_cases c9 : 0 ≤ x5_2
         ·rw [if_pos c9] at H
          have c9b0 := decide_eq_true c9; clear c9
          by_cases c10 : x5_2 < (t438.length : Int)
          ·rw [if_pos c10] at H
           have c10b0 := decide_eq_true c10; clear c10
           by_cases c11 : (rd t438 x4_1) = (rd t438 x5_2)
           ·rw [if_pos c11] at H
            have c11b0 : ((rd t438 x4_1) == (rd t438 x5_2)) = true := beq_iff_eq.mpr c11
            have c11b1 : ((rd t438 x4_1) != (rd t438 x5_2)) = false := bne_eq_false_iff_eq.mpr c11
            clear c11; obtain rfl := Option.some.inj H
            have p441 : 0 ≤ (x4_1 : Int) := zd
            have q441 : x4_1 < (t438.length : Int) := zd
            obtain ⟨ad441, e441, hx441_0⟩ := Kd.at_int (Kd.R_reads' Za.out).2.2 x4_1 p441 q441
            cases e441; replace p441 := eq_true p441; replace q441 := eq_true q441
            have p442 : 0 ≤ (x5_2 : Int) := zd
            have q442 : x5_2 < (t438.length : Int) := zd
            obtain ⟨ad442, e442, hx442_0⟩ := Kd.at_int (Kd.R_reads' Za.out).2.2 x5_2 p442 q442
            obtain rfl : ad441 = ad442 := (by injection e442)
            replace p442 := eq_true p442; replace q442 := eq_true q442
            go_wp2
            repeat (go_quiet (fail); try go_wp2)
            go_ret
            exact ⟨ze, zg_1 HB.out⟩
           ·rw [if_neg c11] at H
            have c11b0 : ((rd t438 x4_1) == (rd t438 x5_2)) = false := beq_eq_false_iff_ne.mpr c11
            have c11b1 : ((rd t438 x4_1) != (rd t438 x5_2)) = true := bne_iff_ne.mpr c11
            have H' := zm H
            clear H
            have p441 : 0 ≤ (x4_1 : Int) := zd
            have q441 : x4_1 < (t438.length : Int) := zd
            obtain ⟨ad441, e441, hx441_0⟩ := Kd.at_int (Kd.R_reads' Za.out).2.2 x4_1 p441 q441
            cases e441; replace p441 := eq_true p441; replace q441 := eq_true q441
            have p442 : 0 ≤ (x5_2 : Int) := zd
            have q442 : x5_2 < (t438.length : Int) := zd
            obtain ⟨ad442, e442, hx442_0⟩ := Kd.at_int (Kd.R_reads' Za.out).2.2 x5_2 p442 q442
            obtain rfl : ad441 = ad442 := (by injection e442)
            replace p442 := eq_true p442; replace q442 := eq_true q442
            go_wp2
            repeat (go_quiet (fail); try go_wp2)
            go_roundg k2
            case measure => have := HK1.out; have := HK2.out; omega
            case rel => exact ⟨(wrap64 (x5_2 + 1)), zr, H', ⟨by have := HK1.out; have := HK2.out; omega⟩, ⟨zlR Za.out⟩, ⟨zg_1 HB.out⟩⟩
          ·rw [if_neg c10] at H
           exact absurd H (by simp)
         ·rw [if_neg c9] at H
          exact absurd H (by simp)
        ·rw [if_neg c8] at H
         exact absurd H (by simp)
       ·rw [if_neg c7] at H
        exact absurd H (by simp)
      ·rw [if_neg c6] at H
       have c6b0 := decide_eq_false c6; clear c6
       have H' := zm H
       clear H
       go_wp2
       repeat (go_quiet (fail); try go_wp2)
       go_roundg k2
       case measure => have := HK1.out; have := HK2.out; omega
       case rel => exact ⟨(wrap64 (x4_1 + 1)), zr, H', ⟨by have := HK1.out; have := HK2.out; omega⟩, ⟨zlR Za.out⟩, ⟨zg_1 HB.out⟩⟩
   ·rw [if_neg c4] at H
    have c4b0 := decide_eq_false c4; clear c4; obtain rfl := Option.some.inj H
    obtain ⟨Ao12, co12, eo12⟩ := Kd.R_slice Za.out
    subst eo12
    go_wp2
    repeat (go_quiet (fail); try go_wp2)
    go_ret
    exact ⟨ze, zg_1 HB.out⟩
mutual
def spec_ImageOK.j0 : Nat → Bool → List Int → List Int → List (S103) → List Int → Option (Bool)
  | 0, _, _, _, _, _ => none
  | k + 1, x13, x462000, x462001, x462002, x462003 => if x13 = true then (some false) else (spec_ImageOK.l0 k 0 x462000 x462001 x462002 x462003)
def spec_ImageOK.l0 : Nat → Int → List Int → List Int → List (S103) → List Int → Option (Bool)
  | 0, _, _, _, _, _ => none
  | k + 1, x3, x462000, x462001, x462002, x462003 => if x3 < (x462002.length : Int) then (if 0 ≤ x3 then ((spec_l10Twice.f k ((rd_T103 x462002 x3).f1)).bind fun t465 => (if t465 = true then (some false) else (spec_ImageOK.l0 k (wrap64 (x3 + 1)) x462000 x462001 x462002 x462003))) else (none)) else ((spec_l10Count.f k x462000 x462001 x462002 x462003).bind fun t466 => (spec_ImageOK.l1 k t466 0 x462000 x462001 x462002 x462003))
def spec_ImageOK.l1 : Nat → List Int → Int → List Int → List Int → List (S103) → List Int → Option (Bool)
  | 0, _, _, _, _, _, _ => none
  | k + 1, x4, x5, x462000, x462001, x462002, x462003 => if x5 < 24 then (if 0 ≤ x5 then (if x5 < (x4.length : Int) then (if x5 < (x462000.length : Int) then (if (rd x4 x5) = (rd x462000 x5) then (if (rd x4 x5) = 0 then (if x5 < (x462003.length : Int) then (if (rd x462003 x5) = 0 then (spec_ImageOK.l1 k x4 (wrap64 (x5 + 1)) x462000 x462001 x462002 x462003) else (some false)) else (none)) else (spec_ImageOK.l1 k x4 (wrap64 (x5 + 1)) x462000 x462001 x462002 x462003)) else (some false)) else (none)) else (none)) else (none)) else (some true)
end
def spec_ImageOK.f (k : Nat) (l0_0 : List Int) (l0_1 : List Int) (l0_2 : List (S103)) (l0_3 : List Int) : Option (Bool) := (spec_l10Form.f k l0_0 l0_1 l0_2 l0_3).bind fun t462 => (if t462 = true then ((spec_l10Twice.f k l0_1).bind fun t463 => (spec_ImageOK.j0 k t463 l0_0 l0_1 l0_2 l0_3)) else (spec_ImageOK.j0 k true l0_0 l0_1 l0_2 l0_3))
theorem spec_ImageOK.mono_l : ∀ k, (∀ y0 y1 y2 y3 y4, LeO (spec_ImageOK.j0 k y0 y1 y2 y3 y4) (spec_ImageOK.j0 (k + 1) y0 y1 y2 y3 y4)) ∧ (∀ y0 y1 y2 y3 y4, LeO (spec_ImageOK.l0 k y0 y1 y2 y3 y4) (spec_ImageOK.l0 (k + 1) y0 y1 y2 y3 y4)) ∧ (∀ y0 y1 y2 y3 y4 y5, LeO (spec_ImageOK.l1 k y0 y1 y2 y3 y4 y5) (spec_ImageOK.l1 (k + 1) y0 y1 y2 y3 y4 y5))
  | 0 => ⟨fun _ _ _ _ _ r h => by simp [spec_ImageOK.j0] at h, fun _ _ _ _ _ r h => by simp [spec_ImageOK.l0] at h, fun _ _ _ _ _ _ r h => by simp [spec_ImageOK.l1] at h⟩
  | k + 1 => by
    obtain ⟨ih0, ih1, ih2⟩ := spec_ImageOK.mono_l k
    refine ⟨?_, ?_, ?_⟩
    · intro y0 y1 y2 y3 y4
      unfold spec_ImageOK.j0
      repeat' first| (with_reducible first | exact ih0 _ _ _ _ _ | exact ih1 _ _ _ _ _ | exact ih2 _ _ _ _ _ _ | exact spec_l10Count.mono _ _ _ _ _ | exact spec_l10Form.mono _ _ _ _ _ | exact spec_l10Twice.mono _ _ | exact LeO.refl _ | exact LeO.none _ | refine LeO.ite ?_ ?_ | refine LeO.bind ?_ (fun _ => ?_)) | exact ih0 _ _ _ _ _ | exact ih1 _ _ _ _ _ | exact ih2 _ _ _ _ _ _ | exact spec_l10Count.mono _ _ _ _ _ | exact spec_l10Form.mono _ _ _ _ _ | exact spec_l10Twice.mono _ _ | exact LeO.none _ | refine LeO.ite ?_ ?_ | refine LeO.bind ?_ (fun _ => ?_)
    · intro y0 y1 y2 y3 y4
      unfold spec_ImageOK.l0
      repeat' first| (with_reducible first | exact ih0 _ _ _ _ _ | exact ih1 _ _ _ _ _ | exact ih2 _ _ _ _ _ _ | exact spec_l10Count.mono _ _ _ _ _ | exact spec_l10Form.mono _ _ _ _ _ | exact spec_l10Twice.mono _ _ | exact LeO.refl _ | exact LeO.none _ | refine LeO.ite ?_ ?_ | refine LeO.bind ?_ (fun _ => ?_)) | exact ih0 _ _ _ _ _ | exact ih1 _ _ _ _ _ | exact ih2 _ _ _ _ _ _ | exact spec_l10Count.mono _ _ _ _ _ | exact spec_l10Form.mono _ _ _ _ _ | exact spec_l10Twice.mono _ _ | exact LeO.none _ | refine LeO.ite ?_ ?_ | refine LeO.bind ?_ (fun _ => ?_)
    · intro y0 y1 y2 y3 y4 y5
      unfold spec_ImageOK.l1
      repeat' first| (with_reducible first | exact ih0 _ _ _ _ _ | exact ih1 _ _ _ _ _ | exact ih2 _ _ _ _ _ _ | exact spec_l10Count.mono _ _ _ _ _ | exact spec_l10Form.mono _ _ _ _ _ | exact spec_l10Twice.mono _ _ | exact LeO.refl _ | exact LeO.none _ | refine LeO.ite ?_ ?_ | refine LeO.bind ?_ (fun _ => ?_)) | exact ih0 _ _ _ _ _ | exact ih1 _ _ _ _ _ | exact ih2 _ _ _ _ _ _ | exact spec_l10Count.mono _ _ _ _ _ | exact spec_l10Form.mono _ _ _ _ _ | exact spec_l10Twice.mono _ _ | exact LeO.none _ | refine LeO.ite ?_ ?_ | refine LeO.bind ?_ (fun _ => ?_)
theorem spec_ImageOK.mono : ∀ a0 a1 a2 a3 k, LeO (spec_ImageOK.f k a0 a1 a2 a3) (spec_ImageOK.f (k + 1) a0 a1 a2 a3) := by
  intro a0 a1 a2 a3 k
  obtain ⟨ih0, ih1, ih2⟩ := spec_ImageOK.mono_l k
  unfold spec_ImageOK.f
  repeat' first| (with_reducible first | exact ih0 _ _ _ _ _ | exact ih1 _ _ _ _ _ | exact ih2 _ _ _ _ _ _ | exact spec_l10Count.mono _ _ _ _ _ | exact spec_l10Form.mono _ _ _ _ _ | exact spec_l10Twice.mono _ _ | exact LeO.refl _ | exact LeO.none _ | refine LeO.ite ?_ ?_ | refine LeO.bind ?_ (fun _ => ?_)) | exact ih0 _ _ _ _ _ | exact ih1 _ _ _ _ _ | exact ih2 _ _ _ _ _ _ | exact spec_l10Count.mono _ _ _ _ _ | exact spec_l10Form.mono _ _ _ _ _ | exact spec_l10Twice.mono _ _ | exact LeO.none _ | refine LeO.ite ?_ ?_ | refine LeO.bind ?_ (fun _ => ?_)
set_option maxHeartbeats 8000000 in
set_option maxRecDepth 100000 in
theorem spec_ImageOK.calls (k : Nat) (A0_0 : Option Addr) (c0_0 : Nat) (l0_0 : List Int) (A0_1 : Option Addr) (c0_1 : Nat) (l0_1 : List Int) (A0_2 : Option Addr) (c0_2 : Nat) (l0_2 : List (S103)) (A0_3 : Option Addr) (c0_3 : Nat) (l0_3 : List Int) (r : Bool) (w : World) (hr0_0 : Kd.C (Kd.int .i64) w A0_0 l0_0.length l0_0) (hc0_0 : l0_0.length ≤ c0_0) (hr0_1 : Kd.C (Kd.int .i64) w A0_1 l0_1.length l0_1) (hc0_1 : l0_1.length ≤ c0_1) (hr0_2 : Kd.C k103 w A0_2 l0_2.length l0_2) (hc0_2 : l0_2.length ≤ c0_2) (hr0_3 : Kd.C (Kd.int .i64) w A0_3 l0_3.length l0_3) (hc0_3 : l0_3.length ≤ c0_3) (h : spec_ImageOK.f k l0_0 l0_1 l0_2 l0_3 = some r) :
    Calls Tryz.prog 40 #[.agg #[.slice A0_0 l0_0.length c0_0, .slice A0_1 l0_1.length c0_1, .slice A0_2 l0_2.length c0_2, .slice A0_3 l0_3.length c0_3]] w fun e w' => e = .returned (.bool r) ∧ Below w.heap.size w w' := by
 have hu26 := Tryz.underlying26; have Zc := zm hr0_0; have Zj := zm hc0_0; clear hr0_0 hc0_0; have Zf := zm hr0_1; have Zg := zm hc0_1; clear hr0_1 hc0_1; have Zh := zm hr0_2; have Zk := zm hc0_2; clear hr0_2 hc0_2; have Zi := zm hr0_3; have Zl := zm hc0_3; clear hr0_3 hc0_3; have HB := zm (Below.refl w.heap.size w); have H := h
 unfold spec_ImageOK.f at H
 clear h; have HC2 := zm H; clear H
 go_enter Tryz.func40, Tryz.ntmps40
 go_upto_region 1 with (first | ((with_reducible refine gate_dst (N := 1) rfl ?_); refine box_event ?hg (N := 1) ?hd (cs := #[.slice A0_0 l0_0.length c0_0, .slice A0_1 l0_1.length c0_1, .slice A0_2 l0_2.length c0_2, .slice A0_3 l0_3.length c0_3]) (t := 26) ?hr ?_; (case hd => rfl); (case hg => rfl); (case hr => first | (go_simp; done) | (go_simp; rfl)); intro gb461 hg w3 hbox hb; have n0_ := zm (below_step (zg_1 HB.out) hb); have n1_ := zm (hbox); have n2_ := zm ((by rw [hg]; exact (below_size (zg_1 HB.out)) : w.heap.size ≤ gb461)); have n3_ := zm ((by rw [hg]; exact (below_size (zg_1 HB.out)) : w.heap.size ≤ gb461)); replace HB := n0_; have Za := n1_; have Zo := n2_; have Zb := n3_; clear n0_ n1_ n2_ n3_; clear hb hbox hg))
 repeat (go_quiet (first | ((with_reducible refine gate_dst (N := 1) rfl ?_); refine box_event ?hg (N := 1) ?hd (cs := #[.slice A0_0 l0_0.length c0_0, .slice A0_1 l0_1.length c0_1, .slice A0_2 l0_2.length c0_2, .slice A0_3 l0_3.length c0_3]) (t := 26) ?hr ?_; (case hd => rfl); (case hg => rfl); (case hr => first | (go_simp; done) | (go_simp; rfl)); intro gb461 hg w3 hbox hb; have n0_ := zm (below_step (zg_1 HB.out) hb); have n1_ := zm (hbox); have n2_ := zm ((by rw [hg]; exact (below_size (zg_1 HB.out)) : w.heap.size ≤ gb461)); have n3_ := zm ((by rw [hg]; exact (below_size (zg_1 HB.out)) : w.heap.size ≤ gb461)); replace HB := n0_; have Za := n1_; have Zo := n2_; have Zb := n3_; clear n0_ n1_ n2_ n3_; clear hb hbox hg)); go_upto_region 1 with (first | ((with_reducible refine gate_dst (N := 1) rfl ?_); refine box_event ?hg (N := 1) ?hd (cs := #[.slice A0_0 l0_0.length c0_0, .slice A0_1 l0_1.length c0_1, .slice A0_2 l0_2.length c0_2, .slice A0_3 l0_3.length c0_3]) (t := 26) ?hr ?_; (case hd => rfl); (case hg => rfl); (case hr => first | (go_simp; done) | (go_simp; rfl)); intro gb461 hg w3 hbox hb; have n0_ := zm (below_step (zg_1 HB.out) hb); have n1_ := zm (hbox); have n2_ := zm ((by rw [hg]; exact (below_size (zg_1 HB.out)) : w.heap.size ≤ gb461)); have n3_ := zm ((by rw [hg]; exact (below_size (zg_1 HB.out)) : w.heap.size ≤ gb461)); replace HB := n0_; have Za := n1_; have Zo := n2_; have Zb := n3_; clear n0_ n1_ n2_ n3_; clear hb hbox hg)))
 (try simp only [Act.put, zs, zz, zt])
 go_cut [13] (fun v13 wc => ∃ (kq : Nat) (x13_1 : Bool), v13 = .bool x13_1 ∧ Aside0 (spec_ImageOK.j0 kq x13_1 l0_0 l0_1 l0_2 l0_3 = some r) ∧ Aside0 (kq ≤ k) ∧ Aside0 (wc.heap[gb461]? = some (.cells #[(.slice A0_0 l0_0.length c0_0), (.slice A0_1 l0_1.length c0_1), (.slice A0_2 l0_2.length c0_2), (.slice A0_3 l0_3.length c0_3)] 26 (0, 0))) ∧ Aside0 (Below w.heap.size w wc))
 case first =>
  have H := HC2.out; clear HC2; replace H := Option.bind_eq_some_iff.mp H
  obtain ⟨t462, A40, H⟩ := H
  try dsimp only at H
  have A4 := zm A40; clear A40
  by_cases c5 : t462 = true
  ·subst c5
   replace H : ((spec_l10Twice.f k l0_1).bind fun t463 => (spec_ImageOK.j0 k t463 l0_0 l0_1 l0_2 l0_3)) = some r := by rw [if_pos rfl] at H; exact H
   replace H := Option.bind_eq_some_iff.mp H
   obtain ⟨t463, A60, H⟩ := H
   try dsimp only at H
   have A6 := zm A60; clear A60
   have H' := zm H
   clear H
   obtain ⟨hcz7_0, hcz7_1, hcz7_2, hcz7_3, hfz7_0, hfz7_1, hfz7_2, hfz7_3⟩ := zb4 Za.out
   go_wp2_with (first | (go_at_call 84; (with_reducible refine (spec_l10Form.calls k _ _ l0_0 _ _ l0_1 _ _ l0_2 _ _ l0_3 true _ ?side1 ?side2 ?side3 ?side4 ?side5 ?side6 ?side7 ?side8 A4.out).mono ?_); (case side1 => exact zC (Kd.C_below Zc.out HB.out)); (case side2 => exact Zj.out); (case side3 => exact zC (Kd.C_below Zf.out HB.out)); (case side4 => exact Zg.out); (case side5 => exact zC (Kd.C_below Zh.out HB.out)); (case side6 => exact Zk.out); (case side7 => exact zC (Kd.C_below Zi.out HB.out)); (case side8 => exact Zl.out); rintro e w8 ⟨rfl, hb⟩; have n0_ := zm (blk_below (zg_3 Za.out) hb); have n1_ := zm (below_step (zg_2 HB.out Zb.out) hb); replace Za := n0_; replace HB := n1_; clear n0_ n1_; (try clear hb); (try clear hb2); (try clear hk); (try clear hi); obtain ⟨hcz9_0, hcz9_1, hcz9_2, hcz9_3, hfz9_0, hfz9_1, hfz9_2, hfz9_3⟩ := zb4 Za.out) | (go_at_call 85; (with_reducible refine (spec_l10Twice.calls k _ _ l0_1 t463 _ ?side1 ?side2 A6.out).mono ?_); (case side1 => exact zC (Kd.C_below Zf.out HB.out)); (case side2 => exact Zg.out); rintro e w10 ⟨rfl, hb⟩; have n0_ := zm (blk_below (zg_3 Za.out) hb); have n1_ := zm (below_step (zg_2 HB.out Zb.out) hb); replace Za := n0_; replace HB := n1_; clear n0_ n1_; (try clear hb); (try clear hb2); (try clear hk); (try clear hi)))
   repeat (go_quiet (first | (go_at_call 84; (with_reducible refine (spec_l10Form.calls k _ _ l0_0 _ _ l0_1 _ _ l0_2 _ _ l0_3 true _ ?side1 ?side2 ?side3 ?side4 ?side5 ?side6 ?side7 ?side8 A4.out).mono ?_); (case side1 => exact zC (Kd.C_below Zc.out HB.out)); (case side2 => exact Zj.out); (case side3 => exact zC (Kd.C_below Zf.out HB.out)); (case side4 => exact Zg.out); (case side5 => exact zC (Kd.C_below Zh.out HB.out)); (case side6 => exact Zk.out); (case side7 => exact zC (Kd.C_below Zi.out HB.out)); (case side8 => exact Zl.out); rintro e w8 ⟨rfl, hb⟩; have n0_ := zm (blk_below (zg_3 Za.out) hb); have n1_ := zm (below_step (zg_2 HB.out Zb.out) hb); replace Za := n0_; replace HB := n1_; clear n0_ n1_; (try clear hb); (try clear hb2); (try clear hk); (try clear hi); obtain ⟨hcz9_0, hcz9_1, hcz9_2, hcz9_3, hfz9_0, hfz9_1, hfz9_2, hfz9_3⟩ := zb4 Za.out) | (go_at_call 85; (with_reducible refine (spec_l10Twice.calls k _ _ l0_1 t463 _ ?side1 ?side2 A6.out).mono ?_); (case side1 => exact zC (Kd.C_below Zf.out HB.out)); (case side2 => exact Zg.out); rintro e w10 ⟨rfl, hb⟩; have n0_ := zm (blk_below (zg_3 Za.out) hb); have n1_ := zm (below_step (zg_2 HB.out Zb.out) hb); replace Za := n0_; replace HB := n1_; clear n0_ n1_; (try clear hb); (try clear hb2); (try clear hk); (try clear hi))); try go_wp2_with (first | (go_at_call 84; (with_reducible refine (spec_l10Form.calls k _ _ l0_0 _ _ l0_1 _ _ l0_2 _ _ l0_3 true _ ?side1 ?side2 ?side3 ?side4 ?side5 ?side6 ?side7 ?side8 A4.out).mono ?_); (case side1 => exact zC (Kd.C_below Zc.out HB.out)); (case side2 => exact Zj.out); (case side3 => exact zC (Kd.C_below Zf.out HB.out)); (case side4 => exact Zg.out); (case side5 => exact zC (Kd.C_below Zh.out HB.out)); (case side6 => exact Zk.out); (case side7 => exact zC (Kd.C_below Zi.out HB.out)); (case side8 => exact Zl.out); rintro e w8 ⟨rfl, hb⟩; have n0_ := zm (blk_below (zg_3 Za.out) hb); have n1_ := zm (below_step (zg_2 HB.out Zb.out) hb); replace Za := n0_; replace HB := n1_; clear n0_ n1_; (try clear hb); (try clear hb2); (try clear hk); (try clear hi); obtain ⟨hcz9_0, hcz9_1, hcz9_2, hcz9_3, hfz9_0, hfz9_1, hfz9_2, hfz9_3⟩ := zb4 Za.out) | (go_at_call 85; (with_reducible refine (spec_l10Twice.calls k _ _ l0_1 t463 _ ?side1 ?side2 A6.out).mono ?_); (case side1 => exact zC (Kd.C_below Zf.out HB.out)); (case side2 => exact Zg.out); rintro e w10 ⟨rfl, hb⟩; have n0_ := zm (blk_below (zg_3 Za.out) hb); have n1_ := zm (below_step (zg_2 HB.out Zb.out) hb); replace Za := n0_; replace HB := n1_; clear n0_ n1_; (try clear hb); (try clear hb2); (try clear hk); (try clear hi))))
   go_meet
   case rel => exact ⟨_, (t463), zr, H', ⟨by first | omega | exact Nat.le_refl _⟩, ⟨zl Za.out⟩, ⟨zg_2 HB.out Zb.out⟩⟩
  ·replace c5 := Bool.eq_false_iff.mpr c5
   subst c5
   replace H : (spec_ImageOK.j0 k true l0_0 l0_1 l0_2 l0_3) = some r := by rw [if_neg (show ¬ (false = true) by decide)] at H; exact H
   have H' := zm H
   clear H
   obtain ⟨hcz11_0, hcz11_1, hcz11_2, hcz11_3, hfz11_0, hfz11_1, hfz11_2, hfz11_3⟩ := zb4 Za.out
   go_wp2_with (first | (go_at_call 84; (with_reducible refine (spec_l10Form.calls k _ _ l0_0 _ _ l0_1 _ _ l0_2 _ _ l0_3 false _ ?side1 ?side2 ?side3 ?side4 ?side5 ?side6 ?side7 ?side8 A4.out).mono ?_); (case side1 => exact zC (Kd.C_below Zc.out HB.out)); (case side2 => exact Zj.out); (case side3 => exact zC (Kd.C_below Zf.out HB.out)); (case side4 => exact Zg.out); (case side5 => exact zC (Kd.C_below Zh.out HB.out)); (case side6 => exact Zk.out); (case side7 => exact zC (Kd.C_below Zi.out HB.out)); (case side8 => exact Zl.out); rintro e w12 ⟨rfl, hb⟩; have n0_ := zm (blk_below (zg_3 Za.out) hb); have n1_ := zm (below_step (zg_2 HB.out Zb.out) hb); replace Za := n0_; replace HB := n1_; clear n0_ n1_; (try clear hb); (try clear hb2); (try clear hk); (try clear hi)))
   repeat (go_quiet (first | (go_at_call 84; (with_reducible refine (spec_l10Form.calls k _ _ l0_0 _ _ l0_1 _ _ l0_2 _ _ l0_3 false _ ?side1 ?side2 ?side3 ?side4 ?side5 ?side6 ?side7 ?side8 A4.out).mono ?_); (case side1 => exact zC (Kd.C_below Zc.out HB.out)); (case side2 => exact Zj.out); (case side3 => exact zC (Kd.C_below Zf.out HB.out)); (case side4 => exact Zg.out); (case side5 => exact zC (Kd.C_below Zh.out HB.out)); (case side6 => exact Zk.out); (case side7 => exact zC (Kd.C_below Zi.out HB.out)); (case side8 => exact Zl.out); rintro e w12 ⟨rfl, hb⟩; have n0_ := zm (blk_below (zg_3 Za.out) hb); have n1_ := zm (below_step (zg_2 HB.out Zb.out) hb); replace Za := n0_; replace HB := n1_; clear n0_ n1_; (try clear hb); (try clear hb2); (try clear hk); (try clear hi))); try go_wp2_with (first | (go_at_call 84; (with_reducible refine (spec_l10Form.calls k _ _ l0_0 _ _ l0_1 _ _ l0_2 _ _ l0_3 false _ ?side1 ?side2 ?side3 ?side4 ?side5 ?side6 ?side7 ?side8 A4.out).mono ?_); (case side1 => exact zC (Kd.C_below Zc.out HB.out)); (case side2 => exact Zj.out); (case side3 => exact zC (Kd.C_below Zf.out HB.out)); (case side4 => exact Zg.out); (case side5 => exact zC (Kd.C_below Zh.out HB.out)); (case side6 => exact Zk.out); (case side7 => exact zC (Kd.C_below Zi.out HB.out)); (case side8 => exact Zl.out); rintro e w12 ⟨rfl, hb⟩; have n0_ := zm (blk_below (zg_3 Za.out) hb); have n1_ := zm (below_step (zg_2 HB.out Zb.out) hb); replace Za := n0_; replace HB := n1_; clear n0_ n1_; (try clear hb); (try clear hb2); (try clear hk); (try clear hi))))
   go_meet
   case rel => exact ⟨_, (true), zr, H', ⟨by first | omega | exact Nat.le_refl _⟩, ⟨zl Za.out⟩, ⟨zg_2 HB.out Zb.out⟩⟩
 case rest =>
  clear HC2
  try clear p2
  try clear c4
  try clear c5
  obtain ⟨kq, x13_1, rfl, HA, HJ1, Za, HB⟩ := hcut
  cases kq with
  | zero => exact absurd HA.out (by simp [spec_ImageOK.j0])
  | succ kj1 =>
   have H := HA.out; clear HA
   simp only [spec_ImageOK.j0] at H
   by_cases c13 : x13_1 = true
   ·subst c13
    replace H : (some false) = some r := by rw [if_pos rfl] at H; exact H
    obtain rfl := Option.some.inj H
    go_wp2
    repeat (go_quiet (fail); try go_wp2)
    go_ret
    exact ⟨ze, zg_2 HB.out Zb.out⟩
   ·replace c13 := Bool.eq_false_iff.mpr c13
    subst c13
    replace H : (spec_ImageOK.l0 kj1 0 l0_0 l0_1 l0_2 l0_3) = some r := by rw [if_neg (show ¬ (false = true) by decide)] at H; exact H
    have H' := zm H
    clear H
    go_wp2
    repeat (go_quiet (fail); try go_wp2)
    go_loopg [3] kj1 (fun kq v3 w' => ∃ (x3_2 : Int), v3 = .int .i64 x3_2 ∧ Aside0 (spec_ImageOK.l0 kq x3_2 l0_0 l0_1 l0_2 l0_3 = some r) ∧ Aside0 (kq ≤ kj1) ∧ Aside0 (w'.heap[gb461]? = some (.cells #[(.slice A0_0 l0_0.length c0_0), (.slice A0_1 l0_1.length c0_1), (.slice A0_2 l0_2.length c0_2), (.slice A0_3 l0_3.length c0_3)] 26 (0, 0))) ∧ Aside0 (Below w.heap.size w w'))
    case atStart => exact ⟨(0), zr, H', ⟨Nat.le_refl _⟩, ⟨zl Za.out⟩, ⟨zg_2 HB.out Zb.out⟩⟩
    case round =>
     clear H'
     try clear c1
     try clear p2
     try clear c4
     try clear c5
     try clear c13
     try clear p2
     obtain ⟨x3_2, rfl, HA, HK2, Za, HB⟩ := hrel
     cases gk with
     | zero => exact absurd HA.out (by simp [spec_ImageOK.l0])
     | succ k2 =>
      have H := HA.out; clear HA
      simp only [spec_ImageOK.l0] at H
      by_cases c14 : x3_2 < (l0_2.length : Int)
      ·rw [if_pos c14] at H
       have c14b0 := decide_eq_true c14; clear c14
       by_cases c15 : 0 ≤ x3_2
       ·rw [if_pos c15] at H
        have c15b0 := decide_eq_true c15; clear c15; replace H := Option.bind_eq_some_iff.mp H
        obtain ⟨t465, A160, H⟩ := H
        try dsimp only at H
        have A16 := zm A160; clear A160
        by_cases c17 : t465 = true
        ·subst c17
         replace H : (some false) = some r := by rw [if_pos rfl] at H; exact H
         obtain rfl := Option.some.inj H
         obtain ⟨hcz18_0, hcz18_1, hcz18_2, hcz18_3, hfz18_0, hfz18_1, hfz18_2, hfz18_3⟩ := zb4 Za.out
         have p464 : 0 ≤ (x3_2 : Int) := zd
         have q464 : x3_2 < (l0_2.length : Int) := zd
         obtain ⟨ad464, A464_1, c464_1, e464, hx464_0, hx464_1, hl464_1, hi464_1⟩ := at_T103 Zh.out x3_2 p464 q464
         cases e464; replace hx464_0 := (HB.out.cell (World.block_lt_of_cell? w _ hx464_0)).trans hx464_0; replace hx464_1 := (HB.out.cell (World.block_lt_of_cell? w _ hx464_1)).trans hx464_1; have Zd := zm hi464_1; have Ze := zm hl464_1; clear hi464_1 hl464_1; replace p464 := eq_true p464; replace q464 := eq_true q464
         go_wp2_with (first | (go_at_call 85; (with_reducible refine (spec_l10Twice.calls k2 _ _ ((rd_T103 l0_2 x3_2).f1) true _ ?side1 ?side2 A16.out).mono ?_); (case side1 => exact zC (Kd.C_below Zd.out HB.out)); (case side2 => exact Ze.out); rintro e w19 ⟨rfl, hb⟩; have n0_ := zm (blk_below (zg_3 Za.out) hb); have n1_ := zm (below_step (zg_2 HB.out Zb.out) hb); replace Za := n0_; replace HB := n1_; clear n0_ n1_; (try clear hb); (try clear hb2); (try clear hk); (try clear hi)))
         repeat (go_quiet (first | (go_at_call 85; (with_reducible refine (spec_l10Twice.calls k2 _ _ ((rd_T103 l0_2 x3_2).f1) true _ ?side1 ?side2 A16.out).mono ?_); (case side1 => exact zC (Kd.C_below Zd.out HB.out)); (case side2 => exact Ze.out); rintro e w19 ⟨rfl, hb⟩; have n0_ := zm (blk_below (zg_3 Za.out) hb); have n1_ := zm (below_step (zg_2 HB.out Zb.out) hb); replace Za := n0_; replace HB := n1_; clear n0_ n1_; (try clear hb); (try clear hb2); (try clear hk); (try clear hi))); try go_wp2_with (first | (go_at_call 85; (with_reducible refine (spec_l10Twice.calls k2 _ _ ((rd_T103 l0_2 x3_2).f1) true _ ?side1 ?side2 A16.out).mono ?_); (case side1 => exact zC (Kd.C_below Zd.out HB.out)); (case side2 => exact Ze.out); rintro e w19 ⟨rfl, hb⟩; have n0_ := zm (blk_below (zg_3 Za.out) hb); have n1_ := zm (below_step (zg_2 HB.out Zb.out) hb); replace Za := n0_; replace HB := n1_; clear n0_ n1_; (try clear hb); (try clear hb2); (try clear hk); (try clear hi))))
         go_ret
         exact ⟨ze, zg_2 HB.out Zb.out⟩
        ·replace c17 := Bool.eq_false_iff.mpr c17
         subst c17
         replace H : (spec_ImageOK.l0 k2 (wrap64 (x3_2 + 1)) l0_0 l0_1 l0_2 l0_3) = some r := by rw [if_neg (show ¬ (false = true) by decide)] at H; exact H
         have H' := zm H
         clear H
         obtain ⟨hcz20_0, hcz20_1, hcz20_2, hcz20_3, hfz20_0, hfz20_1, hfz20_2, hfz20_3⟩ := zb4 Za.out
         have p464 : 0 ≤ (x3_2 : Int) := zd
         have q464 : x3_2 < (l0_2.length : Int) := zd
         obtain ⟨ad464, A464_1, c464_1, e464, hx464_0, hx464_1, hl464_1, hi464_1⟩ := at_T103 Zh.out x3_2 p464 q464
         cases e464; replace hx464_0 := (HB.out.cell (World.block_lt_of_cell? w _ hx464_0)).trans hx464_0; replace hx464_1 := (HB.out.cell (World.block_lt_of_cell? w _ hx464_1)).trans hx464_1; have Zd := zm hi464_1; have Ze := zm hl464_1; clear hi464_1 hl464_1; replace p464 := eq_true p464; replace q464 := eq_true q464
         go_wp2_with (first | (go_at_call 85; (with_reducible refine (spec_l10Twice.calls k2 _ _ ((rd_T103 l0_2 x3_2).f1) false _ ?side1 ?side2 A16.out).mono ?_); (case side1 => exact zC (Kd.C_below Zd.out HB.out)); (case side2 => exact Ze.out); rintro e w21 ⟨rfl, hb⟩; have n0_ := zm (blk_below (zg_3 Za.out) hb); have n1_ := zm (below_step (zg_2 HB.out Zb.out) hb); replace Za := n0_; replace HB := n1_; clear n0_ n1_; (try clear hb); (try clear hb2); (try clear hk); (try clear hi)))
         repeat (go_quiet (first | (go_at_call 85; (with_reducible refine (spec_l10Twice.calls k2 _ _ ((rd_T103 l0_2 x3_2).f1) false _ ?side1 ?side2 A16.out).mono ?_); (case side1 => exact zC (Kd.C_below Zd.out HB.out)); (case side2 => exact Ze.out); rintro e w21 ⟨rfl, hb⟩; have n0_ := zm (blk_below (zg_3 Za.out) hb); have n1_ := zm (below_step (zg_2 HB.out Zb.out) hb); replace Za := n0_; replace HB := n1_; clear n0_ n1_; (try clear hb); (try clear hb2); (try clear hk); (try clear hi))); try go_wp2_with (first | (go_at_call 85; (with_reducible refine (spec_l10Twice.calls k2 _ _ ((rd_T103 l0_2 x3_2).f1) false _ ?side1 ?side2 A16.out).mono ?_); (case side1 => exact zC (Kd.C_below Zd.out HB.out)); (case side2 => exact Ze.out); rintro e w21 ⟨rfl, hb⟩; have n0_ := zm (blk_below (zg_3 Za.out) hb); have n1_ := zm (below_step (zg_2 HB.out Zb.out) hb); replace Za := n0_; replace HB := n1_; clear n0_ n1_; (try clear hb); (try clear hb2); (try clear hk); (try clear hi))))
         go_roundg k2
         case measure => have := HJ1.out; have := HK2.out; omega
         case rel => exact ⟨(wrap64 (x3_2 + 1)), zr, H', ⟨by have := HJ1.out; have := HK2.out; omega⟩, ⟨zl Za.out⟩, ⟨zg_2 HB.out Zb.out⟩⟩
       ·rw [if_neg c15] at H
        exact absurd H (by simp)
      ·rw [if_neg c14] at H
       have c14b0 := decide_eq_false c14; clear c14; replace H := Option.bind_eq_some_iff.mp H
       obtain ⟨t466, A220, H⟩ := H
       try dsimp only at H
       have A22 := zm A220; clear A220
       have H' := zm H
       clear H
       obtain ⟨hcz23_0, hcz23_1, hcz23_2, hcz23_3, hfz23_0, hfz23_1, hfz23_2, hfz23_3⟩ := zb4 Za.out
       go_wp2_with (first | (go_at_call 86; (with_reducible refine (spec_l10Count.calls k2 _ _ l0_0 (fun k_ => k_ < w.heap.size) _ _ l0_1 (fun k_ => k_ < w.heap.size) _ _ l0_2 _ _ l0_3 t466 _ ?side1 ?side2 ?side3 ?side4 ?side5 ?side6 A22.out).mono ?_); (case side1 => exact zC (Kd.C_below Zc.out HB.out)); (case side2 => exact Zj.out); (case side3 => exact Kd.V_mk Zg.out (Kd.F_below (Kd.C_F (Kd.heap_int .i64) Zf.out) (zg_2 HB.out Zb.out))); (case side4 => exact Kd.V_mk Zk.out (Kd.F_below (Kd.C_F k103_heap Zh.out) (zg_2 HB.out Zb.out))); (case side5 => exact zC (Kd.C_below Zi.out HB.out)); (case side6 => exact Zl.out); rintro e w24 ⟨v467, rfl, ho0, hb⟩; have n0_ := zm (Kd.R_lower (Kd.R_mono (ok' := fun k_ => True) ho0 (fun _ hk_ => trivial)) (below_size (zg_2 HB.out Zb.out))); have n1_ := zm (blk_below (zg_3 Za.out) hb); have n2_ := zm (below_step (zg_2 HB.out Zb.out) hb); have Zn := n0_; replace Za := n1_; replace HB := n2_; clear n0_ n1_ n2_; (try clear hb); (try clear hb2); (try clear hk); (try clear hi); (try clear ho0)))
       repeat (go_quiet (first | (go_at_call 86; (with_reducible refine (spec_l10Count.calls k2 _ _ l0_0 (fun k_ => k_ < w.heap.size) _ _ l0_1 (fun k_ => k_ < w.heap.size) _ _ l0_2 _ _ l0_3 t466 _ ?side1 ?side2 ?side3 ?side4 ?side5 ?side6 A22.out).mono ?_); (case side1 => exact zC (Kd.C_below Zc.out HB.out)); (case side2 => exact Zj.out); (case side3 => exact Kd.V_mk Zg.out (Kd.F_below (Kd.C_F (Kd.heap_int .i64) Zf.out) (zg_2 HB.out Zb.out))); (case side4 => exact Kd.V_mk Zk.out (Kd.F_below (Kd.C_F k103_heap Zh.out) (zg_2 HB.out Zb.out))); (case side5 => exact zC (Kd.C_below Zi.out HB.out)); (case side6 => exact Zl.out); rintro e w24 ⟨v467, rfl, ho0, hb⟩; have n0_ := zm (Kd.R_lower (Kd.R_mono (ok' := fun k_ => True) ho0 (fun _ hk_ => trivial)) (below_size (zg_2 HB.out Zb.out))); have n1_ := zm (blk_below (zg_3 Za.out) hb); have n2_ := zm (below_step (zg_2 HB.out Zb.out) hb); have Zn := n0_; replace Za := n1_; replace HB := n2_; clear n0_ n1_ n2_; (try clear hb); (try clear hb2); (try clear hk); (try clear hi); (try clear ho0))); try go_wp2_with (first | (go_at_call 86; (with_reducible refine (spec_l10Count.calls k2 _ _ l0_0 (fun k_ => k_ < w.heap.size) _ _ l0_1 (fun k_ => k_ < w.heap.size) _ _ l0_2 _ _ l0_3 t466 _ ?side1 ?side2 ?side3 ?side4 ?side5 ?side6 A22.out).mono ?_); (case side1 => exact zC (Kd.C_below Zc.out HB.out)); (case side2 => exact Zj.out); (case side3 => exact Kd.V_mk Zg.out (Kd.F_below (Kd.C_F (Kd.heap_int .i64) Zf.out) (zg_2 HB.out Zb.out))); (case side4 => exact Kd.V_mk Zk.out (Kd.F_below (Kd.C_F k103_heap Zh.out) (zg_2 HB.out Zb.out))); (case side5 => exact zC (Kd.C_below Zi.out HB.out)); (case side6 => exact Zl.out); rintro e w24 ⟨v467, rfl, ho0, hb⟩; have n0_ := zm (Kd.R_lower (Kd.R_mono (ok' := fun k_ => True) ho0 (fun _ hk_ => trivial)) (below_size (zg_2 HB.out Zb.out))); have n1_ := zm (blk_below (zg_3 Za.out) hb); have n2_ := zm (below_step (zg_2 HB.out Zb.out) hb); have Zn := n0_; replace Za := n1_; replace HB := n2_; clear n0_ n1_ n2_; (try clear hb); (try clear hb2); (try clear hk); (try clear hi); (try clear ho0))))
       go_loopg [5] k2 (fun kq v5 w' => ∃ (x5_3 : Int), v5 = .int .i64 x5_3 ∧ Aside0 (spec_ImageOK.l1 kq t466 x5_3 l0_0 l0_1 l0_2 l0_3 = some r) ∧ Aside0 (kq ≤ k2) ∧ Aside0 (Kd.R (Kd.int .i64) 3 w' w.heap.size (fun _ => True) v467 t466) ∧ Aside0 (w'.heap[gb461]? = some (.cells #[(.slice A0_0 l0_0.length c0_0), (.slice A0_1 l0_1.length c0_1), (.slice A0_2 l0_2.length c0_2), (.slice A0_3 l0_3.length c0_3)] 26 (0, 0))) ∧ Aside0 (Below w.heap.size w w'))
       case atStart => exact ⟨(0), zr, H', ⟨Nat.le_refl _⟩, ⟨zlR Zn.out⟩, ⟨zl Za.out⟩, ⟨zg_2 HB.out Zb.out⟩⟩
       case round =>
        clear H'
        try clear c1
        try clear p2
        try clear c4
        try clear p4
        try clear q4
        try clear hx4
        try clear c5
        try clear p6
        try clear c13
        try clear c14
        try clear c14b0
        try clear c15
        try clear c15b0
        try clear c17
        try clear hx464_0
        try clear hx464_1
        try clear p2
        try clear p464
        try clear q464
        obtain ⟨x5_3, rfl, HA, HK3, Zm, Za, HB⟩ := hrel
        cases gk with
        | zero => exact absurd HA.out (by simp [spec_ImageOK.l1])
        | succ k3 =>
         have H := HA.out; clear HA
         simp only [spec_ImageOK.l1] at H
         by_cases c25 : x5_3 < 24
         ·rw [if_pos c25] at H
          have c25b0 := decide_eq_true c25; clear c25
          by_cases c26 : 0 ≤ x5_3
          ·rw [if_pos c26] at H
           have c26b0 := decide_eq_true c26; clear c26
           by_cases c27 : x5_3 < (t466.length : Int)
           ·rw [if_pos c27] at H
            have c27b0 := decide_eq_true c27; clear c27
            by_cases c28 : x5_3 < (l0_0.length : Int)
            ·rw [if_pos c28] at H
             have c28b0 := decide_eq_true c28; clear c28
             by_cases c29 : (rd t466 x5_3) = (rd l0_0 x5_3)
             ·rw [if_pos c29] at H
              have c29b0 : ((rd t466 x5_3) == (rd l0_0 x5_3)) = true := beq_iff_eq.mpr c29
              have c29b1 : ((rd t466 x5_3) != (rd l0_0 x5_3)) = false := bne_eq_false_iff_eq.mpr c29
              clear c29
              by_cases c30 : (rd t466 x5_3) = 0
              ·rw [if_pos c30] at H
               have c30b0 : ((rd t466 x5_3) == 0) = true := beq_iff_eq.mpr c30
               have c30b1 : ((rd t466 x5_3) != 0) = false := bne_eq_false_iff_eq.mpr c30
               clear c30
               by_cases c31 : x5_3 < (l0_3.length : Int)
               ·rw [if_pos c31] at H
                have c31b0 := decide_eq_true c31; clear c31
                by_cases c32 : (rd l0_3 x5_3) = 0
                ·rw [if_pos c32] at H
                 have c32b0 : ((rd l0_3 x5_3) == 0) = true := beq_iff_eq.mpr c32
                 have c32b1 : ((rd l0_3 x5_3) != 0) = false := bne_eq_false_iff_eq.mpr c32
                 clear c32
                 have H' := zm H
                 clear H
                 obtain ⟨Ao33, co33, eo33⟩ := Kd.R_slice Zm.out
                 subst eo33
                 have p469 : 0 ≤ (x5_3 : Int) := zd
                 have q469 : x5_3 < (t466.length : Int) := zd
                 obtain ⟨ad469, e469, hx469_0⟩ := Kd.at_int (Kd.R_reads' Zm.out).2.2 x5_3 p469 q469
                 cases e469; replace p469 := eq_true p469; replace q469 := eq_true q469
                 obtain ⟨hcz34_0, hcz34_1, hcz34_2, hcz34_3, hfz34_0, hfz34_1, hfz34_2, hfz34_3⟩ := zb4 Za.out
                 have p470 : 0 ≤ (x5_3 : Int) := zd
                 have q470 : x5_3 < (l0_0.length : Int) := zd
                 obtain ⟨ad470, e470, hx470_0⟩ := Kd.at_int Zc.out x5_3 p470 q470
                 cases e470; replace hx470_0 := (HB.out.cell (World.block_lt_of_cell? w _ hx470_0)).trans hx470_0; replace p470 := eq_true p470; replace q470 := eq_true q470
                 have p471 : 0 ≤ (x5_3 : Int) := zd
                 have q471 : x5_3 < (t466.length : Int) := zd
                 obtain ⟨ad471, e471, hx471_0⟩ := Kd.at_int (Kd.R_reads' Zm.out).2.2 x5_3 p471 q471
                 obtain rfl : ad469 = ad471 := (by injection e471)
                 replace p471 := eq_true p471; replace q471 := eq_true q471
                 have p472 : 0 ≤ (x5_3 : Int) := zd
                 have q472 : x5_3 < (l0_3.length : Int) := zd
                 obtain ⟨ad472, e472, hx472_0⟩ := Kd.at_int Zi.out x5_3 p472 q472
                 cases e472; replace hx472_0 := (HB.out.cell (World.block_lt_of_cell? w _ hx472_0)).trans hx472_0; replace p472 := eq_true p472; replace q472 := eq_true q472
                 go_wp2
                 repeat (go_quiet (fail); try go_wp2)
                 go_roundg k3
                 case measure => have := HJ1.out; have := HK2.out; have := HK3.out; omega
                 case rel => exact ⟨(wrap64 (x5_3 + 1)), zr, H', ⟨by have := HJ1.out; have := HK2.out; have := HK3.out; omega⟩, ⟨zlR Zm.out⟩, ⟨zl Za.out⟩, ⟨zg_2 HB.out Zb.out⟩⟩
                ·rw [if_neg c32] at H
                 have c32b0 : ((rd l0_3 x5_3) == 0) = false := beq_eq_false_iff_ne.mpr c32
                 have c32b1 : ((rd l0_3 x5_3) != 0) = true := bne_iff_ne.mpr c32
                 obtain rfl := Option.some.inj H
                 obtain ⟨Ao35, co35, eo35⟩ := Kd.R_slice Zm.out
                 subst eo35
                 have p469 : 0 ≤ (x5_3 : Int) := zd
                 have q469 : x5_3 < (t466.length : Int) := zd
                 obtain ⟨ad469, e469, hx469_0⟩ := Kd.at_int (Kd.R_reads' Zm.out).2.2 x5_3 p469 q469
                 cases e469; replace p469 := eq_true p469; replace q469 := eq_true q469
                 obtain ⟨hcz36_0, hcz36_1, hcz36_2, hcz36_3, hfz36_0, hfz36_1, hfz36_2, hfz36_3⟩ := zb4 Za.out
                 have p470 : 0 ≤ (x5_3 : Int) := zd
                 have q470 : x5_3 < (l0_0.length : Int) := zd
                 obtain ⟨ad470, e470, hx470_0⟩ := Kd.at_int Zc.out x5_3 p470 q470
                 cases e470; replace hx470_0 := (HB.out.cell (World.block_lt_of_cell? w _ hx470_0)).trans hx470_0; replace p470 := eq_true p470; replace q470 := eq_true q470
                 have p471 : 0 ≤ (x5_3 : Int) := zd
                 have q471 : x5_3 < (t466.length : Int) := zd
                 obtain ⟨ad471, e471, hx471_0⟩ := Kd.at_int (Kd.R_reads' Zm.out).2.2 x5_3 p471 q471
                 obtain rfl : ad469 = ad471 := (by injection e471)
                 replace p471 := eq_true p471; replace q471 := eq_true q471
                 have p472 : 0 ≤ (x5_3 : Int) := zd
                 have q472 : x5_3 < (l0_3.length : Int) := zd
                 obtain ⟨ad472, e472, hx472_0⟩ := Kd.at_int Zi.out x5_3 p472 q472
                 cases e472; replace hx472_0 := (HB.out.cell (World.block_lt_of_cell? w _ hx472_0)).trans hx472_0; replace p472 := eq_true p472; replace q472 := eq_true q472
                 go_wp2
                 repeat (go_quiet (fail); try go_wp2)
                 go_ret
                 exact ⟨ze, zg_2 HB.out Zb.out⟩
               ·rw [if_neg c31] at H
                exact absurd H (by simp)
              ·rw [if_neg c30] at H
               have c30b0 : ((rd t466 x5_3) == 0) = false := beq_eq_false_iff_ne.mpr c30
               have c30b1 : ((rd t466 x5_3) != 0) = true := bne_iff_ne.mpr c30
               have H' := zm H
               clear H
               obtain ⟨Ao37, co37, eo37⟩ := Kd.R_slice Zm.out
               subst eo37
               have p469 : 0 ≤ (x5_3 : Int) := zd
               have q469 : x5_3 < (t466.length : Int) := zd
               obtain ⟨ad469, e469, hx469_0⟩ := Kd.at_int (Kd.R_reads' Zm.out).2.2 x5_3 p469 q469
               cases e469; replace p469 := eq_true p469; replace q469 := eq_true q469
               obtain ⟨hcz38_0, hcz38_1, hcz38_2, hcz38_3, hfz38_0, hfz38_1, hfz38_2, hfz38_3⟩ := zb4 Za.out
               have p470 : 0 ≤ (x5_3 : Int) := zd
               have q470 : x5_3 < (l0_0.length : Int) := zd
               obtain ⟨ad470, e470, hx470_0⟩ := Kd.at_int Zc.out x5_3 p470 q470
               cases e470; replace hx470_0 := (HB.out.cell (World.block_lt_of_cell? w _ hx470_0)).trans hx470_0; replace p470 := eq_true p470; replace q470 := eq_true q470
               have p471 : 0 ≤ (x5_3 : Int) := zd
               have q471 : x5_3 < (t466.length : Int) := zd
               obtain ⟨ad471, e471, hx471_0⟩ := Kd.at_int (Kd.R_reads' Zm.out).2.2 x5_3 p471 q471
               obtain rfl : ad469 = ad471 := (by injection e471)
               replace p471 := eq_true p471; replace q471 := eq_true q471
               go_wp2
               repeat (go_quiet (fail); try go_wp2)
               go_roundg k3
               case measure => have := HJ1.out; have := HK2.out; have := HK3.out; omega
               case rel => exact ⟨(wrap64 (x5_3 + 1)), zr, H', ⟨by have := HJ1.out; have := HK2.out; have := HK3.out; omega⟩, ⟨zlR Zm.out⟩, ⟨zl Za.out⟩, ⟨zg_2 HB.out Zb.out⟩⟩
             ·rw [if_neg c29] at H
              have c29b0 : ((rd t466 x5_3) == (rd l0_0 x5_3)) = false := beq_eq_false_iff_ne.mpr c29
              have c29b1 : ((rd t466 x5_3) != (rd l0_0 x5_3)) = true := bne_iff_ne.mpr c29
              obtain rfl := Option.some.inj H
              obtain ⟨Ao39, co39, eo39⟩ := Kd.R_slice Zm.out
              subst eo39
              have p469 : 0 ≤ (x5_3 : Int) := zd
              have q469 : x5_3 < (t466.length : Int) := zd
              obtain ⟨ad469, e469, hx469_0⟩ := Kd.at_int (Kd.R_reads' Zm.out).2.2 x5_3 p469 q469
              cases e469; replace p469 := eq_true p469; replace q469 := eq_true q469
              obtain ⟨hcz40_0, hcz40_1, hcz40_2, hcz40_3, hfz40_0, hfz40_1, hfz40_2, hfz40_3⟩ := zb4 Za.out
              have p470 : 0 ≤ (x5_3 : Int) := zd
              have q470 : x5_3 < (l0_0.length : Int) := zd
              obtain ⟨ad470, e470, hx470_0⟩ := Kd.at_int Zc.out x5_3 p470 q470
              cases e470; replace hx470_0 := (HB.out.cell (World.block_lt_of_cell? w _ hx470_0)).trans hx470_0; replace p470 := eq_true p470; replace q470 := eq_true q470
              go_wp2
              repeat (go_quiet (fail); try go_wp2)
              go_ret
              exact ⟨ze, zg_2 HB.out Zb.out⟩
            ·rw [if_neg c28] at H
             exact absurd H (by simp)
           ·rw [if_neg c27] at H
            exact absurd H (by simp)
          ·rw [if_neg c26] at H
           exact absurd H (by simp)
         ·rw [if_neg c25] at H
          have c25b0 := decide_eq_false c25; clear c25; obtain rfl := Option.some.inj H
          go_wp2
          repeat (go_quiet (fail); try go_wp2)
          go_ret
          exact ⟨ze, zg_2 HB.out Zb.out⟩
mutual
def spec_l02Pack.l0 : Nat → List Int → List Int → Int → Option (ByteArray)
  | 0, _, _, _ => none
  | k + 1, x0, x3, x4 => if x4 < (x0.length : Int) then (if 0 ≤ x4 then (spec_l02Pack.l1 k x0 x3 x4 (rd x0 x4) 0) else (none)) else (some (strOfNums x3))
def spec_l02Pack.l1 : Nat → List Int → List Int → Int → Int → Int → Option (ByteArray)
  | 0, _, _, _, _, _ => none
  | k + 1, x0, x3, x4, x5, x6 => if x6 < 4 then (if x3.length < 140737488355328 then (spec_l02Pack.l1 k x0 (x3 ++ [(x5) % 256]) x4 (x5 / 256) (wrap64 (x6 + 1))) else (none)) else (spec_l02Pack.l0 k x0 x3 (wrap64 (x4 + 1)))
end
def spec_l02Pack.f (k : Nat) (l0 : List Int) : Option (ByteArray) := spec_l02Pack.l0 k l0 (([] : List Int)) 0
theorem spec_l02Pack.mono_l : ∀ k, (∀ y0 y1 y2, LeO (spec_l02Pack.l0 k y0 y1 y2) (spec_l02Pack.l0 (k + 1) y0 y1 y2)) ∧ (∀ y0 y1 y2 y3 y4, LeO (spec_l02Pack.l1 k y0 y1 y2 y3 y4) (spec_l02Pack.l1 (k + 1) y0 y1 y2 y3 y4))
  | 0 => ⟨fun _ _ _ r h => by simp [spec_l02Pack.l0] at h, fun _ _ _ _ _ r h => by simp [spec_l02Pack.l1] at h⟩
  | k + 1 => by
    obtain ⟨ih0, ih1⟩ := spec_l02Pack.mono_l k
    refine ⟨?_, ?_⟩
    · intro y0 y1 y2
      unfold spec_l02Pack.l0
      repeat' first| (with_reducible first | exact ih0 _ _ _ | exact ih1 _ _ _ _ _ | exact LeO.refl _ | exact LeO.none _ | refine LeO.ite ?_ ?_ | refine LeO.bind ?_ (fun _ => ?_)) | exact ih0 _ _ _ | exact ih1 _ _ _ _ _ | exact LeO.none _ | refine LeO.ite ?_ ?_ | refine LeO.bind ?_ (fun _ => ?_)
    · intro y0 y1 y2 y3 y4
      unfold spec_l02Pack.l1
      repeat' first| (with_reducible first | exact ih0 _ _ _ | exact ih1 _ _ _ _ _ | exact LeO.refl _ | exact LeO.none _ | refine LeO.ite ?_ ?_ | refine LeO.bind ?_ (fun _ => ?_)) | exact ih0 _ _ _ | exact ih1 _ _ _ _ _ | exact LeO.none _ | refine LeO.ite ?_ ?_ | refine LeO.bind ?_ (fun _ => ?_)
theorem spec_l02Pack.mono : ∀ a0 k, LeO (spec_l02Pack.f k a0) (spec_l02Pack.f (k + 1) a0) := by
  intro a0 k
  obtain ⟨ih0, ih1⟩ := spec_l02Pack.mono_l k
  unfold spec_l02Pack.f
  repeat' first| (with_reducible first | exact ih0 _ _ _ | exact ih1 _ _ _ _ _ | exact LeO.refl _ | exact LeO.none _ | refine LeO.ite ?_ ?_ | refine LeO.bind ?_ (fun _ => ?_)) | exact ih0 _ _ _ | exact ih1 _ _ _ _ _ | exact LeO.none _ | refine LeO.ite ?_ ?_ | refine LeO.bind ?_ (fun _ => ?_)
set_option maxHeartbeats 8000000 in
set_option maxRecDepth 100000 in
theorem spec_l02Pack.calls (k : Nat) (A0 : Option Addr) (c0 : Nat) (l0 : List Int) (r : ByteArray) (w : World) (hr0 : Kd.C (Kd.int .i64) w A0 l0.length l0) (hc0 : l0.length ≤ c0) (h : spec_l02Pack.f k l0 = some r) :
    Calls Tryz.prog 131 #[.slice A0 l0.length c0] w fun e w' => e = .returned (.string r) ∧ Below w.heap.size w w' := by
 have HR0 := zm hr0; have HC0 := zm hc0; clear hr0 hc0; have HB := zm (Below.refl w.heap.size w)
 have H : (spec_l02Pack.l0 k l0 (([] : List Int)) 0) = some r := h
 clear h
 obtain ⟨y689, hy689⟩ : ∃ y_ : List Int, y_ = (([] : List Int)) := ⟨_, rfl⟩
 replace H : (spec_l02Pack.l0 k l0 y689 0) = some r := by first | (rw [hy689]; with_reducible exact H) | (have H2_ := (Option.bind_some _ _).symm.trans H; rw [hy689]; with_reducible exact H2_) | (have H2_ := (Option.bind_some _ _).symm.trans H; with_reducible exact H2_) | with_reducible exact H | (rw [hy689]; exact H) | exact H
 have Ny689 := zm hy689; clear hy689
 have H' := zm H
 clear H
 go_enter Tryz.func131, Tryz.ntmps131
 go_wp2_with (first | ((with_reducible refine gate_dst (N := 7) rfl ?_); refine Kd.R_lit (Kd.int .u8) _ 5 ?hg (N := 7) ?hd (xs := ([] : List Int)) (inner := []) (ok := fun _ => True) (okp := fun _ => True) ?hr ?hp (fun _ hk => hk) trivial (Below.refl _ _) (Nat.le_refl _) (by simp) ?_; (case hd => rfl); (case hg => rfl); (case hr => first | (go_simp; done) | (go_simp; rfl)); (case hp => exact (Reps.none _ _)); intro v690 w2 ho3 hb hg_ hnew_; clear hg_ hnew_; (first | rw [← Ny689.out] at ho3 | (simp only [Int.reduceToNat] at ho3; rw [← Ny689.out] at ho3)); have n0_ := zm (Kd.R_lower ho3 (below_size (zg_1 HB.out))); have n1_ := zm (below_step (zg_1 HB.out) hb); have Zb := n0_; replace HB := n1_; clear n0_ n1_; clear hb ho3))
 go_loopg [3, 4] k (fun kq v3 v4 w' => ∃ (x3_1 : List Int) (x4_1 : Int), v4 = .int .i64 x4_1 ∧ Aside0 (spec_l02Pack.l0 kq l0 x3_1 x4_1 = some r) ∧ Aside0 (kq ≤ k) ∧ Aside0 (Kd.R (Kd.int .u8) 5 w' w.heap.size (fun _ => True) v3 x3_1) ∧ Aside0 (Below w.heap.size w w'))
 case atStart => exact ⟨(y689), (0), zr, H', ⟨Nat.le_refl _⟩, ⟨zlR Zb.out⟩, ⟨zg_1 HB.out⟩⟩
 case round =>
  clear H'
  try clear c1
  try clear p2
  obtain ⟨x3_1, x4_1, rfl, HA, HK1, Za, HB⟩ := hrel
  cases gk with
  | zero => exact absurd HA.out (by simp [spec_l02Pack.l0])
  | succ k1 =>
   have H := HA.out; clear HA
   simp only [spec_l02Pack.l0] at H
   by_cases c4 : x4_1 < (l0.length : Int)
   ·rw [if_pos c4] at H
    have c4b0 := decide_eq_true c4; clear c4
    by_cases c5 : 0 ≤ x4_1
    ·rw [if_pos c5] at H
     have c5b0 := decide_eq_true c5; clear c5
     have H' := zm H
     clear H
     have p692 : 0 ≤ (x4_1 : Int) := zd
     have q692 : x4_1 < (l0.length : Int) := zd
     obtain ⟨ad692, e692, hx692_0⟩ := Kd.at_int HR0.out x4_1 p692 q692
     cases e692; replace hx692_0 := (HB.out.cell (World.block_lt_of_cell? w _ hx692_0)).trans hx692_0; replace p692 := eq_true p692; replace q692 := eq_true q692
     go_wp2
     go_loopg [3, 5, 6] k1 (fun kq v3 v5 v6 w' => ∃ (x3_2 : List Int) (x5_2 : Int) (x6_2 : Int), v5 = .int .i64 x5_2 ∧ v6 = .int .i64 x6_2 ∧ Aside0 (spec_l02Pack.l1 kq l0 x3_2 x4_1 x5_2 x6_2 = some r) ∧ Aside0 (kq ≤ k1) ∧ Aside0 (Kd.R (Kd.int .u8) 5 w' w.heap.size (fun _ => True) v3 x3_2) ∧ Aside0 (Below w.heap.size w w'))
     case atStart => exact ⟨(x3_1), (rd l0 x4_1), (0), zr, zr, H', ⟨Nat.le_refl _⟩, ⟨zlR Za.out⟩, ⟨zg_1 HB.out⟩⟩
     case round =>
      clear H'
      try clear c1
      try clear p2
      try clear c4
      try clear c4b0
      try clear c5
      try clear c5b0
      try clear hx692_0
      try clear p2
      try clear p692
      try clear q692
      obtain ⟨x3_2, x5_2, x6_2, rfl, rfl, HA, HK2, Za, HB⟩ := hrel
      cases gk with
      | zero => exact absurd HA.out (by simp [spec_l02Pack.l1])
      | succ k2 =>
       have H := HA.out; clear HA
       simp only [spec_l02Pack.l1] at H
       by_cases c6 : x6_2 < 4
       ·rw [if_pos c6] at H
        have c6b0 := decide_eq_true c6; clear c6
        by_cases c7 : x3_2.length < 140737488355328
        ·rw [if_pos c7] at H
         have LMc7 := zm c7; clear c7
         obtain ⟨y693, hy693⟩ : ∃ y_ : List Int, y_ = (x3_2 ++ [(x5_2) % 256]) := ⟨_, rfl⟩
         replace H : (spec_l02Pack.l1 k2 l0 y693 x4_1 (x5_2 / 256) (wrap64 (x6_2 + 1))) = some r := by first | (rw [hy693]; with_reducible exact H) | (have H2_ := (Option.bind_some _ _).symm.trans H; rw [hy693]; with_reducible exact H2_) | (have H2_ := (Option.bind_some _ _).symm.trans H; with_reducible exact H2_) | with_reducible exact H | (rw [hy693]; exact H) | exact H
         have Ny693 := zm hy693; clear hy693
         have H' := zm H
         clear H
         go_wp2_with (first | ((with_reducible refine gate_builtin (b := .append) (xs := #[.tmp 22, .tmp 25]) rfl ?_); at_builtin; refine Kd.R_append (Kd.int .u8) (w0 := w) w.heap.size rfl (.tmp 22) (.tmp 25) 22 5 (.int .u8 0) 1 rfl Tryz.underlying22 info5 rfl (by decide) (by omega) u3 x3_2 ((x5_2) % 256) [.int .u8 ((x5_2) % 256)] (fun _ => True) (fun _ => False) rfl rfl ?aP (fun _ hk => hk.elim) ?aF ?aO ?aB ?aS ?aL ?_; (case aP => exact rfl); (case aB => exact (zg_1 HB.out)); (case aF => exact (fun _ _ => trivial)); (case aO => exact (zg_6 Za.out)); (case aS => exact (below_size (zg_1 HB.out))); (case aL => have := LMc7.out; omega); intro v694 w8 ho hb hg hat; rw [← Ny693.out] at ho; have n0_ := zm (hb); have n1_ := zm (ho); clear Za; replace HB := n0_; have Zc := n1_; clear n0_ n1_; clear ho hb hg hat))
         go_roundg k2
         case measure => have := HK1.out; have := HK2.out; omega
         case rel => exact ⟨(y693), (x5_2 / 256), (wrap64 (x6_2 + 1)), zr, zr, H', ⟨by have := HK1.out; have := HK2.out; omega⟩, ⟨zlR Zc.out⟩, ⟨zg_1 HB.out⟩⟩
        ·rw [if_neg c7] at H
         exact absurd H (by simp)
       ·rw [if_neg c6] at H
        have c6b0 := decide_eq_false c6; clear c6
        have H' := zm H
        clear H
        go_wp2
        go_roundg k2
        case measure => have := HK1.out; have := HK2.out; omega
        case rel => exact ⟨(x3_2), (wrap64 (x4_1 + 1)), zr, H', ⟨by have := HK1.out; have := HK2.out; omega⟩, ⟨zlR Za.out⟩, ⟨zg_1 HB.out⟩⟩
    ·rw [if_neg c5] at H
     exact absurd H (by simp)
   ·rw [if_neg c4] at H
    have c4b0 := decide_eq_false c4; clear c4; obtain rfl := Option.some.inj H; have hcv9 := own_string (P := Tryz.prog) Tryz.underlying22 Tryz.underlying5 Tryz.underlying9 (Kd.own_of_R Za.out)
    go_wp2
    go_ret
    exact ⟨ze, zg_1 HB.out⟩
def spec_l02Sum.l0 : Nat → ByteArray → Int → Int → Option (Int)
  | 0, _, _, _ => none
  | k + 1, x0, x3, x4 => if x4 < (x0.size : Int) then (if 0 ≤ x4 then (spec_l02Sum.l0 k x0 (Int.tmod (wrap64 (x3 + (wrap64 ((wrap64 (x4 + 1)) * (wrap64 ((wrap64 (bt x0 x4)) + 1)))))) 251) (wrap64 (x4 + 1))) else (none)) else (some x3)
def spec_l02Sum.f (k : Nat) (a0 : ByteArray) : Option (Int) := spec_l02Sum.l0 k a0 0 0
theorem spec_l02Sum.mono_l : ∀ k, (∀ y0 y1 y2, LeO (spec_l02Sum.l0 k y0 y1 y2) (spec_l02Sum.l0 (k + 1) y0 y1 y2))
  | 0 => fun _ _ _ r h => by simp [spec_l02Sum.l0] at h
  | k + 1 => by
    have ih0 := spec_l02Sum.mono_l k
    · intro y0 y1 y2
      unfold spec_l02Sum.l0
      repeat' first| (with_reducible first | exact ih0 _ _ _ | exact LeO.refl _ | exact LeO.none _ | refine LeO.ite ?_ ?_ | refine LeO.bind ?_ (fun _ => ?_)) | exact ih0 _ _ _ | exact LeO.none _ | refine LeO.ite ?_ ?_ | refine LeO.bind ?_ (fun _ => ?_)
theorem spec_l02Sum.mono : ∀ a0 k, LeO (spec_l02Sum.f k a0) (spec_l02Sum.f (k + 1) a0) := by
  intro a0 k
  have ih0 := spec_l02Sum.mono_l k
  unfold spec_l02Sum.f
  repeat' first| (with_reducible first | exact ih0 _ _ _ | exact LeO.refl _ | exact LeO.none _ | refine LeO.ite ?_ ?_ | refine LeO.bind ?_ (fun _ => ?_)) | exact ih0 _ _ _ | exact LeO.none _ | refine LeO.ite ?_ ?_ | refine LeO.bind ?_ (fun _ => ?_)
set_option maxHeartbeats 8000000 in
set_option maxRecDepth 100000 in
theorem spec_l02Sum.calls (k : Nat) (a0 : ByteArray) (r : Int) (w : World) (h : spec_l02Sum.f k a0 = some r) :
    Calls Tryz.prog 132 #[.string a0] w fun e w' => e = .returned (.int .i64 r) ∧ Drawn0 w w' := by
 have H : (spec_l02Sum.l0 k a0 0 0) = some r := h
 clear h
 have H' := zm H
 clear H
 go_enter Tryz.func132, Tryz.ntmps132
 go_wp2
 go_loopg [3, 4] k (fun kq v3 v4 w' => ∃ (x3_1 : Int) (x4_1 : Int), v3 = .int .i64 x3_1 ∧ v4 = .int .i64 x4_1 ∧ Aside0 (spec_l02Sum.l0 kq a0 x3_1 x4_1 = some r) ∧ Aside0 (kq ≤ k) ∧ Drawn0 w w')
 case atStart => exact ⟨(0), (0), zr, zr, H', ⟨Nat.le_refl _⟩, by repeat (first | exact Drawn0.refl _ | apply Drawn0.step)⟩
 case round =>
  clear H'
  try clear c1
  obtain ⟨x3_1, x4_1, rfl, rfl, HA, HK1, ⟨m1, rfl⟩⟩ := hrel
  cases gk with
  | zero => exact absurd HA.out (by simp [spec_l02Sum.l0])
  | succ k1 =>
   have H := HA.out; clear HA
   simp only [spec_l02Sum.l0] at H
   by_cases c2 : x4_1 < (a0.size : Int)
   ·rw [if_pos c2] at H
    have c2b0 := decide_eq_true c2; clear c2
    by_cases c3 : 0 ≤ x4_1
    ·rw [if_pos c3] at H
     have c3b0 := decide_eq_true c3; clear c3
     have H' := zm H
     clear H
     have p4 : 0 ≤ (x4_1 : Int) := zd
     have q4 : x4_1 < (a0.size : Int) := zd
     have hx4 := bt_at a0 x4_1; replace p4 := eq_true p4; replace q4 := eq_true q4
     go_wp2
     go_roundg k1
     case measure => have := HK1.out; omega
     case rel => exact ⟨(Int.tmod (wrap64 (x3_1 + (wrap64 ((wrap64 (x4_1 + 1)) * (wrap64 ((wrap64 (bt a0 x4_1)) + 1)))))) 251), (wrap64 (x4_1 + 1)), zr, zr, H', ⟨by have := HK1.out; omega⟩, by repeat (first | exact Drawn0.refl _ | apply Drawn0.step)⟩
    ·rw [if_neg c3] at H
     exact absurd H (by simp)
   ·rw [if_neg c2] at H
    have c2b0 := decide_eq_false c2; clear c2; obtain rfl := Option.some.inj H
    go_wp2
    go_ret
    exact ⟨zr, by repeat (first | exact Drawn0.refl _ | apply Drawn0.step)⟩
def spec_l02Seal.f (k : Nat) (a0 : Int) (l1 : List Int) : Option (ByteArray) := (spec_l02Pack.f k l1).bind fun t696 => ((some (([(a0) % 256, ((l1.length : Int)) % 256] : List Int) : List Int)).bind fun y697 => (if (strOfNums y697).size + t696.size ≤ 9223372036854775807 then ((spec_l02Sum.f k ((strOfNums y697) ++ t696)).bind fun t700 => ((some (([(t700) % 256, 0] : List Int) : List Int)).bind fun y701 => (if (strOfNums y697).size + (strOfNums y701).size ≤ 9223372036854775807 then (if ((strOfNums y697) ++ (strOfNums y701)).size + t696.size ≤ 9223372036854775807 then (some (((strOfNums y697) ++ (strOfNums y701)) ++ t696)) else (none)) else (none)))) else (none)))
theorem spec_l02Seal.mono : ∀ a0 a1 k, LeO (spec_l02Seal.f k a0 a1) (spec_l02Seal.f (k + 1) a0 a1) := by
  intro a0 a1 k
  unfold spec_l02Seal.f
  repeat' first| (with_reducible first | exact spec_l02Pack.mono _ _ | exact spec_l02Sum.mono _ _ | exact LeO.refl _ | exact LeO.none _ | refine LeO.ite ?_ ?_ | refine LeO.bind ?_ (fun _ => ?_)) | exact spec_l02Pack.mono _ _ | exact spec_l02Sum.mono _ _ | exact LeO.none _ | refine LeO.ite ?_ ?_ | refine LeO.bind ?_ (fun _ => ?_)
set_option maxHeartbeats 8000000 in
set_option maxRecDepth 100000 in
theorem spec_l02Seal.calls (k : Nat) (a0 : Int) (A1 : Option Addr) (c1 : Nat) (l1 : List Int) (r : ByteArray) (w : World) (hr1 : Kd.C (Kd.int .i64) w A1 l1.length l1) (hc1 : l1.length ≤ c1) (h : spec_l02Seal.f k a0 l1 = some r) :
    Calls Tryz.prog 96 #[.int .i64 a0, .slice A1 l1.length c1] w fun e w' => e = .returned (.string r) ∧ Below w.heap.size w w' := by
 have HR1 := zm hr1; have HC1 := zm hc1; clear hr1 hc1; have HB := zm (Below.refl w.heap.size w); have H := h
 unfold spec_l02Seal.f at H
 clear h; replace H := Option.bind_eq_some_iff.mp H
 obtain ⟨t696, A30, H⟩ := H
 try dsimp only at H
 have A3 := zm A30; clear A30
 obtain ⟨y697, hy697⟩ : ∃ y_ : List Int, y_ = (([(a0) % 256, ((l1.length : Int)) % 256] : List Int)) := ⟨_, rfl⟩
 replace H : (if (strOfNums y697).size + t696.size ≤ 9223372036854775807 then ((spec_l02Sum.f k ((strOfNums y697) ++ t696)).bind fun t700 => ((some (([(t700) % 256, 0] : List Int) : List Int)).bind fun y701 => (if (strOfNums y697).size + (strOfNums y701).size ≤ 9223372036854775807 then (if ((strOfNums y697) ++ (strOfNums y701)).size + t696.size ≤ 9223372036854775807 then (some (((strOfNums y697) ++ (strOfNums y701)) ++ t696)) else (none)) else (none)))) else (none)) = some r := by first | (rw [hy697]; with_reducible exact H) | (have H2_ := (Option.bind_some _ _).symm.trans H; rw [hy697]; with_reducible exact H2_) | (have H2_ := (Option.bind_some _ _).symm.trans H; with_reducible exact H2_) | with_reducible exact H | (rw [hy697]; exact H) | exact H
 have Ny697 := zm hy697; clear hy697
 by_cases c4 : (strOfNums y697).size + t696.size ≤ 9223372036854775807
 ·rw [if_pos c4] at H
  have c4b0 := eq_true c4; have c4b1 := decide_eq_true c4
  try have c4b2 : (9223372036854775807 < (strOfNums y697).size + t696.size) = False := eq_false (Nat.not_lt.2 c4)
  replace H := Option.bind_eq_some_iff.mp H
  obtain ⟨t700, A50, H⟩ := H
  try dsimp only at H
  have A5 := zm A50; clear A50
  obtain ⟨y701, hy701⟩ : ∃ y_ : List Int, y_ = (([(t700) % 256, 0] : List Int)) := ⟨_, rfl⟩
  replace H : (if (strOfNums y697).size + (strOfNums y701).size ≤ 9223372036854775807 then (if ((strOfNums y697) ++ (strOfNums y701)).size + t696.size ≤ 9223372036854775807 then (some (((strOfNums y697) ++ (strOfNums y701)) ++ t696)) else (none)) else (none)) = some r := by first | (rw [hy701]; with_reducible exact H) | (have H2_ := (Option.bind_some _ _).symm.trans H; rw [hy701]; with_reducible exact H2_) | (have H2_ := (Option.bind_some _ _).symm.trans H; with_reducible exact H2_) | with_reducible exact H | (rw [hy701]; exact H) | exact H
  have Ny701 := zm hy701; clear hy701
  by_cases c6 : (strOfNums y697).size + (strOfNums y701).size ≤ 9223372036854775807
  ·rw [if_pos c6] at H
   have c6b0 := eq_true c6; have c6b1 := decide_eq_true c6
   try have c6b2 : (9223372036854775807 < (strOfNums y697).size + (strOfNums y701).size) = False := eq_false (Nat.not_lt.2 c6)
   by_cases c7 : ((strOfNums y697) ++ (strOfNums y701)).size + t696.size ≤ 9223372036854775807
   ·rw [if_pos c7] at H
    have c7b0 := eq_true c7; have c7b1 := decide_eq_true c7
    try have c7b2 : (9223372036854775807 < ((strOfNums y697) ++ (strOfNums y701)).size + t696.size) = False := eq_false (Nat.not_lt.2 c7)
    obtain rfl := Option.some.inj H
    go_enter Tryz.func96, Tryz.ntmps96
    go_wp2_with (first | ((with_reducible refine gate_callee (f := 131) rfl ?_); refine goesL_ (some 8) rfl rfl Tryz.func131 (by kernel_rfl) rfl #[.slice A1 l1.length c1] rfl zq ?_; (with_reducible refine (spec_l02Pack.calls k _ _ l1 t696 _ ?side1 ?side2 A3.out).mono ?_); (case side1 => exact zC HR1.out); (case side2 => exact HC1.out); rintro e w8 ⟨rfl, hb⟩; refine ⟨_, rfl, ?_⟩; have n0_ := zm (below_step (zg_1 HB.out) hb); replace HB := n0_; clear n0_; (try clear hb); (try clear hb2); (try clear hk); (try clear hi)) | ((with_reducible refine gate_dst (N := 14) rfl ?_); refine Kd.R_lit (Kd.int .u8) _ 5 ?hg (N := 14) ?hd (xs := ([(a0) % 256, ((l1.length : Int)) % 256] : List Int)) (inner := [.int .u8 ((a0) % 256), .int .u8 (((l1.length : Int)) % 256)]) (ok := fun _ => True) (okp := fun _ => True) ?hr ?hp (fun _ hk => hk) trivial (Below.refl _ _) (Nat.le_refl _) (by simp) ?_; (case hd => rfl); (case hg => rfl); (case hr => first | (go_simp; done) | (go_simp; rfl)); (case hp => exact (Reps.one (show Kd.M (Kd.int .u8) _ _ _ ((a0) % 256) [.int .u8 ((a0) % 256)] from rfl) (Reps.one (show Kd.M (Kd.int .u8) _ _ _ (((l1.length : Int)) % 256) [.int .u8 (((l1.length : Int)) % 256)] from rfl) (Reps.none _ _)))); intro v698 w9 ho10 hb hg_ hnew_; clear hg_ hnew_; (first | rw [← Ny697.out] at ho10 | (simp only [Int.reduceToNat] at ho10; rw [← Ny697.out] at ho10)); have n0_ := zm (Kd.R_lower ho10 (below_size (zg_1 HB.out))); have n1_ := zm (below_step (zg_1 HB.out) hb); have Za := n0_; replace HB := n1_; clear n0_ n1_; clear hb ho10; have hcv11 := own_string (P := Tryz.prog) Tryz.underlying22 Tryz.underlying5 Tryz.underlying9 (Kd.own_of_R Za.out)) | ((with_reducible refine gate_callee (f := 132) rfl ?_); refine goesL_ (some 20) rfl rfl Tryz.func132 (by kernel_rfl) rfl #[.string ((strOfNums y697) ++ t696)] rfl zq ?_; (with_reducible refine (spec_l02Sum.calls k ((strOfNums y697) ++ t696) t700 _ A5.out).mono ?_); rintro e w' ⟨rfl, ⟨nd, rfl⟩⟩; refine ⟨_, rfl, ?_⟩) | ((with_reducible refine gate_dst (N := 22) rfl ?_); refine Kd.R_lit (Kd.int .u8) _ 5 ?hg (N := 22) ?hd (xs := ([(t700) % 256, 0] : List Int)) (inner := [.int .u8 ((t700) % 256), .int .u8 0]) (ok := fun _ => True) (okp := fun _ => True) ?hr ?hp (fun _ hk => hk) trivial (Below.refl _ _) (Nat.le_refl _) (by simp) ?_; (case hd => rfl); (case hg => rfl); (case hr => first | (go_simp; done) | (go_simp; rfl)); (case hp => exact (Reps.one (show Kd.M (Kd.int .u8) _ _ _ ((t700) % 256) [.int .u8 ((t700) % 256)] from rfl) (Reps.one (show Kd.M (Kd.int .u8) _ _ _ 0 [.int .u8 0] from rfl) (Reps.none _ _)))); intro v702 w12 ho13 hb hg_ hnew_; clear hg_ hnew_; (first | rw [← Ny701.out] at ho13 | (simp only [Int.reduceToNat] at ho13; rw [← Ny701.out] at ho13)); have n0_ := zm (Kd.R_elder' (zg_6 Za.out) (Kd.R_base ho13) hb); have n1_ := zm (Kd.R_lower (Kd.R_new' ho13 (Kd.R_lt (zg_6 Za.out))) (below_size (zg_1 HB.out))); have n2_ := zm (below_step (zg_1 HB.out) hb); replace Za := n0_; have Zb := n1_; replace HB := n2_; clear n0_ n1_ n2_; clear hb ho13; have hcv14 := own_string (P := Tryz.prog) Tryz.underlying22 Tryz.underlying5 Tryz.underlying9 (Kd.own_of_R Zb.out)))
    go_ret
    exact ⟨ze, zg_1 HB.out⟩
   ·rw [if_neg c7] at H
    exact absurd H (by simp)
  ·rw [if_neg c6] at H
   exact absurd H (by simp)
 ·rw [if_neg c4] at H
  exact absurd H (by simp)
mutual
def spec_l08Encode.l0 : Nat → List Int → List Int → Int → Option (ByteArray)
  | 0, _, _, _ => none
  | k + 1, x0, x3, x4 => if x4 < 24 then (spec_l08Encode.l1 k x0 x3 x4 0 5) else ((spec_l02Seal.f k 2 x3).bind fun t717 => (some t717))
def spec_l08Encode.l1 : Nat → List Int → List Int → Int → Int → Int → Option (ByteArray)
  | 0, _, _, _, _, _ => none
  | k + 1, x0, x3, x4, x5, x6 => if x6 ≥ 0 then (if 0 ≤ (wrap64 (x4 + x6)) then (if (wrap64 (x4 + x6)) < (x0.length : Int) then (spec_l08Encode.l1 k x0 x3 x4 (wrap64 ((wrap64 (16 * x5)) + (rd x0 (wrap64 (x4 + x6))))) (wrap64 (x6 - 1))) else (none)) else (none)) else (if x3.length < 17592186044416 then (spec_l08Encode.l0 k x0 (x3 ++ [x5]) (wrap64 (x4 + 6))) else (none))
end
def spec_l08Encode.f (k : Nat) (l0 : List Int) : Option (ByteArray) := spec_l08Encode.l0 k l0 (([] : List Int)) 0
theorem spec_l08Encode.mono_l : ∀ k, (∀ y0 y1 y2, LeO (spec_l08Encode.l0 k y0 y1 y2) (spec_l08Encode.l0 (k + 1) y0 y1 y2)) ∧ (∀ y0 y1 y2 y3 y4, LeO (spec_l08Encode.l1 k y0 y1 y2 y3 y4) (spec_l08Encode.l1 (k + 1) y0 y1 y2 y3 y4))
  | 0 => ⟨fun _ _ _ r h => by simp [spec_l08Encode.l0] at h, fun _ _ _ _ _ r h => by simp [spec_l08Encode.l1] at h⟩
  | k + 1 => by
    obtain ⟨ih0, ih1⟩ := spec_l08Encode.mono_l k
    refine ⟨?_, ?_⟩
    · intro y0 y1 y2
      unfold spec_l08Encode.l0
      repeat' first| (with_reducible first | exact ih0 _ _ _ | exact ih1 _ _ _ _ _ | exact spec_l02Seal.mono _ _ _ | exact LeO.refl _ | exact LeO.none _ | refine LeO.ite ?_ ?_ | refine LeO.bind ?_ (fun _ => ?_)) | exact ih0 _ _ _ | exact ih1 _ _ _ _ _ | exact spec_l02Seal.mono _ _ _ | exact LeO.none _ | refine LeO.ite ?_ ?_ | refine LeO.bind ?_ (fun _ => ?_)
    · intro y0 y1 y2 y3 y4
      unfold spec_l08Encode.l1
      repeat' first| (with_reducible first | exact ih0 _ _ _ | exact ih1 _ _ _ _ _ | exact spec_l02Seal.mono _ _ _ | exact LeO.refl _ | exact LeO.none _ | refine LeO.ite ?_ ?_ | refine LeO.bind ?_ (fun _ => ?_)) | exact ih0 _ _ _ | exact ih1 _ _ _ _ _ | exact spec_l02Seal.mono _ _ _ | exact LeO.none _ | refine LeO.ite ?_ ?_ | refine LeO.bind ?_ (fun _ => ?_)
theorem spec_l08Encode.mono : ∀ a0 k, LeO (spec_l08Encode.f k a0) (spec_l08Encode.f (k + 1) a0) := by
  intro a0 k
  obtain ⟨ih0, ih1⟩ := spec_l08Encode.mono_l k
  unfold spec_l08Encode.f
  repeat' first| (with_reducible first | exact ih0 _ _ _ | exact ih1 _ _ _ _ _ | exact spec_l02Seal.mono _ _ _ | exact LeO.refl _ | exact LeO.none _ | refine LeO.ite ?_ ?_ | refine LeO.bind ?_ (fun _ => ?_)) | exact ih0 _ _ _ | exact ih1 _ _ _ _ _ | exact spec_l02Seal.mono _ _ _ | exact LeO.none _ | refine LeO.ite ?_ ?_ | refine LeO.bind ?_ (fun _ => ?_)
set_option maxHeartbeats 8000000 in
set_option maxRecDepth 100000 in
theorem spec_l08Encode.calls (k : Nat) (A0 : Option Addr) (c0 : Nat) (l0 : List Int) (r : ByteArray) (w : World) (hr0 : Kd.C (Kd.int .i64) w A0 l0.length l0) (hc0 : l0.length ≤ c0) (h : spec_l08Encode.f k l0 = some r) :
    Calls Tryz.prog 94 #[.slice A0 l0.length c0] w fun e w' => e = .returned (.string r) ∧ Below w.heap.size w w' := by
 have HR0 := zm hr0; have HC0 := zm hc0; clear hr0 hc0; have HB := zm (Below.refl w.heap.size w)
 have H : (spec_l08Encode.l0 k l0 (([] : List Int)) 0) = some r := h
 clear h
 obtain ⟨y714, hy714⟩ : ∃ y_ : List Int, y_ = (([] : List Int)) := ⟨_, rfl⟩
 replace H : (spec_l08Encode.l0 k l0 y714 0) = some r := by first | (rw [hy714]; with_reducible exact H) | (have H2_ := (Option.bind_some _ _).symm.trans H; rw [hy714]; with_reducible exact H2_) | (have H2_ := (Option.bind_some _ _).symm.trans H; with_reducible exact H2_) | with_reducible exact H | (rw [hy714]; exact H) | exact H
 have Ny714 := zm hy714; clear hy714
 have H' := zm H
 clear H
 go_enter Tryz.func94, Tryz.ntmps94
 go_wp2_with (first | ((with_reducible refine gate_dst (N := 7) rfl ?_); refine Kd.R_lit (Kd.int .i64) _ 3 ?hg (N := 7) ?hd (xs := ([] : List Int)) (inner := []) (ok := fun _ => True) (okp := fun _ => True) ?hr ?hp (fun _ hk => hk) trivial (Below.refl _ _) (Nat.le_refl _) (by simp) ?_; (case hd => rfl); (case hg => rfl); (case hr => first | (go_simp; done) | (go_simp; rfl)); (case hp => exact (Reps.none _ _)); intro v715 w2 ho3 hb hg_ hnew_; clear hg_ hnew_; (first | rw [← Ny714.out] at ho3 | (simp only [Int.reduceToNat] at ho3; rw [← Ny714.out] at ho3)); have n0_ := zm (Kd.R_lower ho3 (below_size (zg_1 HB.out))); have n1_ := zm (below_step (zg_1 HB.out) hb); have Zb := n0_; replace HB := n1_; clear n0_ n1_; clear hb ho3))
 go_loopg [3, 4] k (fun kq v3 v4 w' => ∃ (x3_1 : List Int) (x4_1 : Int), v4 = .int .i64 x4_1 ∧ Aside0 (spec_l08Encode.l0 kq l0 x3_1 x4_1 = some r) ∧ Aside0 (kq ≤ k) ∧ Aside0 (Kd.R (Kd.int .i64) 3 w' w.heap.size (fun _ => True) v3 x3_1) ∧ Aside0 (Below w.heap.size w w'))
 case atStart => exact ⟨(y714), (0), zr, H', ⟨Nat.le_refl _⟩, ⟨zlR Zb.out⟩, ⟨zg_1 HB.out⟩⟩
 case round =>
  clear H'
  try clear p2
  obtain ⟨x3_1, x4_1, rfl, HA, HK1, Za, HB⟩ := hrel
  cases gk with
  | zero => exact absurd HA.out (by simp [spec_l08Encode.l0])
  | succ k1 =>
   have H := HA.out; clear HA
   simp only [spec_l08Encode.l0] at H
   by_cases c4 : x4_1 < 24
   ·rw [if_pos c4] at H
    have c4b0 := decide_eq_true c4; clear c4
    have H' := zm H
    clear H
    go_wp2
    go_loopg [5, 6] k1 (fun kq v5 v6 w' => ∃ (x5_2 : Int) (x6_2 : Int), v5 = .int .i64 x5_2 ∧ v6 = .int .i64 x6_2 ∧ Aside0 (spec_l08Encode.l1 kq l0 x3_1 x4_1 x5_2 x6_2 = some r) ∧ Aside0 (kq ≤ k1) ∧ Aside0 (Kd.R (Kd.int .i64) 3 w' w.heap.size (fun _ => True) u3 x3_1) ∧ Aside0 (Below w.heap.size w w'))
    case atStart => exact ⟨(0), (5), zr, zr, H', ⟨Nat.le_refl _⟩, ⟨zlR Za.out⟩, ⟨zg_1 HB.out⟩⟩
    case round =>
     clear H'
     try clear p2
     try clear c4
     try clear c4b0
     try clear p2
     obtain ⟨x5_2, x6_2, rfl, rfl, HA, HK2, Za, HB⟩ := hrel
     cases gk with
     | zero => exact absurd HA.out (by simp [spec_l08Encode.l1])
     | succ k2 =>
      have H := HA.out; clear HA
      simp only [spec_l08Encode.l1] at H
      by_cases c5 : x6_2 ≥ 0
      ·rw [if_pos c5] at H
       have c5b0 := decide_eq_true c5; clear c5
       obtain ⟨ji6, hji6⟩ : ∃ j_ : Int, (wrap64 (x4_1 + x6_2)) = j_ := ⟨_, rfl⟩
       replace H : (if 0 ≤ (ji6) then (if (ji6) < (l0.length : Int) then (spec_l08Encode.l1 k2 l0 x3_1 x4_1 (wrap64 ((wrap64 (16 * x5_2)) + (rd l0 (ji6)))) (wrap64 (x6_2 - 1))) else (none)) else (none)) = some r := by first | (rw [hji6] at H; exact H) | (simp only [hji6] at H ⊢; exact H)
       have hji6w : (IntKind.i64.wrap (x4_1 + x6_2)) = ji6 := (i64_w _).trans hji6
       by_cases c7 : 0 ≤ (ji6)
       ·rw [if_pos c7] at H
        have c7b0 := decide_eq_true c7; clear c7
        by_cases c8 : (ji6) < (l0.length : Int)
        ·rw [if_pos c8] at H
         have c8b0 := decide_eq_true c8; clear c8
         have H' := zm H
         clear H
         have p718 : 0 ≤ ((ji6) : Int) := zd
         have q718 : (ji6) < (l0.length : Int) := zd
         obtain ⟨ad718, e718, hx718_0⟩ := Kd.at_int HR0.out (ji6) p718 q718
         cases e718; replace hx718_0 := (HB.out.cell (World.block_lt_of_cell? w _ hx718_0)).trans hx718_0; replace p718 := eq_true p718; replace q718 := eq_true q718
         go_wp2
         go_roundg k2
         case measure => have := HK1.out; have := HK2.out; omega
         case rel => exact ⟨(wrap64 ((wrap64 (16 * x5_2)) + (rd l0 (ji6)))), (wrap64 (x6_2 - 1)), (by first | rfl | (simp; done) | (simp only [← hji6] <;> (first | rfl | simp)) | (simp [*]; done)), zr, H', ⟨by have := HK1.out; have := HK2.out; omega⟩, ⟨zlR Za.out⟩, ⟨zg_1 HB.out⟩⟩
        ·rw [if_neg c8] at H
         exact absurd H (by simp)
       ·rw [if_neg c7] at H
        exact absurd H (by simp)
      ·rw [if_neg c5] at H
       have c5b0 := decide_eq_false c5; clear c5
       by_cases c9 : x3_1.length < 17592186044416
       ·rw [if_pos c9] at H
        have LMc9 := zm c9; clear c9
        obtain ⟨y719, hy719⟩ : ∃ y_ : List Int, y_ = (x3_1 ++ [x5_2]) := ⟨_, rfl⟩
        replace H : (spec_l08Encode.l0 k2 l0 y719 (wrap64 (x4_1 + 6))) = some r := by first | (rw [hy719]; with_reducible exact H) | (have H2_ := (Option.bind_some _ _).symm.trans H; rw [hy719]; with_reducible exact H2_) | (have H2_ := (Option.bind_some _ _).symm.trans H; with_reducible exact H2_) | with_reducible exact H | (rw [hy719]; exact H) | exact H
        have Ny719 := zm hy719; clear hy719
        have H' := zm H
        clear H
        go_wp2_with (first | ((with_reducible refine gate_builtin (b := .append) (xs := #[.tmp 25, .tmp 27]) rfl ?_); at_builtin; refine Kd.R_append (Kd.int .i64) (w0 := w) w.heap.size rfl (.tmp 25) (.tmp 27) 23 3 (.int .i64 0) 8 rfl Tryz.underlying23 info3 rfl (by decide) (by omega) u3 x3_1 x5_2 [.int .i64 x5_2] (fun _ => True) (fun _ => False) rfl rfl ?aP (fun _ hk => hk.elim) ?aF ?aO ?aB ?aS ?aL ?_; (case aP => exact rfl); (case aB => exact (zg_1 HB.out)); (case aF => exact (fun _ _ => trivial)); (case aO => exact (zg_6 Za.out)); (case aS => exact (below_size (zg_1 HB.out))); (case aL => have := LMc9.out; omega); intro v720 w10 ho hb hg hat; rw [← Ny719.out] at ho; have n0_ := zm (hb); have n1_ := zm (ho); clear Za; replace HB := n0_; have Zc := n1_; clear n0_ n1_; clear ho hb hg hat))
        go_roundg k2
        case measure => have := HK1.out; have := HK2.out; omega
        case rel => exact ⟨(y719), (wrap64 (x4_1 + 6)), zr, H', ⟨by have := HK1.out; have := HK2.out; omega⟩, ⟨zlR Zc.out⟩, ⟨zg_1 HB.out⟩⟩
       ·rw [if_neg c9] at H
        exact absurd H (by simp)
   ·rw [if_neg c4] at H
    have c4b0 := decide_eq_false c4; clear c4; replace H := Option.bind_eq_some_iff.mp H
    obtain ⟨t717, A110, H⟩ := H
    replace H : (some t717) = some r := H
    have A11 := zm A110; clear A110; obtain rfl := Option.some.inj H
    obtain ⟨Ao12, co12, eo12⟩ := Kd.R_slice Za.out
    subst eo12
    go_wp2_with (first | ((with_reducible refine gate_callee (f := 96) rfl ?_); refine goesL_ (some 30) rfl rfl Tryz.func96 (by kernel_rfl) rfl #[.int .i64 2, .slice Ao12 x3_1.length co12] rfl zq ?_; (with_reducible refine (spec_l02Seal.calls k1 2 _ _ x3_1 t717 _ ?side1 ?side2 A11.out).mono ?_); (case side1 => exact zC ((Kd.R_reads' Za.out).2.2)); (case side2 => exact (Kd.R_reads' Za.out).2.1); rintro e w13 ⟨rfl, hb⟩; refine ⟨_, rfl, ?_⟩; have n0_ := zm (Kd.R_below (zg_6 Za.out) hb); have n1_ := zm (below_step (zg_1 HB.out) hb); replace Za := n0_; replace HB := n1_; clear n0_ n1_; (try clear hb); (try clear hb2); (try clear hk); (try clear hi)))
    go_ret
    exact ⟨ze, zg_1 HB.out⟩
def spec_l09Encode.f (k : Nat) (l0 : List Int) : Option (ByteArray) := (spec_l02Seal.f k 3 l0).bind fun t722 => (some t722)
theorem spec_l09Encode.mono : ∀ a0 k, LeO (spec_l09Encode.f k a0) (spec_l09Encode.f (k + 1) a0) := by
  intro a0 k
  unfold spec_l09Encode.f
  repeat' first| (with_reducible first | exact spec_l02Seal.mono _ _ _ | exact LeO.refl _ | exact LeO.none _ | refine LeO.ite ?_ ?_ | refine LeO.bind ?_ (fun _ => ?_)) | exact spec_l02Seal.mono _ _ _ | exact LeO.none _ | refine LeO.ite ?_ ?_ | refine LeO.bind ?_ (fun _ => ?_)
set_option maxHeartbeats 8000000 in
set_option maxRecDepth 100000 in
theorem spec_l09Encode.calls (k : Nat) (A0 : Option Addr) (c0 : Nat) (l0 : List Int) (r : ByteArray) (w : World) (hr0 : Kd.C (Kd.int .i64) w A0 l0.length l0) (hc0 : l0.length ≤ c0) (h : spec_l09Encode.f k l0 = some r) :
    Calls Tryz.prog 95 #[.slice A0 l0.length c0] w fun e w' => e = .returned (.string r) ∧ Below w.heap.size w w' := by
  have HR0 := zm hr0; have HC0 := zm hc0; clear hr0 hc0; have HB := zm (Below.refl w.heap.size w)
  have H : ((spec_l02Seal.f k 3 l0).bind fun t722 => (some t722)) = some r := h
  clear h; replace H := Option.bind_eq_some_iff.mp H
  obtain ⟨t722, A20, H⟩ := H
  replace H : (some t722) = some r := H
  have A2 := zm A20; clear A20; obtain rfl := Option.some.inj H
  go_enter Tryz.func95, Tryz.ntmps95
  go_wp2_with (first | ((with_reducible refine gate_callee (f := 96) rfl ?_); refine goesL_ (some 4) rfl rfl Tryz.func96 (by kernel_rfl) rfl #[.int .i64 3, .slice A0 l0.length c0] rfl zq ?_; (with_reducible refine (spec_l02Seal.calls k 3 _ _ l0 t722 _ ?side1 ?side2 A2.out).mono ?_); (case side1 => exact zC HR0.out); (case side2 => exact HC0.out); rintro e w3 ⟨rfl, hb⟩; refine ⟨_, rfl, ?_⟩; have n0_ := zm (below_step (by repeat (first | (with_reducible first | exact HB.out | apply below_alloc | apply pw_below_drewN | apply below_drew1) | exact HB.out)) hb); replace HB := n0_; clear n0_; (try clear hb); (try clear hb2); (try clear hk); (try clear hi)))
  go_ret
  exact ⟨ze, by repeat (first | (with_reducible first | exact HB.out | apply below_alloc | apply pw_below_drewN | apply below_drew1) | exact HB.out)⟩
def spec_l11Name.l0 : Nat → ByteArray → Int → Int → Option (Int)
  | 0, _, _, _ => none
  | k + 1, x0, x3, x4 => if x4 < (x0.size : Int) then (if 0 ≤ x4 then (spec_l11Name.l0 k x0 (wrap64 ((wrap64 ((wrap64 (27 * x3)) + (((bt x0 x4) - 97) % 256))) + 1)) (wrap64 (x4 + 1))) else (none)) else (some x3)
def spec_l11Name.f (k : Nat) (a0 : ByteArray) : Option (Int) := spec_l11Name.l0 k a0 0 0
theorem spec_l11Name.mono_l : ∀ k, (∀ y0 y1 y2, LeO (spec_l11Name.l0 k y0 y1 y2) (spec_l11Name.l0 (k + 1) y0 y1 y2))
  | 0 => fun _ _ _ r h => by simp [spec_l11Name.l0] at h
  | k + 1 => by
    have ih0 := spec_l11Name.mono_l k
    · intro y0 y1 y2
      unfold spec_l11Name.l0
      repeat' first| (with_reducible first | exact ih0 _ _ _ | exact LeO.refl _ | exact LeO.none _ | refine LeO.ite ?_ ?_ | refine LeO.bind ?_ (fun _ => ?_)) | exact ih0 _ _ _ | exact LeO.none _ | refine LeO.ite ?_ ?_ | refine LeO.bind ?_ (fun _ => ?_)
theorem spec_l11Name.mono : ∀ a0 k, LeO (spec_l11Name.f k a0) (spec_l11Name.f (k + 1) a0) := by
  intro a0 k
  have ih0 := spec_l11Name.mono_l k
  unfold spec_l11Name.f
  repeat' first| (with_reducible first | exact ih0 _ _ _ | exact LeO.refl _ | exact LeO.none _ | refine LeO.ite ?_ ?_ | refine LeO.bind ?_ (fun _ => ?_)) | exact ih0 _ _ _ | exact LeO.none _ | refine LeO.ite ?_ ?_ | refine LeO.bind ?_ (fun _ => ?_)
set_option maxHeartbeats 8000000 in
set_option maxRecDepth 100000 in
theorem spec_l11Name.calls (k : Nat) (a0 : ByteArray) (r : Int) (w : World) (h : spec_l11Name.f k a0 = some r) :
    Calls Tryz.prog 130 #[.string a0] w fun e w' => e = .returned (.int .i64 r) ∧ Drawn0 w w' := by
 have H : (spec_l11Name.l0 k a0 0 0) = some r := h
 clear h
 have H' := zm H
 clear H
 go_enter Tryz.func130, Tryz.ntmps130
 go_wp2
 go_loopg [3, 4] k (fun kq v3 v4 w' => ∃ (x3_1 : Int) (x4_1 : Int), v3 = .int .i64 x3_1 ∧ v4 = .int .i64 x4_1 ∧ Aside0 (spec_l11Name.l0 kq a0 x3_1 x4_1 = some r) ∧ Aside0 (kq ≤ k) ∧ Drawn0 w w')
 case atStart => exact ⟨(0), (0), zr, zr, H', ⟨Nat.le_refl _⟩, by repeat (first | exact Drawn0.refl _ | apply Drawn0.step)⟩
 case round =>
  clear H'
  try clear c1
  obtain ⟨x3_1, x4_1, rfl, rfl, HA, HK1, ⟨m1, rfl⟩⟩ := hrel
  cases gk with
  | zero => exact absurd HA.out (by simp [spec_l11Name.l0])
  | succ k1 =>
   have H := HA.out; clear HA
   simp only [spec_l11Name.l0] at H
   by_cases c2 : x4_1 < (a0.size : Int)
   ·rw [if_pos c2] at H
    have c2b0 := decide_eq_true c2; clear c2
    by_cases c3 : 0 ≤ x4_1
    ·rw [if_pos c3] at H
     have c3b0 := decide_eq_true c3; clear c3
     have H' := zm H
     clear H
     have p4 : 0 ≤ (x4_1 : Int) := zd
     have q4 : x4_1 < (a0.size : Int) := zd
     have hx4 := bt_at a0 x4_1; replace p4 := eq_true p4; replace q4 := eq_true q4
     go_wp2
     go_roundg k1
     case measure => have := HK1.out; omega
     case rel => exact ⟨(wrap64 ((wrap64 ((wrap64 (27 * x3_1)) + (((bt a0 x4_1) - 97) % 256))) + 1)), (wrap64 (x4_1 + 1)), zr, zr, H', ⟨by have := HK1.out; omega⟩, by repeat (first | exact Drawn0.refl _ | apply Drawn0.step)⟩
    ·rw [if_neg c3] at H
     exact absurd H (by simp)
   ·rw [if_neg c2] at H
    have c2b0 := decide_eq_false c2; clear c2; obtain rfl := Option.some.inj H
    go_wp2
    go_ret
    exact ⟨zr, by repeat (first | exact Drawn0.refl _ | apply Drawn0.step)⟩
def spec_l11Super.l0 : Nat → List Int → Int → List Int → List Int → List (S103) → List Int → Option (ByteArray)
  | 0, _, _, _, _, _, _ => none
  | k + 1, x3, x4, x705000, x705001, x705002, x705003 => if x4 < (x705002.length : Int) then (if 0 ≤ x4 then ((spec_l11Name.f k ((rd_T103 x705002 x4).f0)).bind fun t709 => (if x3.length < 17592186044416 then (spec_l11Super.l0 k (x3 ++ [t709]) (wrap64 (x4 + 1)) x705000 x705001 x705002 x705003) else (none))) else (none)) else ((spec_l02Seal.f k 1 x3).bind fun t713 => (some t713))
def spec_l11Super.f (k : Nat) (l0_0 : List Int) (l0_1 : List Int) (l0_2 : List (S103)) (l0_3 : List Int) : Option (ByteArray) := spec_l11Super.l0 k (([(l0_2.length : Int)] : List Int)) 0 l0_0 l0_1 l0_2 l0_3
theorem spec_l11Super.mono_l : ∀ k, (∀ y0 y1 y2 y3 y4 y5, LeO (spec_l11Super.l0 k y0 y1 y2 y3 y4 y5) (spec_l11Super.l0 (k + 1) y0 y1 y2 y3 y4 y5))
  | 0 => fun _ _ _ _ _ _ r h => by simp [spec_l11Super.l0] at h
  | k + 1 => by
    have ih0 := spec_l11Super.mono_l k
    · intro y0 y1 y2 y3 y4 y5
      unfold spec_l11Super.l0
      repeat' first| (with_reducible first | exact ih0 _ _ _ _ _ _ | exact spec_l02Seal.mono _ _ _ | exact spec_l11Name.mono _ _ | exact LeO.refl _ | exact LeO.none _ | refine LeO.ite ?_ ?_ | refine LeO.bind ?_ (fun _ => ?_)) | exact ih0 _ _ _ _ _ _ | exact spec_l02Seal.mono _ _ _ | exact spec_l11Name.mono _ _ | exact LeO.none _ | refine LeO.ite ?_ ?_ | refine LeO.bind ?_ (fun _ => ?_)
theorem spec_l11Super.mono : ∀ a0 a1 a2 a3 k, LeO (spec_l11Super.f k a0 a1 a2 a3) (spec_l11Super.f (k + 1) a0 a1 a2 a3) := by
  intro a0 a1 a2 a3 k
  have ih0 := spec_l11Super.mono_l k
  unfold spec_l11Super.f
  repeat' first| (with_reducible first | exact ih0 _ _ _ _ _ _ | exact spec_l02Seal.mono _ _ _ | exact spec_l11Name.mono _ _ | exact LeO.refl _ | exact LeO.none _ | refine LeO.ite ?_ ?_ | refine LeO.bind ?_ (fun _ => ?_)) | exact ih0 _ _ _ _ _ _ | exact spec_l02Seal.mono _ _ _ | exact spec_l11Name.mono _ _ | exact LeO.none _ | refine LeO.ite ?_ ?_ | refine LeO.bind ?_ (fun _ => ?_)
set_option maxHeartbeats 8000000 in
set_option maxRecDepth 100000 in
theorem spec_l11Super.calls (k : Nat) (A0_0 : Option Addr) (c0_0 : Nat) (l0_0 : List Int) (A0_1 : Option Addr) (c0_1 : Nat) (l0_1 : List Int) (A0_2 : Option Addr) (c0_2 : Nat) (l0_2 : List (S103)) (A0_3 : Option Addr) (c0_3 : Nat) (l0_3 : List Int) (r : ByteArray) (w : World) (hr0_0 : Kd.C (Kd.int .i64) w A0_0 l0_0.length l0_0) (hc0_0 : l0_0.length ≤ c0_0) (hr0_1 : Kd.C (Kd.int .i64) w A0_1 l0_1.length l0_1) (hc0_1 : l0_1.length ≤ c0_1) (hr0_2 : Kd.C k103 w A0_2 l0_2.length l0_2) (hc0_2 : l0_2.length ≤ c0_2) (hr0_3 : Kd.C (Kd.int .i64) w A0_3 l0_3.length l0_3) (hc0_3 : l0_3.length ≤ c0_3) (h : spec_l11Super.f k l0_0 l0_1 l0_2 l0_3 = some r) :
    Calls Tryz.prog 93 #[.agg #[.slice A0_0 l0_0.length c0_0, .slice A0_1 l0_1.length c0_1, .slice A0_2 l0_2.length c0_2, .slice A0_3 l0_3.length c0_3]] w fun e w' => e = .returned (.string r) ∧ Below w.heap.size w w' := by
 have hu26 := Tryz.underlying26; have Zi := zm hr0_0; have Zj := zm hc0_0; clear hr0_0 hc0_0; have Zk := zm hr0_1; have Zl := zm hc0_1; clear hr0_1 hc0_1; have Zd := zm hr0_2; have Zm := zm hc0_2; clear hr0_2 hc0_2; have Zn := zm hr0_3; have Zo := zm hc0_3; clear hr0_3 hc0_3; have HB := zm (Below.refl w.heap.size w)
 have H : (spec_l11Super.l0 k (([(l0_2.length : Int)] : List Int)) 0 l0_0 l0_1 l0_2 l0_3) = some r := h
 clear h
 obtain ⟨y705, hy705⟩ : ∃ y_ : List Int, y_ = (([(l0_2.length : Int)] : List Int)) := ⟨_, rfl⟩
 replace H : (spec_l11Super.l0 k y705 0 l0_0 l0_1 l0_2 l0_3) = some r := by first | (rw [hy705]; with_reducible exact H) | (have H2_ := (Option.bind_some _ _).symm.trans H; rw [hy705]; with_reducible exact H2_) | (have H2_ := (Option.bind_some _ _).symm.trans H; with_reducible exact H2_) | with_reducible exact H | (rw [hy705]; exact H) | exact H
 have Ny705 := zm hy705; clear hy705
 have H' := zm H
 clear H
 go_enter Tryz.func93, Tryz.ntmps93
 go_wp2_with (first | ((with_reducible refine gate_dst (N := 1) rfl ?_); refine box_event ?hg (N := 1) ?hd (cs := #[.slice A0_0 l0_0.length c0_0, .slice A0_1 l0_1.length c0_1, .slice A0_2 l0_2.length c0_2, .slice A0_3 l0_3.length c0_3]) (t := 26) ?hr ?_; (case hd => rfl); (case hg => rfl); (case hr => first | (go_simp; done) | (go_simp; rfl)); intro gb704 hg w2 hbox hb; have n0_ := zm (below_step (zg_1 HB.out) hb); have n1_ := zm (hbox); have n2_ := zm ((by rw [hg]; exact (below_size (zg_1 HB.out)) : w.heap.size ≤ gb704)); have n3_ := zm ((by rw [hg]; exact (below_size (zg_1 HB.out)) : w.heap.size ≤ gb704)); replace HB := n0_; have Za := n1_; have Zp := n2_; have Zb := n3_; clear n0_ n1_ n2_ n3_; clear hb hbox hg; obtain ⟨hcz3_0, hcz3_1, hcz3_2, hcz3_3, hfz3_0, hfz3_1, hfz3_2, hfz3_3⟩ := zb4 Za.out) | ((with_reducible refine gate_dst (N := 8) rfl ?_); refine Kd.R_lit (Kd.int .i64) _ 3 ?hg (N := 8) ?hd (xs := ([(l0_2.length : Int)] : List Int)) (inner := [.int .i64 (l0_2.length : Int)]) (ok := fun _ => True) (okp := fun _ => True) ?hr ?hp (fun _ hk => hk) trivial (Below.refl _ _) (Nat.le_refl _) (by simp) ?_; (case hd => rfl); (case hg => rfl); (case hr => first | (go_simp; done) | (go_simp; rfl)); (case hp => exact (Reps.one (show Kd.M (Kd.int .i64) _ _ _ (l0_2.length : Int) [.int .i64 (l0_2.length : Int)] from rfl) (Reps.none _ _))); intro v706 w4 ho5 hb hg_ hnew_; clear hg_ hnew_; (first | rw [← Ny705.out] at ho5 | (simp only [Int.reduceToNat] at ho5; rw [← Ny705.out] at ho5)); have n0_ := zm (Kd.R_lower ho5 (below_size (zg_2 HB.out Zb.out))); have n1_ := zm (blk_below (zg_3 Za.out) hb); have n2_ := zm (below_step (zg_2 HB.out Zb.out) hb); have Ze := n0_; replace Za := n1_; replace HB := n2_; clear n0_ n1_ n2_; clear hb ho5))
 go_loopg [3, 4] k (fun kq v3 v4 w' => ∃ (x3_1 : List Int) (x4_1 : Int), v4 = .int .i64 x4_1 ∧ Aside0 (spec_l11Super.l0 kq x3_1 x4_1 l0_0 l0_1 l0_2 l0_3 = some r) ∧ Aside0 (kq ≤ k) ∧ Aside0 (Kd.R (Kd.int .i64) 3 w' w.heap.size (fun _ => True) v3 x3_1) ∧ Aside0 (w'.heap[gb704]? = some (.cells #[(.slice A0_0 l0_0.length c0_0), (.slice A0_1 l0_1.length c0_1), (.slice A0_2 l0_2.length c0_2), (.slice A0_3 l0_3.length c0_3)] 26 (0, 0))) ∧ Aside0 (Below w.heap.size w w'))
 case atStart => exact ⟨(y705), (0), zr, H', ⟨Nat.le_refl _⟩, ⟨zlR Ze.out⟩, ⟨zl Za.out⟩, ⟨zg_2 HB.out Zb.out⟩⟩
 case round =>
  clear H'
  try clear p2
  obtain ⟨x3_1, x4_1, rfl, HA, HK1, Zc, Za, HB⟩ := hrel
  cases gk with
  | zero => exact absurd HA.out (by simp [spec_l11Super.l0])
  | succ k1 =>
   have H := HA.out; clear HA
   simp only [spec_l11Super.l0] at H
   by_cases c6 : x4_1 < (l0_2.length : Int)
   ·rw [if_pos c6] at H
    have c6b0 := decide_eq_true c6; clear c6
    by_cases c7 : 0 ≤ x4_1
    ·rw [if_pos c7] at H
     have c7b0 := decide_eq_true c7; clear c7; replace H := Option.bind_eq_some_iff.mp H
     obtain ⟨t709, A80, H⟩ := H
     try dsimp only at H
     have A8 := zm A80; clear A80
     by_cases c9 : x3_1.length < 17592186044416
     ·rw [if_pos c9] at H
      have LMc9 := zm c9; clear c9
      obtain ⟨y710, hy710⟩ : ∃ y_ : List Int, y_ = (x3_1 ++ [t709]) := ⟨_, rfl⟩
      replace H : (spec_l11Super.l0 k1 y710 (wrap64 (x4_1 + 1)) l0_0 l0_1 l0_2 l0_3) = some r := by first | (rw [hy710]; with_reducible exact H) | (have H2_ := (Option.bind_some _ _).symm.trans H; rw [hy710]; with_reducible exact H2_) | (have H2_ := (Option.bind_some _ _).symm.trans H; with_reducible exact H2_) | with_reducible exact H | (rw [hy710]; exact H) | exact H
      have Ny710 := zm hy710; clear hy710
      have H' := zm H
      clear H
      obtain ⟨hcz10_0, hcz10_1, hcz10_2, hcz10_3, hfz10_0, hfz10_1, hfz10_2, hfz10_3⟩ := zb4 Za.out
      have p708 : 0 ≤ (x4_1 : Int) := zd
      have q708 : x4_1 < (l0_2.length : Int) := zd
      obtain ⟨ad708, A708_1, c708_1, e708, hx708_0, hx708_1, hl708_1, hi708_1⟩ := at_T103 Zd.out x4_1 p708 q708
      cases e708; replace hx708_0 := (HB.out.cell (World.block_lt_of_cell? w _ hx708_0)).trans hx708_0; replace hx708_1 := (HB.out.cell (World.block_lt_of_cell? w _ hx708_1)).trans hx708_1; have Zg := zm hi708_1; have Zh := zm hl708_1; clear hi708_1 hl708_1; replace p708 := eq_true p708; replace q708 := eq_true q708
      go_wp2_with (first | ((with_reducible refine gate_callee (f := 130) rfl ?_); refine goesL_ (some 23) rfl rfl Tryz.func130 (by kernel_rfl) rfl #[.string ((rd_T103 l0_2 x4_1).f0)] rfl zq ?_; (with_reducible refine (spec_l11Name.calls k1 ((rd_T103 l0_2 x4_1).f0) t709 _ A8.out).mono ?_); rintro e w' ⟨rfl, ⟨nd, rfl⟩⟩; refine ⟨_, rfl, ?_⟩) | ((with_reducible refine gate_builtin (b := .append) (xs := #[.tmp 16, .tmp 24]) rfl ?_); at_builtin; refine Kd.R_append (Kd.int .i64) (w0 := w) w.heap.size rfl (.tmp 16) (.tmp 24) 23 3 (.int .i64 0) 8 rfl Tryz.underlying23 info3 rfl (by decide) (by omega) u3 x3_1 t709 [.int .i64 t709] (fun _ => True) (fun _ => False) rfl rfl ?aP (fun _ hk => hk.elim) ?aF ?aO ?aB ?aS ?aL ?_; (case aP => exact rfl); (case aB => exact (zg_2 HB.out Zb.out)); (case aF => exact (fun _ _ => trivial)); (case aO => exact (zg_6 Zc.out)); (case aS => exact (below_size (zg_2 HB.out Zb.out))); (case aL => have := LMc9.out; omega); intro v711 w11 ho hb hg hat; rw [← Ny710.out] at ho; have n0_ := zm (blk_grown (zg_3 Za.out) hg (Kd.R_ne Zc.out Za.out (by decide))); have n1_ := zm (hb); have n2_ := zm (ho); clear Zc; replace Za := n0_; replace HB := n1_; have Zf := n2_; clear n0_ n1_ n2_; clear ho hb hg hat))
      go_roundg k1
      case measure => have := HK1.out; omega
      case rel => exact ⟨(y710), (wrap64 (x4_1 + 1)), zr, H', ⟨by have := HK1.out; omega⟩, ⟨zlR Zf.out⟩, ⟨zl Za.out⟩, ⟨zg_2 HB.out Zb.out⟩⟩
     ·rw [if_neg c9] at H
      exact absurd H (by simp)
    ·rw [if_neg c7] at H
     exact absurd H (by simp)
   ·rw [if_neg c6] at H
    have c6b0 := decide_eq_false c6; clear c6; replace H := Option.bind_eq_some_iff.mp H
    obtain ⟨t713, A120, H⟩ := H
    replace H : (some t713) = some r := H
    have A12 := zm A120; clear A120; obtain rfl := Option.some.inj H
    obtain ⟨hcz13_0, hcz13_1, hcz13_2, hcz13_3, hfz13_0, hfz13_1, hfz13_2, hfz13_3⟩ := zb4 Za.out
    obtain ⟨Ao14, co14, eo14⟩ := Kd.R_slice Zc.out
    subst eo14
    go_wp2_with (first | ((with_reducible refine gate_callee (f := 96) rfl ?_); refine goesL_ (some 27) rfl rfl Tryz.func96 (by kernel_rfl) rfl #[.int .i64 1, .slice Ao14 x3_1.length co14] rfl zq ?_; (with_reducible refine (spec_l02Seal.calls k1 1 _ _ x3_1 t713 _ ?side1 ?side2 A12.out).mono ?_); (case side1 => exact zC ((Kd.R_reads' Zc.out).2.2)); (case side2 => exact (Kd.R_reads' Zc.out).2.1); rintro e w15 ⟨rfl, hb⟩; refine ⟨_, rfl, ?_⟩; have n0_ := zm (Kd.R_below (zg_6 Zc.out) hb); have n1_ := zm (blk_below (zg_3 Za.out) hb); have n2_ := zm (below_step (zg_2 HB.out Zb.out) hb); replace Zc := n0_; replace Za := n1_; replace HB := n2_; clear n0_ n1_ n2_; (try clear hb); (try clear hb2); (try clear hk); (try clear hi)))
    go_ret
    exact ⟨ze, zg_2 HB.out Zb.out⟩
end Go.Proofs.YtglcnnmobkocmaaGreat.Q
