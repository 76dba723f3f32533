/- What laws.FnExactWrongRefs reaches, part 10: the functions as Lean functions, the proofs that the program's functions answer so, and plain laws about them. -/
import Derived.Test.YtdbcojeblkiidaaKFnExactWrongRefs1
import Derived.Test.YtdbcojeblkiidaaKFnExactWrongRefs2
import Derived.Test.YtdbcojeblkiidaaKFnExactWrongRefs3
import Derived.Test.YtdbcojeblkiidaaKFnExactWrongRefs4
import Derived.Test.YtdbcojeblkiidaaKFnExactWrongRefs5
import Derived.Test.YtdbcojeblkiidaaKFnExactWrongRefs6
import Derived.Test.YtdbcojeblkiidaaKFnExactWrongRefs9
namespace Go.Proofs.Ytdbcojeblkiidaa.Q
open Go.RowKit Go.Proofs.Ytdbcojeblkiidaa.Ext Go.Proofs.YtdbcojeblkiidaaW.PrintWords Go.Proofs.YtdbcojeblkiidaaW.PrintLast Go.Proofs.YtdbcojeblkiidaaW.PrintMore
attribute [local go_sem] max2_int min2_int max_two min_two max_three min_three max_four min_four   -- for this text's walks alone
set_option linter.unusedVariables false
set_option linter.unusedSimpArgs false

set_option linter.unusedVariables false
set_option linter.unusedSimpArgs false
/-! ### spec_ImageOK: function 9 -/
mutual
def spec_ImageOK.j0 : Nat → Bool → List Int → List Int → List (S45) → List Int → Option (Bool)
  | 0, _, _, _, _, _ => none
  | k + 1, x13, x171000, x171001, x171002, x171003 => if x13 = true then (some false) else (spec_ImageOK.l0 k 0 x171000 x171001 x171002 x171003)
def spec_ImageOK.l0 : Nat → Int → List Int → List Int → List (S45) → List Int → Option (Bool)
  | 0, _, _, _, _, _ => none
  | k + 1, x3, x171000, x171001, x171002, x171003 => if x3 < (x171002.length : Int) then (if 0 ≤ x3 then ((spec_l10Twice.f k ((rd_T45 x171002 x3).f1)).bind fun t174 => (if t174 = true then (some false) else (spec_ImageOK.l0 k (wrap64 (x3 + 1)) x171000 x171001 x171002 x171003))) else (none)) else ((spec_l10Count.f k x171000 x171001 x171002 x171003).bind fun t175 => (spec_ImageOK.l1 k t175 0 x171000 x171001 x171002 x171003))
def spec_ImageOK.l1 : Nat → List Int → Int → List Int → List Int → List (S45) → List Int → Option (Bool)
  | 0, _, _, _, _, _, _ => none
  | k + 1, x4, x5, x171000, x171001, x171002, x171003 => if x5 < 24 then (if 0 ≤ x5 then (if x5 < (x4.length : Int) then (if x5 < (x171000.length : Int) then (if (rd x4 x5) = (rd x171000 x5) then (if (rd x4 x5) = 0 then (if x5 < (x171003.length : Int) then (if (rd x171003 x5) = 0 then (spec_ImageOK.l1 k x4 (wrap64 (x5 + 1)) x171000 x171001 x171002 x171003) else (some false)) else (none)) else (spec_ImageOK.l1 k x4 (wrap64 (x5 + 1)) x171000 x171001 x171002 x171003)) else (some false)) else (none)) else (none)) else (none)) else (some true)
end
def spec_ImageOK.f (k : Nat) (l0_0 : List Int) (l0_1 : List Int) (l0_2 : List (S45)) (l0_3 : List Int) : Option (Bool) := (spec_l10Form.f k l0_0 l0_1 l0_2 l0_3).bind fun t171 => (if t171 = true then ((spec_l10Twice.f k l0_1).bind fun t172 => (spec_ImageOK.j0 k t172 l0_0 l0_1 l0_2 l0_3)) else (spec_ImageOK.j0 k true l0_0 l0_1 l0_2 l0_3))
theorem spec_ImageOK.mono_l : ∀ k, (∀ y0 y1 y2 y3 y4, LeO (spec_ImageOK.j0 k y0 y1 y2 y3 y4) (spec_ImageOK.j0 (k + 1) y0 y1 y2 y3 y4)) ∧ (∀ y0 y1 y2 y3 y4, LeO (spec_ImageOK.l0 k y0 y1 y2 y3 y4) (spec_ImageOK.l0 (k + 1) y0 y1 y2 y3 y4)) ∧ (∀ y0 y1 y2 y3 y4 y5, LeO (spec_ImageOK.l1 k y0 y1 y2 y3 y4 y5) (spec_ImageOK.l1 (k + 1) y0 y1 y2 y3 y4 y5))
  | 0 => ⟨fun _ _ _ _ _ r h => by simp [spec_ImageOK.j0] at h, fun _ _ _ _ _ r h => by simp [spec_ImageOK.l0] at h, fun _ _ _ _ _ _ r h => by simp [spec_ImageOK.l1] at h⟩
  | k + 1 => by
    obtain ⟨ih0, ih1, ih2⟩ := spec_ImageOK.mono_l k
    refine ⟨?_, ?_, ?_⟩
    · intro y0 y1 y2 y3 y4
      unfold spec_ImageOK.j0
      repeat' first
      | (with_reducible exact ih0 _ _ _ _ _)
      | (with_reducible exact ih1 _ _ _ _ _)
      | (with_reducible exact ih2 _ _ _ _ _ _)
      | (with_reducible exact spec_l10Count.mono _ _ _ _ _)
      | (with_reducible exact spec_l10Form.mono _ _ _ _ _)
      | (with_reducible exact spec_l10Twice.mono _ _)
      | (with_reducible exact LeO.refl _)
      | (with_reducible exact LeO.none _)
      | (with_reducible refine LeO.ite ?_ ?_)
      | (with_reducible refine LeO.bind ?_ (fun _ => ?_))
      | exact ih0 _ _ _ _ _
      | exact ih1 _ _ _ _ _
      | exact ih2 _ _ _ _ _ _
      | exact spec_l10Count.mono _ _ _ _ _
      | exact spec_l10Form.mono _ _ _ _ _
      | exact spec_l10Twice.mono _ _
      | exact LeO.none _
      | refine LeO.ite ?_ ?_
      | refine LeO.bind ?_ (fun _ => ?_)
    · intro y0 y1 y2 y3 y4
      unfold spec_ImageOK.l0
      repeat' first
      | (with_reducible exact ih0 _ _ _ _ _)
      | (with_reducible exact ih1 _ _ _ _ _)
      | (with_reducible exact ih2 _ _ _ _ _ _)
      | (with_reducible exact spec_l10Count.mono _ _ _ _ _)
      | (with_reducible exact spec_l10Form.mono _ _ _ _ _)
      | (with_reducible exact spec_l10Twice.mono _ _)
      | (with_reducible exact LeO.refl _)
      | (with_reducible exact LeO.none _)
      | (with_reducible refine LeO.ite ?_ ?_)
      | (with_reducible refine LeO.bind ?_ (fun _ => ?_))
      | exact ih0 _ _ _ _ _
      | exact ih1 _ _ _ _ _
      | exact ih2 _ _ _ _ _ _
      | exact spec_l10Count.mono _ _ _ _ _
      | exact spec_l10Form.mono _ _ _ _ _
      | exact spec_l10Twice.mono _ _
      | exact LeO.none _
      | refine LeO.ite ?_ ?_
      | refine LeO.bind ?_ (fun _ => ?_)
    · intro y0 y1 y2 y3 y4 y5
      unfold spec_ImageOK.l1
      repeat' first
      | (with_reducible exact ih0 _ _ _ _ _)
      | (with_reducible exact ih1 _ _ _ _ _)
      | (with_reducible exact ih2 _ _ _ _ _ _)
      | (with_reducible exact spec_l10Count.mono _ _ _ _ _)
      | (with_reducible exact spec_l10Form.mono _ _ _ _ _)
      | (with_reducible exact spec_l10Twice.mono _ _)
      | (with_reducible exact LeO.refl _)
      | (with_reducible exact LeO.none _)
      | (with_reducible refine LeO.ite ?_ ?_)
      | (with_reducible refine LeO.bind ?_ (fun _ => ?_))
      | exact ih0 _ _ _ _ _
      | exact ih1 _ _ _ _ _
      | exact ih2 _ _ _ _ _ _
      | exact spec_l10Count.mono _ _ _ _ _
      | exact spec_l10Form.mono _ _ _ _ _
      | exact spec_l10Twice.mono _ _
      | exact LeO.none _
      | refine LeO.ite ?_ ?_
      | refine LeO.bind ?_ (fun _ => ?_)
theorem spec_ImageOK.mono : ∀ a0 a1 a2 a3 k, LeO (spec_ImageOK.f k a0 a1 a2 a3) (spec_ImageOK.f (k + 1) a0 a1 a2 a3) := by
  intro a0 a1 a2 a3 k
  obtain ⟨ih0, ih1, ih2⟩ := spec_ImageOK.mono_l k
  unfold spec_ImageOK.f
  repeat' first
      | (with_reducible exact ih0 _ _ _ _ _)
      | (with_reducible exact ih1 _ _ _ _ _)
      | (with_reducible exact ih2 _ _ _ _ _ _)
      | (with_reducible exact spec_l10Count.mono _ _ _ _ _)
      | (with_reducible exact spec_l10Form.mono _ _ _ _ _)
      | (with_reducible exact spec_l10Twice.mono _ _)
      | (with_reducible exact LeO.refl _)
      | (with_reducible exact LeO.none _)
      | (with_reducible refine LeO.ite ?_ ?_)
      | (with_reducible refine LeO.bind ?_ (fun _ => ?_))
      | exact ih0 _ _ _ _ _
      | exact ih1 _ _ _ _ _
      | exact ih2 _ _ _ _ _ _
      | exact spec_l10Count.mono _ _ _ _ _
      | exact spec_l10Form.mono _ _ _ _ _
      | exact spec_l10Twice.mono _ _
      | exact LeO.none _
      | refine LeO.ite ?_ ?_
      | refine LeO.bind ?_ (fun _ => ?_)
set_option maxHeartbeats 8000000 in
set_option maxRecDepth 100000 in
theorem spec_ImageOK.calls (k : Nat) (A0_0 : Option Addr) (c0_0 : Nat) (l0_0 : List Int) (A0_1 : Option Addr) (c0_1 : Nat) (l0_1 : List Int) (A0_2 : Option Addr) (c0_2 : Nat) (l0_2 : List (S45)) (A0_3 : Option Addr) (c0_3 : Nat) (l0_3 : List Int) (r : Bool) (w : World) (hr0_0 : Kd.C (Kd.int .i64) w A0_0 l0_0.length l0_0) (hc0_0 : l0_0.length ≤ c0_0) (hr0_1 : Kd.C (Kd.int .i64) w A0_1 l0_1.length l0_1) (hc0_1 : l0_1.length ≤ c0_1) (hr0_2 : Kd.C k45 w A0_2 l0_2.length l0_2) (hc0_2 : l0_2.length ≤ c0_2) (hr0_3 : Kd.C (Kd.int .i64) w A0_3 l0_3.length l0_3) (hc0_3 : l0_3.length ≤ c0_3) (h : spec_ImageOK.f k l0_0 l0_1 l0_2 l0_3 = some r) :
    Calls Try.prog 9 #[.agg #[.slice A0_0 l0_0.length c0_0, .slice A0_1 l0_1.length c0_1, .slice A0_2 l0_2.length c0_2, .slice A0_3 l0_3.length c0_3]] w fun e w' => e = .returned (.bool r) ∧ Below w.heap.size w w' := by
 have hu30 := Try.underlying30
 have HR0_0 := Aside0.mk hr0_0
 have HC0_0 := Aside0.mk hc0_0
 clear hr0_0 hc0_0
 have HR0_1 := Aside0.mk hr0_1
 have HC0_1 := Aside0.mk hc0_1
 clear hr0_1 hc0_1
 have HR0_2 := Aside0.mk hr0_2
 have HC0_2 := Aside0.mk hc0_2
 clear hr0_2 hc0_2
 have HR0_3 := Aside0.mk hr0_3
 have HC0_3 := Aside0.mk hc0_3
 clear hr0_3 hc0_3
 have HB := Aside0.mk (Below.refl w.heap.size w)
 have H : ((spec_l10Form.f k l0_0 l0_1 l0_2 l0_3).bind fun t171 => (if t171 = true then ((spec_l10Twice.f k l0_1).bind fun t172 => (spec_ImageOK.j0 k t172 l0_0 l0_1 l0_2 l0_3)) else (spec_ImageOK.j0 k true l0_0 l0_1 l0_2 l0_3))) = some r := h
 clear h
 have HC2 := Aside0.mk H
 clear H
 go_enter Try.func9, Try.ntmps9
 go_upto_region 1 with (first | ((with_reducible refine gate_dst (N := 1) rfl ?_); refine box_event ?hg (N := 1) ?hd (cs := #[.slice A0_0 l0_0.length c0_0, .slice A0_1 l0_1.length c0_1, .slice A0_2 l0_2.length c0_2, .slice A0_3 l0_3.length c0_3]) (t := 30) ?hr ?_; (case hd => rfl); (case hg => rfl); (case hr => first | (go_simp; done) | (go_simp; rfl)); intro gb170 hg w3 hbox hb; have n0_ := Aside0.mk (below_step (by repeat (first | (with_reducible first | exact HB.out | apply below_alloc | apply pw_below_drewN | apply below_drew1) | exact HB.out)) hb); have n1_ := Aside0.mk (hbox); have n2_ := Aside0.mk ((by rw [hg]; exact (below_size (by repeat (first | (with_reducible first | exact HB.out | apply below_alloc | apply pw_below_drewN | apply below_drew1) | exact HB.out))) : w.heap.size ≤ gb170)); have n3_ := Aside0.mk ((by rw [hg]; exact (below_size (by repeat (first | (with_reducible first | exact HB.out | apply below_alloc | apply pw_below_drewN | apply below_drew1) | exact HB.out))) : w.heap.size ≤ gb170)); clear HB; have HB := n0_; have BK170 := n1_; have GW170 := n2_; have GE170 := n3_; clear n0_ n1_ n2_ n3_; clear hb hbox hg))
 repeat (go_quiet (first | ((with_reducible refine gate_dst (N := 1) rfl ?_); refine box_event ?hg (N := 1) ?hd (cs := #[.slice A0_0 l0_0.length c0_0, .slice A0_1 l0_1.length c0_1, .slice A0_2 l0_2.length c0_2, .slice A0_3 l0_3.length c0_3]) (t := 30) ?hr ?_; (case hd => rfl); (case hg => rfl); (case hr => first | (go_simp; done) | (go_simp; rfl)); intro gb170 hg w3 hbox hb; have n0_ := Aside0.mk (below_step (by repeat (first | (with_reducible first | exact HB.out | apply below_alloc | apply pw_below_drewN | apply below_drew1) | exact HB.out)) hb); have n1_ := Aside0.mk (hbox); have n2_ := Aside0.mk ((by rw [hg]; exact (below_size (by repeat (first | (with_reducible first | exact HB.out | apply below_alloc | apply pw_below_drewN | apply below_drew1) | exact HB.out))) : w.heap.size ≤ gb170)); have n3_ := Aside0.mk ((by rw [hg]; exact (below_size (by repeat (first | (with_reducible first | exact HB.out | apply below_alloc | apply pw_below_drewN | apply below_drew1) | exact HB.out))) : w.heap.size ≤ gb170)); clear HB; have HB := n0_; have BK170 := n1_; have GW170 := n2_; have GE170 := n3_; clear n0_ n1_ n2_ n3_; clear hb hbox hg)); go_upto_region 1 with (first | ((with_reducible refine gate_dst (N := 1) rfl ?_); refine box_event ?hg (N := 1) ?hd (cs := #[.slice A0_0 l0_0.length c0_0, .slice A0_1 l0_1.length c0_1, .slice A0_2 l0_2.length c0_2, .slice A0_3 l0_3.length c0_3]) (t := 30) ?hr ?_; (case hd => rfl); (case hg => rfl); (case hr => first | (go_simp; done) | (go_simp; rfl)); intro gb170 hg w3 hbox hb; have n0_ := Aside0.mk (below_step (by repeat (first | (with_reducible first | exact HB.out | apply below_alloc | apply pw_below_drewN | apply below_drew1) | exact HB.out)) hb); have n1_ := Aside0.mk (hbox); have n2_ := Aside0.mk ((by rw [hg]; exact (below_size (by repeat (first | (with_reducible first | exact HB.out | apply below_alloc | apply pw_below_drewN | apply below_drew1) | exact HB.out))) : w.heap.size ≤ gb170)); have n3_ := Aside0.mk ((by rw [hg]; exact (below_size (by repeat (first | (with_reducible first | exact HB.out | apply below_alloc | apply pw_below_drewN | apply below_drew1) | exact HB.out))) : w.heap.size ≤ gb170)); clear HB; have HB := n0_; have BK170 := n1_; have GW170 := n2_; have GE170 := n3_; clear n0_ n1_ n2_ n3_; clear hb hbox hg)))
 (try simp only [Act.put, List.setIfInBounds_toArray, List.set_cons_zero, List.set_cons_succ])
 go_cut [13] (fun v13 wc => ∃ (kq : Nat) (x13_1 : Bool), v13 = .bool x13_1 ∧ Aside0 (spec_ImageOK.j0 kq x13_1 l0_0 l0_1 l0_2 l0_3 = some r) ∧ Aside0 (kq ≤ k) ∧ Aside0 (wc.heap[gb170]? = some (.cells #[(.slice A0_0 l0_0.length c0_0), (.slice A0_1 l0_1.length c0_1), (.slice A0_2 l0_2.length c0_2), (.slice A0_3 l0_3.length c0_3)] 30 (0, 0))) ∧ Aside0 (Below w.heap.size w wc))
 case first =>
  have H := HC2.out
  clear HC2
  replace H := Option.bind_eq_some_iff.mp H
  obtain ⟨t171, A40, H⟩ := H
  replace H : (if t171 = true then ((spec_l10Twice.f k l0_1).bind fun t172 => (spec_ImageOK.j0 k t172 l0_0 l0_1 l0_2 l0_3)) else (spec_ImageOK.j0 k true l0_0 l0_1 l0_2 l0_3)) = some r := H
  have A4 := Aside0.mk A40
  clear A40
  by_cases c5 : t171 = true
  ·subst c5
   have H1 : ((spec_l10Twice.f k l0_1).bind fun t172 => (spec_ImageOK.j0 k t172 l0_0 l0_1 l0_2 l0_3)) = some r := by rw [if_pos rfl] at H; exact H
   clear H
   have H := H1
   clear H1
   replace H := Option.bind_eq_some_iff.mp H
   obtain ⟨t172, A60, H⟩ := H
   replace H : (spec_ImageOK.j0 k t172 l0_0 l0_1 l0_2 l0_3) = some r := H
   have A6 := Aside0.mk A60
   clear A60
   have H' := Aside0.mk H
   clear H
   have hcz7_0 : w3.cell? ⟨gb170, 0, none⟩ = some (.slice A0_0 l0_0.length c0_0) := (blk_cell BK170.out 0).trans rfl
   have hcz7_1 : w3.cell? ⟨gb170, 1, none⟩ = some (.slice A0_1 l0_1.length c0_1) := (blk_cell BK170.out 1).trans rfl
   have hcz7_2 : w3.cell? ⟨gb170, 2, none⟩ = some (.slice A0_2 l0_2.length c0_2) := (blk_cell BK170.out 2).trans rfl
   have hcz7_3 : w3.cell? ⟨gb170, 3, none⟩ = some (.slice A0_3 l0_3.length c0_3) := (blk_cell BK170.out 3).trans rfl
   have hfz7_0 := blk_frozen BK170.out 0
   have hfz7_1 := blk_frozen BK170.out 1
   have hfz7_2 := blk_frozen BK170.out 2
   have hfz7_3 := blk_frozen BK170.out 3
   go_wp2_with (first | (go_at_call 27; (with_reducible refine (spec_l10Form.calls k _ _ l0_0 _ _ l0_1 _ _ l0_2 _ _ l0_3 true _ ?side1 ?side2 ?side3 ?side4 ?side5 ?side6 ?side7 ?side8 A4.out).mono ?_); (case side1 => repeat (first | exact (Kd.C_below HR0_0.out HB.out) | (with_reducible refine Kd.C_alloc ?_ _) | (with_reducible refine Kd.C_drewN ?_ _) | (with_reducible refine Kd.C_drew ?_))); (case side2 => exact HC0_0.out); (case side3 => repeat (first | exact (Kd.C_below HR0_1.out HB.out) | (with_reducible refine Kd.C_alloc ?_ _) | (with_reducible refine Kd.C_drewN ?_ _) | (with_reducible refine Kd.C_drew ?_))); (case side4 => exact HC0_1.out); (case side5 => repeat (first | exact (Kd.C_below HR0_2.out HB.out) | (with_reducible refine Kd.C_alloc ?_ _) | (with_reducible refine Kd.C_drewN ?_ _) | (with_reducible refine Kd.C_drew ?_))); (case side6 => exact HC0_2.out); (case side7 => repeat (first | exact (Kd.C_below HR0_3.out HB.out) | (with_reducible refine Kd.C_alloc ?_ _) | (with_reducible refine Kd.C_drewN ?_ _) | (with_reducible refine Kd.C_drew ?_))); (case side8 => exact HC0_3.out); rintro e w8 ⟨rfl, hb⟩; have n0_ := Aside0.mk (blk_below (g := gb170) (o := .cells #[.slice A0_0 l0_0.length c0_0, .slice A0_1 l0_1.length c0_1, .slice A0_2 l0_2.length c0_2, .slice A0_3 l0_3.length c0_3] 30 (0, 0)) (by (with_reducible repeat (first | refine blk_drewN ?_ _ | refine blk_drew ?_ | refine blk_alloc ?_ _)); exact BK170.out) hb); have n1_ := Aside0.mk (below_step (by repeat (first | (with_reducible first | exact HB.out | apply below_alloc | apply pw_below_drewN | apply below_drew1 | refine below_set ?_ GE170.out) | exact HB.out)) hb); clear BK170; clear HB; have BK170 := n0_; have HB := n1_; clear n0_ n1_; (try clear hb); (try clear hb2); (try clear hk); (try clear hi); have hcz9_0 : w8.cell? ⟨gb170, 0, none⟩ = some (.slice A0_0 l0_0.length c0_0) := (blk_cell BK170.out 0).trans rfl; have hcz9_1 : w8.cell? ⟨gb170, 1, none⟩ = some (.slice A0_1 l0_1.length c0_1) := (blk_cell BK170.out 1).trans rfl; have hcz9_2 : w8.cell? ⟨gb170, 2, none⟩ = some (.slice A0_2 l0_2.length c0_2) := (blk_cell BK170.out 2).trans rfl; have hcz9_3 : w8.cell? ⟨gb170, 3, none⟩ = some (.slice A0_3 l0_3.length c0_3) := (blk_cell BK170.out 3).trans rfl; have hfz9_0 := blk_frozen BK170.out 0; have hfz9_1 := blk_frozen BK170.out 1; have hfz9_2 := blk_frozen BK170.out 2; have hfz9_3 := blk_frozen BK170.out 3) | (go_at_call 28; (with_reducible refine (spec_l10Twice.calls k _ _ l0_1 t172 _ ?side1 ?side2 A6.out).mono ?_); (case side1 => repeat (first | exact (Kd.C_below HR0_1.out HB.out) | (with_reducible refine Kd.C_alloc ?_ _) | (with_reducible refine Kd.C_drewN ?_ _) | (with_reducible refine Kd.C_drew ?_))); (case side2 => exact HC0_1.out); rintro e w10 ⟨rfl, hb⟩; have n0_ := Aside0.mk (blk_below (g := gb170) (o := .cells #[.slice A0_0 l0_0.length c0_0, .slice A0_1 l0_1.length c0_1, .slice A0_2 l0_2.length c0_2, .slice A0_3 l0_3.length c0_3] 30 (0, 0)) (by (with_reducible repeat (first | refine blk_drewN ?_ _ | refine blk_drew ?_ | refine blk_alloc ?_ _)); exact BK170.out) hb); have n1_ := Aside0.mk (below_step (by repeat (first | (with_reducible first | exact HB.out | apply below_alloc | apply pw_below_drewN | apply below_drew1 | refine below_set ?_ GE170.out) | exact HB.out)) hb); clear BK170; clear HB; have BK170 := n0_; have HB := n1_; clear n0_ n1_; (try clear hb); (try clear hb2); (try clear hk); (try clear hi)))
   repeat (go_quiet (first | (go_at_call 27; (with_reducible refine (spec_l10Form.calls k _ _ l0_0 _ _ l0_1 _ _ l0_2 _ _ l0_3 true _ ?side1 ?side2 ?side3 ?side4 ?side5 ?side6 ?side7 ?side8 A4.out).mono ?_); (case side1 => repeat (first | exact (Kd.C_below HR0_0.out HB.out) | (with_reducible refine Kd.C_alloc ?_ _) | (with_reducible refine Kd.C_drewN ?_ _) | (with_reducible refine Kd.C_drew ?_))); (case side2 => exact HC0_0.out); (case side3 => repeat (first | exact (Kd.C_below HR0_1.out HB.out) | (with_reducible refine Kd.C_alloc ?_ _) | (with_reducible refine Kd.C_drewN ?_ _) | (with_reducible refine Kd.C_drew ?_))); (case side4 => exact HC0_1.out); (case side5 => repeat (first | exact (Kd.C_below HR0_2.out HB.out) | (with_reducible refine Kd.C_alloc ?_ _) | (with_reducible refine Kd.C_drewN ?_ _) | (with_reducible refine Kd.C_drew ?_))); (case side6 => exact HC0_2.out); (case side7 => repeat (first | exact (Kd.C_below HR0_3.out HB.out) | (with_reducible refine Kd.C_alloc ?_ _) | (with_reducible refine Kd.C_drewN ?_ _) | (with_reducible refine Kd.C_drew ?_))); (case side8 => exact HC0_3.out); rintro e w8 ⟨rfl, hb⟩; have n0_ := Aside0.mk (blk_below (g := gb170) (o := .cells #[.slice A0_0 l0_0.length c0_0, .slice A0_1 l0_1.length c0_1, .slice A0_2 l0_2.length c0_2, .slice A0_3 l0_3.length c0_3] 30 (0, 0)) (by (with_reducible repeat (first | refine blk_drewN ?_ _ | refine blk_drew ?_ | refine blk_alloc ?_ _)); exact BK170.out) hb); have n1_ := Aside0.mk (below_step (by repeat (first | (with_reducible first | exact HB.out | apply below_alloc | apply pw_below_drewN | apply below_drew1 | refine below_set ?_ GE170.out) | exact HB.out)) hb); clear BK170; clear HB; have BK170 := n0_; have HB := n1_; clear n0_ n1_; (try clear hb); (try clear hb2); (try clear hk); (try clear hi); have hcz9_0 : w8.cell? ⟨gb170, 0, none⟩ = some (.slice A0_0 l0_0.length c0_0) := (blk_cell BK170.out 0).trans rfl; have hcz9_1 : w8.cell? ⟨gb170, 1, none⟩ = some (.slice A0_1 l0_1.length c0_1) := (blk_cell BK170.out 1).trans rfl; have hcz9_2 : w8.cell? ⟨gb170, 2, none⟩ = some (.slice A0_2 l0_2.length c0_2) := (blk_cell BK170.out 2).trans rfl; have hcz9_3 : w8.cell? ⟨gb170, 3, none⟩ = some (.slice A0_3 l0_3.length c0_3) := (blk_cell BK170.out 3).trans rfl; have hfz9_0 := blk_frozen BK170.out 0; have hfz9_1 := blk_frozen BK170.out 1; have hfz9_2 := blk_frozen BK170.out 2; have hfz9_3 := blk_frozen BK170.out 3) | (go_at_call 28; (with_reducible refine (spec_l10Twice.calls k _ _ l0_1 t172 _ ?side1 ?side2 A6.out).mono ?_); (case side1 => repeat (first | exact (Kd.C_below HR0_1.out HB.out) | (with_reducible refine Kd.C_alloc ?_ _) | (with_reducible refine Kd.C_drewN ?_ _) | (with_reducible refine Kd.C_drew ?_))); (case side2 => exact HC0_1.out); rintro e w10 ⟨rfl, hb⟩; have n0_ := Aside0.mk (blk_below (g := gb170) (o := .cells #[.slice A0_0 l0_0.length c0_0, .slice A0_1 l0_1.length c0_1, .slice A0_2 l0_2.length c0_2, .slice A0_3 l0_3.length c0_3] 30 (0, 0)) (by (with_reducible repeat (first | refine blk_drewN ?_ _ | refine blk_drew ?_ | refine blk_alloc ?_ _)); exact BK170.out) hb); have n1_ := Aside0.mk (below_step (by repeat (first | (with_reducible first | exact HB.out | apply below_alloc | apply pw_below_drewN | apply below_drew1 | refine below_set ?_ GE170.out) | exact HB.out)) hb); clear BK170; clear HB; have BK170 := n0_; have HB := n1_; clear n0_ n1_; (try clear hb); (try clear hb2); (try clear hk); (try clear hi))); try go_wp2_with (first | (go_at_call 27; (with_reducible refine (spec_l10Form.calls k _ _ l0_0 _ _ l0_1 _ _ l0_2 _ _ l0_3 true _ ?side1 ?side2 ?side3 ?side4 ?side5 ?side6 ?side7 ?side8 A4.out).mono ?_); (case side1 => repeat (first | exact (Kd.C_below HR0_0.out HB.out) | (with_reducible refine Kd.C_alloc ?_ _) | (with_reducible refine Kd.C_drewN ?_ _) | (with_reducible refine Kd.C_drew ?_))); (case side2 => exact HC0_0.out); (case side3 => repeat (first | exact (Kd.C_below HR0_1.out HB.out) | (with_reducible refine Kd.C_alloc ?_ _) | (with_reducible refine Kd.C_drewN ?_ _) | (with_reducible refine Kd.C_drew ?_))); (case side4 => exact HC0_1.out); (case side5 => repeat (first | exact (Kd.C_below HR0_2.out HB.out) | (with_reducible refine Kd.C_alloc ?_ _) | (with_reducible refine Kd.C_drewN ?_ _) | (with_reducible refine Kd.C_drew ?_))); (case side6 => exact HC0_2.out); (case side7 => repeat (first | exact (Kd.C_below HR0_3.out HB.out) | (with_reducible refine Kd.C_alloc ?_ _) | (with_reducible refine Kd.C_drewN ?_ _) | (with_reducible refine Kd.C_drew ?_))); (case side8 => exact HC0_3.out); rintro e w8 ⟨rfl, hb⟩; have n0_ := Aside0.mk (blk_below (g := gb170) (o := .cells #[.slice A0_0 l0_0.length c0_0, .slice A0_1 l0_1.length c0_1, .slice A0_2 l0_2.length c0_2, .slice A0_3 l0_3.length c0_3] 30 (0, 0)) (by (with_reducible repeat (first | refine blk_drewN ?_ _ | refine blk_drew ?_ | refine blk_alloc ?_ _)); exact BK170.out) hb); have n1_ := Aside0.mk (below_step (by repeat (first | (with_reducible first | exact HB.out | apply below_alloc | apply pw_below_drewN | apply below_drew1 | refine below_set ?_ GE170.out) | exact HB.out)) hb); clear BK170; clear HB; have BK170 := n0_; have HB := n1_; clear n0_ n1_; (try clear hb); (try clear hb2); (try clear hk); (try clear hi); have hcz9_0 : w8.cell? ⟨gb170, 0, none⟩ = some (.slice A0_0 l0_0.length c0_0) := (blk_cell BK170.out 0).trans rfl; have hcz9_1 : w8.cell? ⟨gb170, 1, none⟩ = some (.slice A0_1 l0_1.length c0_1) := (blk_cell BK170.out 1).trans rfl; have hcz9_2 : w8.cell? ⟨gb170, 2, none⟩ = some (.slice A0_2 l0_2.length c0_2) := (blk_cell BK170.out 2).trans rfl; have hcz9_3 : w8.cell? ⟨gb170, 3, none⟩ = some (.slice A0_3 l0_3.length c0_3) := (blk_cell BK170.out 3).trans rfl; have hfz9_0 := blk_frozen BK170.out 0; have hfz9_1 := blk_frozen BK170.out 1; have hfz9_2 := blk_frozen BK170.out 2; have hfz9_3 := blk_frozen BK170.out 3) | (go_at_call 28; (with_reducible refine (spec_l10Twice.calls k _ _ l0_1 t172 _ ?side1 ?side2 A6.out).mono ?_); (case side1 => repeat (first | exact (Kd.C_below HR0_1.out HB.out) | (with_reducible refine Kd.C_alloc ?_ _) | (with_reducible refine Kd.C_drewN ?_ _) | (with_reducible refine Kd.C_drew ?_))); (case side2 => exact HC0_1.out); rintro e w10 ⟨rfl, hb⟩; have n0_ := Aside0.mk (blk_below (g := gb170) (o := .cells #[.slice A0_0 l0_0.length c0_0, .slice A0_1 l0_1.length c0_1, .slice A0_2 l0_2.length c0_2, .slice A0_3 l0_3.length c0_3] 30 (0, 0)) (by (with_reducible repeat (first | refine blk_drewN ?_ _ | refine blk_drew ?_ | refine blk_alloc ?_ _)); exact BK170.out) hb); have n1_ := Aside0.mk (below_step (by repeat (first | (with_reducible first | exact HB.out | apply below_alloc | apply pw_below_drewN | apply below_drew1 | refine below_set ?_ GE170.out) | exact HB.out)) hb); clear BK170; clear HB; have BK170 := n0_; have HB := n1_; clear n0_ n1_; (try clear hb); (try clear hb2); (try clear hk); (try clear hi))))
   go_meet
   case rel => exact ⟨_, (t172), (by first | rfl | (simp; done) | (simp [*]; done)), H', ⟨by first | omega | exact Nat.le_refl _⟩, ⟨by (with_reducible repeat (first | refine blk_drewN ?_ _ | refine blk_drew ?_ | refine blk_alloc ?_ _)); exact BK170.out⟩, ⟨by repeat (first | (with_reducible first | exact HB.out | apply below_alloc | apply pw_below_drewN | apply below_drew1 | refine below_set ?_ GE170.out) | exact HB.out)⟩⟩
  ·replace c5 := Bool.eq_false_iff.mpr c5
   subst c5
   have H1 : (spec_ImageOK.j0 k true l0_0 l0_1 l0_2 l0_3) = some r := by rw [if_neg (show ¬ (false = true) by decide)] at H; exact H
   clear H
   have H := H1
   clear H1
   have H' := Aside0.mk H
   clear H
   have hcz11_0 : w3.cell? ⟨gb170, 0, none⟩ = some (.slice A0_0 l0_0.length c0_0) := (blk_cell BK170.out 0).trans rfl
   have hcz11_1 : w3.cell? ⟨gb170, 1, none⟩ = some (.slice A0_1 l0_1.length c0_1) := (blk_cell BK170.out 1).trans rfl
   have hcz11_2 : w3.cell? ⟨gb170, 2, none⟩ = some (.slice A0_2 l0_2.length c0_2) := (blk_cell BK170.out 2).trans rfl
   have hcz11_3 : w3.cell? ⟨gb170, 3, none⟩ = some (.slice A0_3 l0_3.length c0_3) := (blk_cell BK170.out 3).trans rfl
   have hfz11_0 := blk_frozen BK170.out 0
   have hfz11_1 := blk_frozen BK170.out 1
   have hfz11_2 := blk_frozen BK170.out 2
   have hfz11_3 := blk_frozen BK170.out 3
   go_wp2_with (first | (go_at_call 27; (with_reducible refine (spec_l10Form.calls k _ _ l0_0 _ _ l0_1 _ _ l0_2 _ _ l0_3 false _ ?side1 ?side2 ?side3 ?side4 ?side5 ?side6 ?side7 ?side8 A4.out).mono ?_); (case side1 => repeat (first | exact (Kd.C_below HR0_0.out HB.out) | (with_reducible refine Kd.C_alloc ?_ _) | (with_reducible refine Kd.C_drewN ?_ _) | (with_reducible refine Kd.C_drew ?_))); (case side2 => exact HC0_0.out); (case side3 => repeat (first | exact (Kd.C_below HR0_1.out HB.out) | (with_reducible refine Kd.C_alloc ?_ _) | (with_reducible refine Kd.C_drewN ?_ _) | (with_reducible refine Kd.C_drew ?_))); (case side4 => exact HC0_1.out); (case side5 => repeat (first | exact (Kd.C_below HR0_2.out HB.out) | (with_reducible refine Kd.C_alloc ?_ _) | (with_reducible refine Kd.C_drewN ?_ _) | (with_reducible refine Kd.C_drew ?_))); (case side6 => exact HC0_2.out); (case side7 => repeat (first | exact (Kd.C_below HR0_3.out HB.out) | (with_reducible refine Kd.C_alloc ?_ _) | (with_reducible refine Kd.C_drewN ?_ _) | (with_reducible refine Kd.C_drew ?_))); (case side8 => exact HC0_3.out); rintro e w12 ⟨rfl, hb⟩; have n0_ := Aside0.mk (blk_below (g := gb170) (o := .cells #[.slice A0_0 l0_0.length c0_0, .slice A0_1 l0_1.length c0_1, .slice A0_2 l0_2.length c0_2, .slice A0_3 l0_3.length c0_3] 30 (0, 0)) (by (with_reducible repeat (first | refine blk_drewN ?_ _ | refine blk_drew ?_ | refine blk_alloc ?_ _)); exact BK170.out) hb); have n1_ := Aside0.mk (below_step (by repeat (first | (with_reducible first | exact HB.out | apply below_alloc | apply pw_below_drewN | apply below_drew1 | refine below_set ?_ GE170.out) | exact HB.out)) hb); clear BK170; clear HB; have BK170 := n0_; have HB := n1_; clear n0_ n1_; (try clear hb); (try clear hb2); (try clear hk); (try clear hi)))
   repeat (go_quiet (first | (go_at_call 27; (with_reducible refine (spec_l10Form.calls k _ _ l0_0 _ _ l0_1 _ _ l0_2 _ _ l0_3 false _ ?side1 ?side2 ?side3 ?side4 ?side5 ?side6 ?side7 ?side8 A4.out).mono ?_); (case side1 => repeat (first | exact (Kd.C_below HR0_0.out HB.out) | (with_reducible refine Kd.C_alloc ?_ _) | (with_reducible refine Kd.C_drewN ?_ _) | (with_reducible refine Kd.C_drew ?_))); (case side2 => exact HC0_0.out); (case side3 => repeat (first | exact (Kd.C_below HR0_1.out HB.out) | (with_reducible refine Kd.C_alloc ?_ _) | (with_reducible refine Kd.C_drewN ?_ _) | (with_reducible refine Kd.C_drew ?_))); (case side4 => exact HC0_1.out); (case side5 => repeat (first | exact (Kd.C_below HR0_2.out HB.out) | (with_reducible refine Kd.C_alloc ?_ _) | (with_reducible refine Kd.C_drewN ?_ _) | (with_reducible refine Kd.C_drew ?_))); (case side6 => exact HC0_2.out); (case side7 => repeat (first | exact (Kd.C_below HR0_3.out HB.out) | (with_reducible refine Kd.C_alloc ?_ _) | (with_reducible refine Kd.C_drewN ?_ _) | (with_reducible refine Kd.C_drew ?_))); (case side8 => exact HC0_3.out); rintro e w12 ⟨rfl, hb⟩; have n0_ := Aside0.mk (blk_below (g := gb170) (o := .cells #[.slice A0_0 l0_0.length c0_0, .slice A0_1 l0_1.length c0_1, .slice A0_2 l0_2.length c0_2, .slice A0_3 l0_3.length c0_3] 30 (0, 0)) (by (with_reducible repeat (first | refine blk_drewN ?_ _ | refine blk_drew ?_ | refine blk_alloc ?_ _)); exact BK170.out) hb); have n1_ := Aside0.mk (below_step (by repeat (first | (with_reducible first | exact HB.out | apply below_alloc | apply pw_below_drewN | apply below_drew1 | refine below_set ?_ GE170.out) | exact HB.out)) hb); clear BK170; clear HB; have BK170 := n0_; have HB := n1_; clear n0_ n1_; (try clear hb); (try clear hb2); (try clear hk); (try clear hi))); try go_wp2_with (first | (go_at_call 27; (with_reducible refine (spec_l10Form.calls k _ _ l0_0 _ _ l0_1 _ _ l0_2 _ _ l0_3 false _ ?side1 ?side2 ?side3 ?side4 ?side5 ?side6 ?side7 ?side8 A4.out).mono ?_); (case side1 => repeat (first | exact (Kd.C_below HR0_0.out HB.out) | (with_reducible refine Kd.C_alloc ?_ _) | (with_reducible refine Kd.C_drewN ?_ _) | (with_reducible refine Kd.C_drew ?_))); (case side2 => exact HC0_0.out); (case side3 => repeat (first | exact (Kd.C_below HR0_1.out HB.out) | (with_reducible refine Kd.C_alloc ?_ _) | (with_reducible refine Kd.C_drewN ?_ _) | (with_reducible refine Kd.C_drew ?_))); (case side4 => exact HC0_1.out); (case side5 => repeat (first | exact (Kd.C_below HR0_2.out HB.out) | (with_reducible refine Kd.C_alloc ?_ _) | (with_reducible refine Kd.C_drewN ?_ _) | (with_reducible refine Kd.C_drew ?_))); (case side6 => exact HC0_2.out); (case side7 => repeat (first | exact (Kd.C_below HR0_3.out HB.out) | (with_reducible refine Kd.C_alloc ?_ _) | (with_reducible refine Kd.C_drewN ?_ _) | (with_reducible refine Kd.C_drew ?_))); (case side8 => exact HC0_3.out); rintro e w12 ⟨rfl, hb⟩; have n0_ := Aside0.mk (blk_below (g := gb170) (o := .cells #[.slice A0_0 l0_0.length c0_0, .slice A0_1 l0_1.length c0_1, .slice A0_2 l0_2.length c0_2, .slice A0_3 l0_3.length c0_3] 30 (0, 0)) (by (with_reducible repeat (first | refine blk_drewN ?_ _ | refine blk_drew ?_ | refine blk_alloc ?_ _)); exact BK170.out) hb); have n1_ := Aside0.mk (below_step (by repeat (first | (with_reducible first | exact HB.out | apply below_alloc | apply pw_below_drewN | apply below_drew1 | refine below_set ?_ GE170.out) | exact HB.out)) hb); clear BK170; clear HB; have BK170 := n0_; have HB := n1_; clear n0_ n1_; (try clear hb); (try clear hb2); (try clear hk); (try clear hi))))
   go_meet
   case rel => exact ⟨_, (true), (by first | rfl | (simp; done) | (simp [*]; done)), H', ⟨by first | omega | exact Nat.le_refl _⟩, ⟨by (with_reducible repeat (first | refine blk_drewN ?_ _ | refine blk_drew ?_ | refine blk_alloc ?_ _)); exact BK170.out⟩, ⟨by repeat (first | (with_reducible first | exact HB.out | apply below_alloc | apply pw_below_drewN | apply below_drew1 | refine below_set ?_ GE170.out) | exact HB.out)⟩⟩
 case rest =>
  clear HC2
  try clear p2
  try clear c5
  try clear c9
  try clear hcz11_0
  try clear hcz11_1
  try clear hcz11_2
  try clear hcz11_3
  try clear hcz7_0
  try clear hcz7_1
  try clear hcz7_2
  try clear hcz7_3
  try clear hcz9_0
  try clear hcz9_1
  try clear hcz9_2
  try clear hcz9_3
  try clear hfz11_0
  try clear hfz11_1
  try clear hfz11_2
  try clear hfz11_3
  try clear hfz7_0
  try clear hfz7_1
  try clear hfz7_2
  try clear hfz7_3
  try clear hfz9_0
  try clear hfz9_1
  try clear hfz9_2
  try clear hfz9_3
  obtain ⟨kq, x13_1, rfl, HA, HJ1, BK170, HB⟩ := hcut
  cases kq with
  | zero => exact absurd HA.out (by simp [spec_ImageOK.j0])
  | succ kj1 =>
   have H := HA.out
   clear HA
   simp only [spec_ImageOK.j0] at H
   by_cases c13 : x13_1 = true
   ·subst c13
    have H1 : (some false) = some r := by rw [if_pos rfl] at H; exact H
    clear H
    have H := H1
    clear H1
    obtain rfl := Option.some.inj H
    go_wp2
    repeat (go_quiet (fail); try go_wp2)
    go_ret
    exact ⟨by first | rfl | (simp [errW_none, errW_some] <;> rfl) | (simp [*, errW_none, errW_some] <;> rfl), by repeat (first | (with_reducible first | exact HB.out | apply below_alloc | apply pw_below_drewN | apply below_drew1 | refine below_set ?_ GE170.out) | exact HB.out)⟩
   ·replace c13 := Bool.eq_false_iff.mpr c13
    subst c13
    have H1 : (spec_ImageOK.l0 kj1 0 l0_0 l0_1 l0_2 l0_3) = some r := by rw [if_neg (show ¬ (false = true) by decide)] at H; exact H
    clear H
    have H := H1
    clear H1
    have H' := Aside0.mk H
    clear H
    go_wp2
    repeat (go_quiet (fail); try go_wp2)
    go_loopg [3] kj1 (fun kq v3 w' => ∃ (x3_2 : Int), v3 = .int .i64 x3_2 ∧ Aside0 (spec_ImageOK.l0 kq x3_2 l0_0 l0_1 l0_2 l0_3 = some r) ∧ Aside0 (kq ≤ kj1) ∧ Aside0 (w'.heap[gb170]? = some (.cells #[(.slice A0_0 l0_0.length c0_0), (.slice A0_1 l0_1.length c0_1), (.slice A0_2 l0_2.length c0_2), (.slice A0_3 l0_3.length c0_3)] 30 (0, 0))) ∧ Aside0 (Below w.heap.size w w'))
    case atStart => exact ⟨(0), (by first | rfl | (simp; done) | (simp [*]; done)), H', ⟨Nat.le_refl _⟩, ⟨by (with_reducible repeat (first | refine blk_drewN ?_ _ | refine blk_drew ?_ | refine blk_alloc ?_ _)); exact BK170.out⟩, ⟨by repeat (first | (with_reducible first | exact HB.out | apply below_alloc | apply pw_below_drewN | apply below_drew1 | refine below_set ?_ GE170.out) | exact HB.out)⟩⟩
    case round =>
     clear H'
     try clear c1
     try clear p2
     try clear c5
     try clear c9
     try clear c13
     try clear hcz11_0
     try clear hcz11_1
     try clear hcz11_2
     try clear hcz11_3
     try clear hcz7_0
     try clear hcz7_1
     try clear hcz7_2
     try clear hcz7_3
     try clear hcz9_0
     try clear hcz9_1
     try clear hcz9_2
     try clear hcz9_3
     try clear hfz11_0
     try clear hfz11_1
     try clear hfz11_2
     try clear hfz11_3
     try clear hfz7_0
     try clear hfz7_1
     try clear hfz7_2
     try clear hfz7_3
     try clear hfz9_0
     try clear hfz9_1
     try clear hfz9_2
     try clear hfz9_3
     try clear p2
     obtain ⟨x3_2, rfl, HA, HK2, BK170, HB⟩ := hrel
     cases gk with
     | zero => exact absurd HA.out (by simp [spec_ImageOK.l0])
     | succ k2 =>
      have H := HA.out
      clear HA
      simp only [spec_ImageOK.l0] at H
      by_cases c14 : x3_2 < (l0_2.length : Int)
      ·rw [if_pos c14] at H
       have c14b0 : decide (x3_2 < (l0_2.length : Int)) = true := decide_eq_true c14
       clear c14
       by_cases c15 : 0 ≤ x3_2
       ·rw [if_pos c15] at H
        have c15b0 : decide (0 ≤ x3_2) = true := decide_eq_true c15
        clear c15
        replace H := Option.bind_eq_some_iff.mp H
        obtain ⟨t174, A160, H⟩ := H
        replace H : (if t174 = true then (some false) else (spec_ImageOK.l0 k2 (wrap64 (x3_2 + 1)) l0_0 l0_1 l0_2 l0_3)) = some r := H
        have A16 := Aside0.mk A160
        clear A160
        by_cases c17 : t174 = true
        ·subst c17
         have H1 : (some false) = some r := by rw [if_pos rfl] at H; exact H
         clear H
         have H := H1
         clear H1
         obtain rfl := Option.some.inj H
         have hcz18_0 : wr.cell? ⟨gb170, 0, none⟩ = some (.slice A0_0 l0_0.length c0_0) := (blk_cell BK170.out 0).trans rfl
         have hcz18_1 : wr.cell? ⟨gb170, 1, none⟩ = some (.slice A0_1 l0_1.length c0_1) := (blk_cell BK170.out 1).trans rfl
         have hcz18_2 : wr.cell? ⟨gb170, 2, none⟩ = some (.slice A0_2 l0_2.length c0_2) := (blk_cell BK170.out 2).trans rfl
         have hcz18_3 : wr.cell? ⟨gb170, 3, none⟩ = some (.slice A0_3 l0_3.length c0_3) := (blk_cell BK170.out 3).trans rfl
         have hfz18_0 := blk_frozen BK170.out 0
         have hfz18_1 := blk_frozen BK170.out 1
         have hfz18_2 := blk_frozen BK170.out 2
         have hfz18_3 := blk_frozen BK170.out 3
         have p173 : 0 ≤ (x3_2 : Int) := of_decide_eq_true (by first | (with_reducible assumption) | assumption)
         have q173 : x3_2 < (l0_2.length : Int) := of_decide_eq_true (by first | (with_reducible assumption) | assumption)
         obtain ⟨ad173, A173_1, c173_1, e173, hx173_0, hx173_1, hl173_1, hi173_1⟩ := at_T45 HR0_2.out x3_2 p173 q173
         cases e173
         replace hx173_0 := (HB.out.cell (World.block_lt_of_cell? w _ hx173_0)).trans hx173_0
         replace hx173_1 := (HB.out.cell (World.block_lt_of_cell? w _ hx173_1)).trans hx173_1
         have HR173_1 := Aside0.mk hi173_1
         have HC173_1 := Aside0.mk hl173_1
         clear hi173_1 hl173_1
         replace p173 := eq_true p173
         replace q173 := eq_true q173
         go_wp2_with (first | (go_at_call 28; (with_reducible refine (spec_l10Twice.calls k2 _ _ ((rd_T45 l0_2 x3_2).f1) true _ ?side1 ?side2 A16.out).mono ?_); (case side1 => repeat (first | exact (Kd.C_below HR173_1.out HB.out) | (with_reducible refine Kd.C_alloc ?_ _) | (with_reducible refine Kd.C_drewN ?_ _) | (with_reducible refine Kd.C_drew ?_))); (case side2 => exact HC173_1.out); rintro e w19 ⟨rfl, hb⟩; have n0_ := Aside0.mk (blk_below (g := gb170) (o := .cells #[.slice A0_0 l0_0.length c0_0, .slice A0_1 l0_1.length c0_1, .slice (some ad173) l0_2.length c0_2, .slice A0_3 l0_3.length c0_3] 30 (0, 0)) (by (with_reducible repeat (first | refine blk_drewN ?_ _ | refine blk_drew ?_ | refine blk_alloc ?_ _)); exact BK170.out) hb); have n1_ := Aside0.mk (below_step (by repeat (first | (with_reducible first | exact HB.out | apply below_alloc | apply pw_below_drewN | apply below_drew1 | refine below_set ?_ GE170.out) | exact HB.out)) hb); clear BK170; clear HB; have BK170 := n0_; have HB := n1_; clear n0_ n1_; (try clear hb); (try clear hb2); (try clear hk); (try clear hi)))
         repeat (go_quiet (first | (go_at_call 28; (with_reducible refine (spec_l10Twice.calls k2 _ _ ((rd_T45 l0_2 x3_2).f1) true _ ?side1 ?side2 A16.out).mono ?_); (case side1 => repeat (first | exact (Kd.C_below HR173_1.out HB.out) | (with_reducible refine Kd.C_alloc ?_ _) | (with_reducible refine Kd.C_drewN ?_ _) | (with_reducible refine Kd.C_drew ?_))); (case side2 => exact HC173_1.out); rintro e w19 ⟨rfl, hb⟩; have n0_ := Aside0.mk (blk_below (g := gb170) (o := .cells #[.slice A0_0 l0_0.length c0_0, .slice A0_1 l0_1.length c0_1, .slice (some ad173) l0_2.length c0_2, .slice A0_3 l0_3.length c0_3] 30 (0, 0)) (by (with_reducible repeat (first | refine blk_drewN ?_ _ | refine blk_drew ?_ | refine blk_alloc ?_ _)); exact BK170.out) hb); have n1_ := Aside0.mk (below_step (by repeat (first | (with_reducible first | exact HB.out | apply below_alloc | apply pw_below_drewN | apply below_drew1 | refine below_set ?_ GE170.out) | exact HB.out)) hb); clear BK170; clear HB; have BK170 := n0_; have HB := n1_; clear n0_ n1_; (try clear hb); (try clear hb2); (try clear hk); (try clear hi))); try go_wp2_with (first | (go_at_call 28; (with_reducible refine (spec_l10Twice.calls k2 _ _ ((rd_T45 l0_2 x3_2).f1) true _ ?side1 ?side2 A16.out).mono ?_); (case side1 => repeat (first | exact (Kd.C_below HR173_1.out HB.out) | (with_reducible refine Kd.C_alloc ?_ _) | (with_reducible refine Kd.C_drewN ?_ _) | (with_reducible refine Kd.C_drew ?_))); (case side2 => exact HC173_1.out); rintro e w19 ⟨rfl, hb⟩; have n0_ := Aside0.mk (blk_below (g := gb170) (o := .cells #[.slice A0_0 l0_0.length c0_0, .slice A0_1 l0_1.length c0_1, .slice (some ad173) l0_2.length c0_2, .slice A0_3 l0_3.length c0_3] 30 (0, 0)) (by (with_reducible repeat (first | refine blk_drewN ?_ _ | refine blk_drew ?_ | refine blk_alloc ?_ _)); exact BK170.out) hb); have n1_ := Aside0.mk (below_step (by repeat (first | (with_reducible first | exact HB.out | apply below_alloc | apply pw_below_drewN | apply below_drew1 | refine below_set ?_ GE170.out) | exact HB.out)) hb); clear BK170; clear HB; have BK170 := n0_; have HB := n1_; clear n0_ n1_; (try clear hb); (try clear hb2); (try clear hk); (try clear hi))))
         go_ret
         exact ⟨by first | rfl | (simp [errW_none, errW_some] <;> rfl) | (simp [*, errW_none, errW_some] <;> rfl), by repeat (first | (with_reducible first | exact HB.out | apply below_alloc | apply pw_below_drewN | apply below_drew1 | refine below_set ?_ GE170.out) | exact HB.out)⟩
        ·replace c17 := Bool.eq_false_iff.mpr c17
         subst c17
         have H1 : (spec_ImageOK.l0 k2 (wrap64 (x3_2 + 1)) l0_0 l0_1 l0_2 l0_3) = some r := by rw [if_neg (show ¬ (false = true) by decide)] at H; exact H
         clear H
         have H := H1
         clear H1
         have H' := Aside0.mk H
         clear H
         have hcz20_0 : wr.cell? ⟨gb170, 0, none⟩ = some (.slice A0_0 l0_0.length c0_0) := (blk_cell BK170.out 0).trans rfl
         have hcz20_1 : wr.cell? ⟨gb170, 1, none⟩ = some (.slice A0_1 l0_1.length c0_1) := (blk_cell BK170.out 1).trans rfl
         have hcz20_2 : wr.cell? ⟨gb170, 2, none⟩ = some (.slice A0_2 l0_2.length c0_2) := (blk_cell BK170.out 2).trans rfl
         have hcz20_3 : wr.cell? ⟨gb170, 3, none⟩ = some (.slice A0_3 l0_3.length c0_3) := (blk_cell BK170.out 3).trans rfl
         have hfz20_0 := blk_frozen BK170.out 0
         have hfz20_1 := blk_frozen BK170.out 1
         have hfz20_2 := blk_frozen BK170.out 2
         have hfz20_3 := blk_frozen BK170.out 3
         have p173 : 0 ≤ (x3_2 : Int) := of_decide_eq_true (by first | (with_reducible assumption) | assumption)
         have q173 : x3_2 < (l0_2.length : Int) := of_decide_eq_true (by first | (with_reducible assumption) | assumption)
         obtain ⟨ad173, A173_1, c173_1, e173, hx173_0, hx173_1, hl173_1, hi173_1⟩ := at_T45 HR0_2.out x3_2 p173 q173
         cases e173
         replace hx173_0 := (HB.out.cell (World.block_lt_of_cell? w _ hx173_0)).trans hx173_0
         replace hx173_1 := (HB.out.cell (World.block_lt_of_cell? w _ hx173_1)).trans hx173_1
         have HR173_1 := Aside0.mk hi173_1
         have HC173_1 := Aside0.mk hl173_1
         clear hi173_1 hl173_1
         replace p173 := eq_true p173
         replace q173 := eq_true q173
         go_wp2_with (first | (go_at_call 28; (with_reducible refine (spec_l10Twice.calls k2 _ _ ((rd_T45 l0_2 x3_2).f1) false _ ?side1 ?side2 A16.out).mono ?_); (case side1 => repeat (first | exact (Kd.C_below HR173_1.out HB.out) | (with_reducible refine Kd.C_alloc ?_ _) | (with_reducible refine Kd.C_drewN ?_ _) | (with_reducible refine Kd.C_drew ?_))); (case side2 => exact HC173_1.out); rintro e w21 ⟨rfl, hb⟩; have n0_ := Aside0.mk (blk_below (g := gb170) (o := .cells #[.slice A0_0 l0_0.length c0_0, .slice A0_1 l0_1.length c0_1, .slice (some ad173) l0_2.length c0_2, .slice A0_3 l0_3.length c0_3] 30 (0, 0)) (by (with_reducible repeat (first | refine blk_drewN ?_ _ | refine blk_drew ?_ | refine blk_alloc ?_ _)); exact BK170.out) hb); have n1_ := Aside0.mk (below_step (by repeat (first | (with_reducible first | exact HB.out | apply below_alloc | apply pw_below_drewN | apply below_drew1 | refine below_set ?_ GE170.out) | exact HB.out)) hb); clear BK170; clear HB; have BK170 := n0_; have HB := n1_; clear n0_ n1_; (try clear hb); (try clear hb2); (try clear hk); (try clear hi)))
         repeat (go_quiet (first | (go_at_call 28; (with_reducible refine (spec_l10Twice.calls k2 _ _ ((rd_T45 l0_2 x3_2).f1) false _ ?side1 ?side2 A16.out).mono ?_); (case side1 => repeat (first | exact (Kd.C_below HR173_1.out HB.out) | (with_reducible refine Kd.C_alloc ?_ _) | (with_reducible refine Kd.C_drewN ?_ _) | (with_reducible refine Kd.C_drew ?_))); (case side2 => exact HC173_1.out); rintro e w21 ⟨rfl, hb⟩; have n0_ := Aside0.mk (blk_below (g := gb170) (o := .cells #[.slice A0_0 l0_0.length c0_0, .slice A0_1 l0_1.length c0_1, .slice (some ad173) l0_2.length c0_2, .slice A0_3 l0_3.length c0_3] 30 (0, 0)) (by (with_reducible repeat (first | refine blk_drewN ?_ _ | refine blk_drew ?_ | refine blk_alloc ?_ _)); exact BK170.out) hb); have n1_ := Aside0.mk (below_step (by repeat (first | (with_reducible first | exact HB.out | apply below_alloc | apply pw_below_drewN | apply below_drew1 | refine below_set ?_ GE170.out) | exact HB.out)) hb); clear BK170; clear HB; have BK170 := n0_; have HB := n1_; clear n0_ n1_; (try clear hb); (try clear hb2); (try clear hk); (try clear hi))); try go_wp2_with (first | (go_at_call 28; (with_reducible refine (spec_l10Twice.calls k2 _ _ ((rd_T45 l0_2 x3_2).f1) false _ ?side1 ?side2 A16.out).mono ?_); (case side1 => repeat (first | exact (Kd.C_below HR173_1.out HB.out) | (with_reducible refine Kd.C_alloc ?_ _) | (with_reducible refine Kd.C_drewN ?_ _) | (with_reducible refine Kd.C_drew ?_))); (case side2 => exact HC173_1.out); rintro e w21 ⟨rfl, hb⟩; have n0_ := Aside0.mk (blk_below (g := gb170) (o := .cells #[.slice A0_0 l0_0.length c0_0, .slice A0_1 l0_1.length c0_1, .slice (some ad173) l0_2.length c0_2, .slice A0_3 l0_3.length c0_3] 30 (0, 0)) (by (with_reducible repeat (first | refine blk_drewN ?_ _ | refine blk_drew ?_ | refine blk_alloc ?_ _)); exact BK170.out) hb); have n1_ := Aside0.mk (below_step (by repeat (first | (with_reducible first | exact HB.out | apply below_alloc | apply pw_below_drewN | apply below_drew1 | refine below_set ?_ GE170.out) | exact HB.out)) hb); clear BK170; clear HB; have BK170 := n0_; have HB := n1_; clear n0_ n1_; (try clear hb); (try clear hb2); (try clear hk); (try clear hi))))
         go_roundg k2
         case measure => have := HJ1.out; have := HK2.out; omega
         case rel => exact ⟨(wrap64 (x3_2 + 1)), (by first | rfl | (simp; done) | (simp [*]; done)), H', ⟨by have := HJ1.out; have := HK2.out; omega⟩, ⟨by (with_reducible repeat (first | refine blk_drewN ?_ _ | refine blk_drew ?_ | refine blk_alloc ?_ _)); exact BK170.out⟩, ⟨by repeat (first | (with_reducible first | exact HB.out | apply below_alloc | apply pw_below_drewN | apply below_drew1 | refine below_set ?_ GE170.out) | exact HB.out)⟩⟩
       ·rw [if_neg c15] at H
        exact absurd H (by simp)
      ·rw [if_neg c14] at H
       have c14b0 : decide (x3_2 < (l0_2.length : Int)) = false := decide_eq_false c14
       clear c14
       replace H := Option.bind_eq_some_iff.mp H
       obtain ⟨t175, A220, H⟩ := H
       replace H : (spec_ImageOK.l1 k2 t175 0 l0_0 l0_1 l0_2 l0_3) = some r := H
       have A22 := Aside0.mk A220
       clear A220
       have H' := Aside0.mk H
       clear H
       have hcz23_0 : wr.cell? ⟨gb170, 0, none⟩ = some (.slice A0_0 l0_0.length c0_0) := (blk_cell BK170.out 0).trans rfl
       have hcz23_1 : wr.cell? ⟨gb170, 1, none⟩ = some (.slice A0_1 l0_1.length c0_1) := (blk_cell BK170.out 1).trans rfl
       have hcz23_2 : wr.cell? ⟨gb170, 2, none⟩ = some (.slice A0_2 l0_2.length c0_2) := (blk_cell BK170.out 2).trans rfl
       have hcz23_3 : wr.cell? ⟨gb170, 3, none⟩ = some (.slice A0_3 l0_3.length c0_3) := (blk_cell BK170.out 3).trans rfl
       have hfz23_0 := blk_frozen BK170.out 0
       have hfz23_1 := blk_frozen BK170.out 1
       have hfz23_2 := blk_frozen BK170.out 2
       have hfz23_3 := blk_frozen BK170.out 3
       go_wp2_with (first | (go_at_call 29; (with_reducible refine (spec_l10Count.calls k2 _ _ l0_0 (fun k_ => k_ < w.heap.size) _ _ l0_1 (fun k_ => k_ < w.heap.size) _ _ l0_2 _ _ l0_3 t175 _ ?side1 ?side2 ?side3 ?side4 ?side5 ?side6 A22.out).mono ?_); (case side1 => repeat (first | exact (Kd.C_below HR0_0.out HB.out) | (with_reducible refine Kd.C_alloc ?_ _) | (with_reducible refine Kd.C_drewN ?_ _) | (with_reducible refine Kd.C_drew ?_))); (case side2 => exact HC0_0.out); (case side3 => exact Kd.V_mk HC0_1.out (Kd.F_below (Kd.C_F (Kd.heap_int .i64) HR0_1.out) (by repeat (first | (with_reducible first | exact HB.out | apply below_alloc | apply pw_below_drewN | apply below_drew1 | refine below_set ?_ GE170.out) | exact HB.out)))); (case side4 => exact Kd.V_mk HC0_2.out (Kd.F_below (Kd.C_F k45_heap HR0_2.out) (by repeat (first | (with_reducible first | exact HB.out | apply below_alloc | apply pw_below_drewN | apply below_drew1 | refine below_set ?_ GE170.out) | exact HB.out)))); (case side5 => repeat (first | exact (Kd.C_below HR0_3.out HB.out) | (with_reducible refine Kd.C_alloc ?_ _) | (with_reducible refine Kd.C_drewN ?_ _) | (with_reducible refine Kd.C_drew ?_))); (case side6 => exact HC0_3.out); rintro e w24 ⟨v176, rfl, ho0, hb⟩; have n0_ := Aside0.mk (Kd.R_lower (Kd.R_mono (ok' := fun k_ => True) ho0 (fun _ hk_ => trivial)) (below_size (by repeat (first | (with_reducible first | exact HB.out | apply below_alloc | apply pw_below_drewN | apply below_drew1 | refine below_set ?_ GE170.out) | exact HB.out)))); have n1_ := Aside0.mk (blk_below (g := gb170) (o := .cells #[.slice A0_0 l0_0.length c0_0, .slice A0_1 l0_1.length c0_1, .slice A0_2 l0_2.length c0_2, .slice A0_3 l0_3.length c0_3] 30 (0, 0)) (by (with_reducible repeat (first | refine blk_drewN ?_ _ | refine blk_drew ?_ | refine blk_alloc ?_ _)); exact BK170.out) hb); have n2_ := Aside0.mk (below_step (by repeat (first | (with_reducible first | exact HB.out | apply below_alloc | apply pw_below_drewN | apply below_drew1 | refine below_set ?_ GE170.out) | exact HB.out)) hb); clear BK170; clear HB; have HO177 := n0_; have BK170 := n1_; have HB := n2_; clear n0_ n1_ n2_; (try clear hb); (try clear hb2); (try clear hk); (try clear hi); (try clear ho0)))
       repeat (go_quiet (first | (go_at_call 29; (with_reducible refine (spec_l10Count.calls k2 _ _ l0_0 (fun k_ => k_ < w.heap.size) _ _ l0_1 (fun k_ => k_ < w.heap.size) _ _ l0_2 _ _ l0_3 t175 _ ?side1 ?side2 ?side3 ?side4 ?side5 ?side6 A22.out).mono ?_); (case side1 => repeat (first | exact (Kd.C_below HR0_0.out HB.out) | (with_reducible refine Kd.C_alloc ?_ _) | (with_reducible refine Kd.C_drewN ?_ _) | (with_reducible refine Kd.C_drew ?_))); (case side2 => exact HC0_0.out); (case side3 => exact Kd.V_mk HC0_1.out (Kd.F_below (Kd.C_F (Kd.heap_int .i64) HR0_1.out) (by repeat (first | (with_reducible first | exact HB.out | apply below_alloc | apply pw_below_drewN | apply below_drew1 | refine below_set ?_ GE170.out) | exact HB.out)))); (case side4 => exact Kd.V_mk HC0_2.out (Kd.F_below (Kd.C_F k45_heap HR0_2.out) (by repeat (first | (with_reducible first | exact HB.out | apply below_alloc | apply pw_below_drewN | apply below_drew1 | refine below_set ?_ GE170.out) | exact HB.out)))); (case side5 => repeat (first | exact (Kd.C_below HR0_3.out HB.out) | (with_reducible refine Kd.C_alloc ?_ _) | (with_reducible refine Kd.C_drewN ?_ _) | (with_reducible refine Kd.C_drew ?_))); (case side6 => exact HC0_3.out); rintro e w24 ⟨v176, rfl, ho0, hb⟩; have n0_ := Aside0.mk (Kd.R_lower (Kd.R_mono (ok' := fun k_ => True) ho0 (fun _ hk_ => trivial)) (below_size (by repeat (first | (with_reducible first | exact HB.out | apply below_alloc | apply pw_below_drewN | apply below_drew1 | refine below_set ?_ GE170.out) | exact HB.out)))); have n1_ := Aside0.mk (blk_below (g := gb170) (o := .cells #[.slice A0_0 l0_0.length c0_0, .slice A0_1 l0_1.length c0_1, .slice A0_2 l0_2.length c0_2, .slice A0_3 l0_3.length c0_3] 30 (0, 0)) (by (with_reducible repeat (first | refine blk_drewN ?_ _ | refine blk_drew ?_ | refine blk_alloc ?_ _)); exact BK170.out) hb); have n2_ := Aside0.mk (below_step (by repeat (first | (with_reducible first | exact HB.out | apply below_alloc | apply pw_below_drewN | apply below_drew1 | refine below_set ?_ GE170.out) | exact HB.out)) hb); clear BK170; clear HB; have HO177 := n0_; have BK170 := n1_; have HB := n2_; clear n0_ n1_ n2_; (try clear hb); (try clear hb2); (try clear hk); (try clear hi); (try clear ho0))); try go_wp2_with (first | (go_at_call 29; (with_reducible refine (spec_l10Count.calls k2 _ _ l0_0 (fun k_ => k_ < w.heap.size) _ _ l0_1 (fun k_ => k_ < w.heap.size) _ _ l0_2 _ _ l0_3 t175 _ ?side1 ?side2 ?side3 ?side4 ?side5 ?side6 A22.out).mono ?_); (case side1 => repeat (first | exact (Kd.C_below HR0_0.out HB.out) | (with_reducible refine Kd.C_alloc ?_ _) | (with_reducible refine Kd.C_drewN ?_ _) | (with_reducible refine Kd.C_drew ?_))); (case side2 => exact HC0_0.out); (case side3 => exact Kd.V_mk HC0_1.out (Kd.F_below (Kd.C_F (Kd.heap_int .i64) HR0_1.out) (by repeat (first | (with_reducible first | exact HB.out | apply below_alloc | apply pw_below_drewN | apply below_drew1 | refine below_set ?_ GE170.out) | exact HB.out)))); (case side4 => exact Kd.V_mk HC0_2.out (Kd.F_below (Kd.C_F k45_heap HR0_2.out) (by repeat (first | (with_reducible first | exact HB.out | apply below_alloc | apply pw_below_drewN | apply below_drew1 | refine below_set ?_ GE170.out) | exact HB.out)))); (case side5 => repeat (first | exact (Kd.C_below HR0_3.out HB.out) | (with_reducible refine Kd.C_alloc ?_ _) | (with_reducible refine Kd.C_drewN ?_ _) | (with_reducible refine Kd.C_drew ?_))); (case side6 => exact HC0_3.out); rintro e w24 ⟨v176, rfl, ho0, hb⟩; have n0_ := Aside0.mk (Kd.R_lower (Kd.R_mono (ok' := fun k_ => True) ho0 (fun _ hk_ => trivial)) (below_size (by repeat (first | (with_reducible first | exact HB.out | apply below_alloc | apply pw_below_drewN | apply below_drew1 | refine below_set ?_ GE170.out) | exact HB.out)))); have n1_ := Aside0.mk (blk_below (g := gb170) (o := .cells #[.slice A0_0 l0_0.length c0_0, .slice A0_1 l0_1.length c0_1, .slice A0_2 l0_2.length c0_2, .slice A0_3 l0_3.length c0_3] 30 (0, 0)) (by (with_reducible repeat (first | refine blk_drewN ?_ _ | refine blk_drew ?_ | refine blk_alloc ?_ _)); exact BK170.out) hb); have n2_ := Aside0.mk (below_step (by repeat (first | (with_reducible first | exact HB.out | apply below_alloc | apply pw_below_drewN | apply below_drew1 | refine below_set ?_ GE170.out) | exact HB.out)) hb); clear BK170; clear HB; have HO177 := n0_; have BK170 := n1_; have HB := n2_; clear n0_ n1_ n2_; (try clear hb); (try clear hb2); (try clear hk); (try clear hi); (try clear ho0))))
       go_loopg [5] k2 (fun kq v5 w' => ∃ (x5_3 : Int), v5 = .int .i64 x5_3 ∧ Aside0 (spec_ImageOK.l1 kq t175 x5_3 l0_0 l0_1 l0_2 l0_3 = some r) ∧ Aside0 (kq ≤ k2) ∧ Aside0 (Kd.R (Kd.int .i64) 3 w' w.heap.size (fun _ => True) v176 t175) ∧ Aside0 (w'.heap[gb170]? = some (.cells #[(.slice A0_0 l0_0.length c0_0), (.slice A0_1 l0_1.length c0_1), (.slice A0_2 l0_2.length c0_2), (.slice A0_3 l0_3.length c0_3)] 30 (0, 0))) ∧ Aside0 (Below w.heap.size w w'))
       case atStart => exact ⟨(0), (by first | rfl | (simp; done) | (simp [*]; done)), H', ⟨Nat.le_refl _⟩, ⟨by (with_reducible repeat (first | apply Kd.R_alloc | apply Kd.R_drewN | apply Kd.R_drew)); exact HO177.out⟩, ⟨by (with_reducible repeat (first | refine blk_drewN ?_ _ | refine blk_drew ?_ | refine blk_alloc ?_ _)); exact BK170.out⟩, ⟨by repeat (first | (with_reducible first | exact HB.out | apply below_alloc | apply pw_below_drewN | apply below_drew1 | refine below_set ?_ GE170.out) | exact HB.out)⟩⟩
       case round =>
        clear H'
        try clear c1
        try clear p1
        try clear q1
        try clear hx1
        try clear p2
        try clear c5
        try clear p6
        try clear c9
        try clear c13
        try clear c14
        try clear c14b0
        try clear c15
        try clear c15b0
        try clear c17
        try clear p17
        try clear q17
        try clear hx17
        try clear hcz11_0
        try clear hcz11_1
        try clear hcz11_2
        try clear hcz11_3
        try clear hcz18_0
        try clear hcz18_1
        try clear hcz18_2
        try clear hcz18_3
        try clear hcz20_0
        try clear hcz20_1
        try clear hcz20_2
        try clear hcz20_3
        try clear hcz23_0
        try clear hcz23_1
        try clear hcz23_2
        try clear hcz23_3
        try clear hcz7_0
        try clear hcz7_1
        try clear hcz7_2
        try clear hcz7_3
        try clear hcz9_0
        try clear hcz9_1
        try clear hcz9_2
        try clear hcz9_3
        try clear hfz11_0
        try clear hfz11_1
        try clear hfz11_2
        try clear hfz11_3
        try clear hfz18_0
        try clear hfz18_1
        try clear hfz18_2
        try clear hfz18_3
        try clear hfz20_0
        try clear hfz20_1
        try clear hfz20_2
        try clear hfz20_3
        try clear hfz23_0
        try clear hfz23_1
        try clear hfz23_2
        try clear hfz23_3
        try clear hfz7_0
        try clear hfz7_1
        try clear hfz7_2
        try clear hfz7_3
        try clear hfz9_0
        try clear hfz9_1
        try clear hfz9_2
        try clear hfz9_3
        try clear hx173_0
        try clear hx173_1
        try clear p173
        try clear p2
        try clear q173
        obtain ⟨x5_3, rfl, HA, HK3, HO_4, BK170, HB⟩ := hrel
        cases gk with
        | zero => exact absurd HA.out (by simp [spec_ImageOK.l1])
        | succ k3 =>
         have H := HA.out
         clear HA
         simp only [spec_ImageOK.l1] at H
         by_cases c25 : x5_3 < 24
         ·rw [if_pos c25] at H
          have c25b0 : decide (x5_3 < 24) = true := decide_eq_true c25
          clear c25
          by_cases c26 : 0 ≤ x5_3
          ·rw [if_pos c26] at H
           have c26b0 : decide (0 ≤ x5_3) = true := decide_eq_true c26
           clear c26
           by_cases c27 : x5_3 < (t175.length : Int)
           ·rw [if_pos c27] at H
            have c27b0 : decide (x5_3 < (t175.length : Int)) = true := decide_eq_true c27
            clear c27
            by_cases c28 : x5_3 < (l0_0.length : Int)
            ·rw [if_pos c28] at H
             have c28b0 : decide (x5_3 < (l0_0.length : Int)) = true := decide_eq_true c28
             clear c28
             by_cases c29 : (rd t175 x5_3) = (rd l0_0 x5_3)
             ·rw [if_pos c29] at H
              have c29b0 : ((rd t175 x5_3) == (rd l0_0 x5_3)) = true := beq_iff_eq.mpr c29
              have c29b1 : ((rd t175 x5_3) != (rd l0_0 x5_3)) = false := bne_eq_false_iff_eq.mpr c29
              clear c29
              by_cases c30 : (rd t175 x5_3) = 0
              ·rw [if_pos c30] at H
               have c30b0 : ((rd t175 x5_3) == 0) = true := beq_iff_eq.mpr c30
               have c30b1 : ((rd t175 x5_3) != 0) = false := bne_eq_false_iff_eq.mpr c30
               clear c30
               by_cases c31 : x5_3 < (l0_3.length : Int)
               ·rw [if_pos c31] at H
                have c31b0 : decide (x5_3 < (l0_3.length : Int)) = true := decide_eq_true c31
                clear c31
                by_cases c32 : (rd l0_3 x5_3) = 0
                ·rw [if_pos c32] at H
                 have c32b0 : ((rd l0_3 x5_3) == 0) = true := beq_iff_eq.mpr c32
                 have c32b1 : ((rd l0_3 x5_3) != 0) = false := bne_eq_false_iff_eq.mpr c32
                 clear c32
                 have H' := Aside0.mk H
                 clear H
                 obtain ⟨Ao33, co33, eo33⟩ := Kd.R_slice HO_4.out
                 subst eo33
                 have p178 : 0 ≤ (x5_3 : Int) := of_decide_eq_true (by first | (with_reducible assumption) | assumption)
                 have q178 : x5_3 < (t175.length : Int) := of_decide_eq_true (by first | (with_reducible assumption) | assumption)
                 obtain ⟨ad178, e178, hx178_0⟩ := Kd.at_int (Kd.R_reads' HO_4.out).2.2 x5_3 p178 q178
                 cases e178
                 replace p178 := eq_true p178
                 replace q178 := eq_true q178
                 have hcz34_0 : wr.cell? ⟨gb170, 0, none⟩ = some (.slice A0_0 l0_0.length c0_0) := (blk_cell BK170.out 0).trans rfl
                 have hcz34_1 : wr.cell? ⟨gb170, 1, none⟩ = some (.slice A0_1 l0_1.length c0_1) := (blk_cell BK170.out 1).trans rfl
                 have hcz34_2 : wr.cell? ⟨gb170, 2, none⟩ = some (.slice A0_2 l0_2.length c0_2) := (blk_cell BK170.out 2).trans rfl
                 have hcz34_3 : wr.cell? ⟨gb170, 3, none⟩ = some (.slice A0_3 l0_3.length c0_3) := (blk_cell BK170.out 3).trans rfl
                 have hfz34_0 := blk_frozen BK170.out 0
                 have hfz34_1 := blk_frozen BK170.out 1
                 have hfz34_2 := blk_frozen BK170.out 2
                 have hfz34_3 := blk_frozen BK170.out 3
                 have p179 : 0 ≤ (x5_3 : Int) := of_decide_eq_true (by first | (with_reducible assumption) | assumption)
                 have q179 : x5_3 < (l0_0.length : Int) := of_decide_eq_true (by first | (with_reducible assumption) | assumption)
                 obtain ⟨ad179, e179, hx179_0⟩ := Kd.at_int HR0_0.out x5_3 p179 q179
                 cases e179
                 replace hx179_0 := (HB.out.cell (World.block_lt_of_cell? w _ hx179_0)).trans hx179_0
                 replace p179 := eq_true p179
                 replace q179 := eq_true q179
                 have p180 : 0 ≤ (x5_3 : Int) := of_decide_eq_true (by first | (with_reducible assumption) | assumption)
                 have q180 : x5_3 < (t175.length : Int) := of_decide_eq_true (by first | (with_reducible assumption) | assumption)
                 obtain ⟨ad180, e180, hx180_0⟩ := Kd.at_int (Kd.R_reads' HO_4.out).2.2 x5_3 p180 q180
                 obtain rfl : ad178 = ad180 := (by injection e180)
                 replace p180 := eq_true p180
                 replace q180 := eq_true q180
                 have p181 : 0 ≤ (x5_3 : Int) := of_decide_eq_true (by first | (with_reducible assumption) | assumption)
                 have q181 : x5_3 < (l0_3.length : Int) := of_decide_eq_true (by first | (with_reducible assumption) | assumption)
                 obtain ⟨ad181, e181, hx181_0⟩ := Kd.at_int HR0_3.out x5_3 p181 q181
                 cases e181
                 replace hx181_0 := (HB.out.cell (World.block_lt_of_cell? w _ hx181_0)).trans hx181_0
                 replace p181 := eq_true p181
                 replace q181 := eq_true q181
                 go_wp2
                 repeat (go_quiet (fail); try go_wp2)
                 go_roundg k3
                 case measure => have := HJ1.out; have := HK2.out; have := HK3.out; omega
                 case rel => exact ⟨(wrap64 (x5_3 + 1)), (by first | rfl | (simp; done) | (simp [*]; done)), H', ⟨by have := HJ1.out; have := HK2.out; have := HK3.out; omega⟩, ⟨by (with_reducible repeat (first | apply Kd.R_alloc | apply Kd.R_drewN | apply Kd.R_drew)); exact HO_4.out⟩, ⟨by (with_reducible repeat (first | refine blk_drewN ?_ _ | refine blk_drew ?_ | refine blk_alloc ?_ _)); exact BK170.out⟩, ⟨by repeat (first | (with_reducible first | exact HB.out | apply below_alloc | apply pw_below_drewN | apply below_drew1 | refine below_set ?_ GE170.out) | exact HB.out)⟩⟩
                ·rw [if_neg c32] at H
                 have c32b0 : ((rd l0_3 x5_3) == 0) = false := beq_eq_false_iff_ne.mpr c32
                 have c32b1 : ((rd l0_3 x5_3) != 0) = true := bne_iff_ne.mpr c32
                 obtain rfl := Option.some.inj H
                 obtain ⟨Ao35, co35, eo35⟩ := Kd.R_slice HO_4.out
                 subst eo35
                 have p178 : 0 ≤ (x5_3 : Int) := of_decide_eq_true (by first | (with_reducible assumption) | assumption)
                 have q178 : x5_3 < (t175.length : Int) := of_decide_eq_true (by first | (with_reducible assumption) | assumption)
                 obtain ⟨ad178, e178, hx178_0⟩ := Kd.at_int (Kd.R_reads' HO_4.out).2.2 x5_3 p178 q178
                 cases e178
                 replace p178 := eq_true p178
                 replace q178 := eq_true q178
                 have hcz36_0 : wr.cell? ⟨gb170, 0, none⟩ = some (.slice A0_0 l0_0.length c0_0) := (blk_cell BK170.out 0).trans rfl
                 have hcz36_1 : wr.cell? ⟨gb170, 1, none⟩ = some (.slice A0_1 l0_1.length c0_1) := (blk_cell BK170.out 1).trans rfl
                 have hcz36_2 : wr.cell? ⟨gb170, 2, none⟩ = some (.slice A0_2 l0_2.length c0_2) := (blk_cell BK170.out 2).trans rfl
                 have hcz36_3 : wr.cell? ⟨gb170, 3, none⟩ = some (.slice A0_3 l0_3.length c0_3) := (blk_cell BK170.out 3).trans rfl
                 have hfz36_0 := blk_frozen BK170.out 0
                 have hfz36_1 := blk_frozen BK170.out 1
                 have hfz36_2 := blk_frozen BK170.out 2
                 have hfz36_3 := blk_frozen BK170.out 3
                 have p179 : 0 ≤ (x5_3 : Int) := of_decide_eq_true (by first | (with_reducible assumption) | assumption)
                 have q179 : x5_3 < (l0_0.length : Int) := of_decide_eq_true (by first | (with_reducible assumption) | assumption)
                 obtain ⟨ad179, e179, hx179_0⟩ := Kd.at_int HR0_0.out x5_3 p179 q179
                 cases e179
                 replace hx179_0 := (HB.out.cell (World.block_lt_of_cell? w _ hx179_0)).trans hx179_0
                 replace p179 := eq_true p179
                 replace q179 := eq_true q179
                 have p180 : 0 ≤ (x5_3 : Int) := of_decide_eq_true (by first | (with_reducible assumption) | assumption)
                 have q180 : x5_3 < (t175.length : Int) := of_decide_eq_true (by first | (with_reducible assumption) | assumption)
                 obtain ⟨ad180, e180, hx180_0⟩ := Kd.at_int (Kd.R_reads' HO_4.out).2.2 x5_3 p180 q180
                 obtain rfl : ad178 = ad180 := (by injection e180)
                 replace p180 := eq_true p180
                 replace q180 := eq_true q180
                 have p181 : 0 ≤ (x5_3 : Int) := of_decide_eq_true (by first | (with_reducible assumption) | assumption)
                 have q181 : x5_3 < (l0_3.length : Int) := of_decide_eq_true (by first | (with_reducible assumption) | assumption)
                 obtain ⟨ad181, e181, hx181_0⟩ := Kd.at_int HR0_3.out x5_3 p181 q181
                 cases e181
                 replace hx181_0 := (HB.out.cell (World.block_lt_of_cell? w _ hx181_0)).trans hx181_0
                 replace p181 := eq_true p181
                 replace q181 := eq_true q181
                 go_wp2
                 repeat (go_quiet (fail); try go_wp2)
                 go_ret
                 exact ⟨by first | rfl | (simp [errW_none, errW_some] <;> rfl) | (simp [*, errW_none, errW_some] <;> rfl), by repeat (first | (with_reducible first | exact HB.out | apply below_alloc | apply pw_below_drewN | apply below_drew1 | refine below_set ?_ GE170.out) | exact HB.out)⟩
               ·rw [if_neg c31] at H
                exact absurd H (by simp)
              ·rw [if_neg c30] at H
               have c30b0 : ((rd t175 x5_3) == 0) = false := beq_eq_false_iff_ne.mpr c30
               have c30b1 : ((rd t175 x5_3) != 0) = true := bne_iff_ne.mpr c30
               have H' := Aside0.mk H
               clear H
               obtain ⟨Ao37, co37, eo37⟩ := Kd.R_slice HO_4.out
               subst eo37
               have p178 : 0 ≤ (x5_3 : Int) := of_decide_eq_true (by first | (with_reducible assumption) | assumption)
               have q178 : x5_3 < (t175.length : Int) := of_decide_eq_true (by first | (with_reducible assumption) | assumption)
               obtain ⟨ad178, e178, hx178_0⟩ := Kd.at_int (Kd.R_reads' HO_4.out).2.2 x5_3 p178 q178
               cases e178
               replace p178 := eq_true p178
               replace q178 := eq_true q178
               have hcz38_0 : wr.cell? ⟨gb170, 0, none⟩ = some (.slice A0_0 l0_0.length c0_0) := (blk_cell BK170.out 0).trans rfl
               have hcz38_1 : wr.cell? ⟨gb170, 1, none⟩ = some (.slice A0_1 l0_1.length c0_1) := (blk_cell BK170.out 1).trans rfl
               have hcz38_2 : wr.cell? ⟨gb170, 2, none⟩ = some (.slice A0_2 l0_2.length c0_2) := (blk_cell BK170.out 2).trans rfl
               have hcz38_3 : wr.cell? ⟨gb170, 3, none⟩ = some (.slice A0_3 l0_3.length c0_3) := (blk_cell BK170.out 3).trans rfl
               have hfz38_0 := blk_frozen BK170.out 0
               have hfz38_1 := blk_frozen BK170.out 1
               have hfz38_2 := blk_frozen BK170.out 2
               have hfz38_3 := blk_frozen BK170.out 3
               have p179 : 0 ≤ (x5_3 : Int) := of_decide_eq_true (by first | (with_reducible assumption) | assumption)
               have q179 : x5_3 < (l0_0.length : Int) := of_decide_eq_true (by first | (with_reducible assumption) | assumption)
               obtain ⟨ad179, e179, hx179_0⟩ := Kd.at_int HR0_0.out x5_3 p179 q179
               cases e179
               replace hx179_0 := (HB.out.cell (World.block_lt_of_cell? w _ hx179_0)).trans hx179_0
               replace p179 := eq_true p179
               replace q179 := eq_true q179
               have p180 : 0 ≤ (x5_3 : Int) := of_decide_eq_true (by first | (with_reducible assumption) | assumption)
               have q180 : x5_3 < (t175.length : Int) := of_decide_eq_true (by first | (with_reducible assumption) | assumption)
               obtain ⟨ad180, e180, hx180_0⟩ := Kd.at_int (Kd.R_reads' HO_4.out).2.2 x5_3 p180 q180
               obtain rfl : ad178 = ad180 := (by injection e180)
               replace p180 := eq_true p180
               replace q180 := eq_true q180
               go_wp2
               repeat (go_quiet (fail); try go_wp2)
               go_roundg k3
               case measure => have := HJ1.out; have := HK2.out; have := HK3.out; omega
               case rel => exact ⟨(wrap64 (x5_3 + 1)), (by first | rfl | (simp; done) | (simp [*]; done)), H', ⟨by have := HJ1.out; have := HK2.out; have := HK3.out; omega⟩, ⟨by (with_reducible repeat (first | apply Kd.R_alloc | apply Kd.R_drewN | apply Kd.R_drew)); exact HO_4.out⟩, ⟨by (with_reducible repeat (first | refine blk_drewN ?_ _ | refine blk_drew ?_ | refine blk_alloc ?_ _)); exact BK170.out⟩, ⟨by repeat (first | (with_reducible first | exact HB.out | apply below_alloc | apply pw_below_drewN | apply below_drew1 | refine below_set ?_ GE170.out) | exact HB.out)⟩⟩
             ·rw [if_neg c29] at H
              have c29b0 : ((rd t175 x5_3) == (rd l0_0 x5_3)) = false := beq_eq_false_iff_ne.mpr c29
              have c29b1 : ((rd t175 x5_3) != (rd l0_0 x5_3)) = true := bne_iff_ne.mpr c29
              obtain rfl := Option.some.inj H
              obtain ⟨Ao39, co39, eo39⟩ := Kd.R_slice HO_4.out
              subst eo39
              have p178 : 0 ≤ (x5_3 : Int) := of_decide_eq_true (by first | (with_reducible assumption) | assumption)
              have q178 : x5_3 < (t175.length : Int) := of_decide_eq_true (by first | (with_reducible assumption) | assumption)
              obtain ⟨ad178, e178, hx178_0⟩ := Kd.at_int (Kd.R_reads' HO_4.out).2.2 x5_3 p178 q178
              cases e178
              replace p178 := eq_true p178
              replace q178 := eq_true q178
              have hcz40_0 : wr.cell? ⟨gb170, 0, none⟩ = some (.slice A0_0 l0_0.length c0_0) := (blk_cell BK170.out 0).trans rfl
              have hcz40_1 : wr.cell? ⟨gb170, 1, none⟩ = some (.slice A0_1 l0_1.length c0_1) := (blk_cell BK170.out 1).trans rfl
              have hcz40_2 : wr.cell? ⟨gb170, 2, none⟩ = some (.slice A0_2 l0_2.length c0_2) := (blk_cell BK170.out 2).trans rfl
              have hcz40_3 : wr.cell? ⟨gb170, 3, none⟩ = some (.slice A0_3 l0_3.length c0_3) := (blk_cell BK170.out 3).trans rfl
              have hfz40_0 := blk_frozen BK170.out 0
              have hfz40_1 := blk_frozen BK170.out 1
              have hfz40_2 := blk_frozen BK170.out 2
              have hfz40_3 := blk_frozen BK170.out 3
              have p179 : 0 ≤ (x5_3 : Int) := of_decide_eq_true (by first | (with_reducible assumption) | assumption)
              have q179 : x5_3 < (l0_0.length : Int) := of_decide_eq_true (by first | (with_reducible assumption) | assumption)
              obtain ⟨ad179, e179, hx179_0⟩ := Kd.at_int HR0_0.out x5_3 p179 q179
              cases e179
              replace hx179_0 := (HB.out.cell (World.block_lt_of_cell? w _ hx179_0)).trans hx179_0
              replace p179 := eq_true p179
              replace q179 := eq_true q179
              go_wp2
              repeat (go_quiet (fail); try go_wp2)
              go_ret
              exact ⟨by first | rfl | (simp [errW_none, errW_some] <;> rfl) | (simp [*, errW_none, errW_some] <;> rfl), by repeat (first | (with_reducible first | exact HB.out | apply below_alloc | apply pw_below_drewN | apply below_drew1 | refine below_set ?_ GE170.out) | exact HB.out)⟩
            ·rw [if_neg c28] at H
             exact absurd H (by simp)
           ·rw [if_neg c27] at H
            exact absurd H (by simp)
          ·rw [if_neg c26] at H
           exact absurd H (by simp)
         ·rw [if_neg c25] at H
          have c25b0 : decide (x5_3 < 24) = false := decide_eq_false c25
          clear c25
          obtain rfl := Option.some.inj H
          go_wp2
          repeat (go_quiet (fail); try go_wp2)
          go_ret
          exact ⟨by first | rfl | (simp [errW_none, errW_some] <;> rfl) | (simp [*, errW_none, errW_some] <;> rfl), by repeat (first | (with_reducible first | exact HB.out | apply below_alloc | apply pw_below_drewN | apply below_drew1 | refine below_set ?_ GE170.out) | exact HB.out)⟩
/-! ### Img -/
theorem impl_once_ev (l : List Int) (hl : l.length ≤ 1000000000) : Ev (fun k => impl_once.f k l) (decide (clu l).Nodup) := by
  unfold impl_once.f
  refine ev_bind (impl_clu_ev l hl) ?_
  have ht := clu_length l
  generalize clu l = t at ht
  refine ev_pos (by omega) ?_
  have e : (((Lib.compact (impl_once_sorted t)).length : Int) == (t.length : Int)) = decide t.Nodup := by
    rw [Bool.eq_iff_iff, beq_iff_eq, decide_eq_true_eq, ← sortedI_nodup t]
    unfold impl_once_sorted
    exact Int.ofNat_inj
  rw [e]; exact ev_some _
def once (l : List Int) : Bool := decide (clu l).Nodup
def isNum (n : Int) : Bool := inB n 0 2147483647
def refsOK (l : List Int) : Bool := l.all (fun n => inB n 0 15) && ((l.length : Int) == 24)
theorem spec_RefsOK_ev (l : List Int) (hl : l.length ≤ 1000000000) : Ev (fun k => spec_RefsOK.f k l) (refsOK l) := by
  unfold spec_RefsOK.f
  by_cases h : (l.length : Int) > 4096
  · have : refsOK l = false := by
      unfold refsOK
      rw [show ((l.length : Int) == 24) = false from beq_eq_false_iff_ne.2 (by omega), Bool.and_false]
    rw [this]; exact ev_pos h (ev_some _)
  · refine ev_neg h ?_
    refine ev_all (g := fun k i => spec_RefsOK.l0 k l (i : Int)) l (fun n => inB n 0 15) _ ?_ ?_
    · refine Ev.step (f := fun _ => some ((l.length : Int) == 24)) (fun k => ?_) (ev_some _)
      simp only [spec_RefsOK.l0]; rw [if_neg (by omega)]
    · intro i hi k
      simp only [spec_RefsOK.l0, l01In_eq, Option.bind_some]
      rw [if_pos (by omega), if_pos (by omega), rdn l i hi, wnext i (by omega)]
theorem impl_RefsOK_eq (l : List Int) : impl_RefsOK.f l = some (refsOK l) := by
  have ha : all61_impl_RefsOK_1.f l () = some (l.all (fun n => inB n 0 15)) := by
    unfold all61_impl_RefsOK_1.f; exact allO_some _ _ (fun x _ => by simp only [impl_RefsOK_1.f, within_eq, Option.bind_some])
  unfold impl_RefsOK.f refsOK
  by_cases h : (l.length : Int) = 24
  · rw [if_pos h, ha, show ((l.length : Int) == 24) = true from beq_iff_eq.2 h, Bool.and_true]; rfl
  · rw [if_neg h, show ((l.length : Int) == 24) = false from beq_eq_false_iff_ne.2 h, Bool.and_false]
theorem refs_len {l : List Int} (h : refsOK l = true) : l.length = 24 := by
  unfold refsOK at h; rw [Bool.and_eq_true, beq_iff_eq] at h; omega
def nm (l : List S45) (i : Nat) : ByteArray := (rd_T45 l (i : Int)).f0
def fAt (l : List S45) (i : Nat) : Bool := nmOK (nm l i) && (tableOK (rd_T45 l (i : Int)).f1 && (List.range i).all (fun j => decide (nm l j ≠ nm l i)))
def form (R T : List Int) (S : List S45) (D : List Int) : Bool := refsOK R && (tableOK T && (decide ((S.length : Int) ≤ 3) && (((D.length : Int) == 24) && ((List.range S.length).all (fAt S) && D.all isNum))))
theorem spec_form_ev (R T : List Int) (S : List S45) (D : List Int) (hR : R.length ≤ 1000000000) (hT : T.length ≤ 1000000000) (hS : S.length ≤ 1000000000) (hD : D.length ≤ 1000000000) (hs : ∀ x ∈ S, x.f0.size ≤ 1000000000 ∧ x.f1.length ≤ 1000000000) :
    Ev (fun k => spec_l10Form.f k R T S D) (form R T S D) := by
  have hDl : Ev (fun k => spec_l10Form.l2 k ((0 : Nat) : Int) R T S D) (D.all isNum && true) := by
    refine ev_all (g := fun k i => spec_l10Form.l2 k (i : Int) R T S D) D isNum true ?_ ?_
    · refine Ev.step (f := fun _ => some true) (fun k => ?_) (ev_some _)
      simp only [spec_l10Form.l2]; rw [if_neg (by omega)]
    · intro i hi k
      simp only [spec_l10Form.l2, spec_l02Int.f, l01In_eq, Option.bind_some]
      rw [if_pos (by omega), if_pos (by omega), rdn D i hi, wnext i (by omega)]
      rfl
  rw [Bool.and_true] at hDl
  have hL : Ev (fun k => spec_l10Form.l0 k ((0 : Nat) : Int) R T S D) (if (List.range S.length).all (fAt S) = true then D.all isNum else false) := by
    refine ev_askE (g := fun k i => spec_l10Form.l0 k (i : Int) R T S D) S.length (fAt S) (D.all isNum) false ?_ ?_
    · refine Ev.step (f := fun k => spec_l10Form.l2 k ((0 : Nat) : Int) R T S D) (fun k => ?_) hDl
      simp only [spec_l10Form.l0]; rw [if_neg (by omega)]; rfl
    · intro i hi b hb
      have hmem := hs S[i] (List.getElem_mem hi)
      have hin : Ev (fun k => spec_l10Form.l1 k (i : Int) ((0 : Nat) : Int) R T S D) (if (List.range i).all (fun j => decide (nm S j ≠ nm S i)) = true then b else false) := by
        refine ev_asks (g := fun k j => spec_l10Form.l1 k (i : Int) (j : Int) R T S D) (List.range i) _ b false ?_ ?_
        · rw [List.length_range]
          refine Ev.step (f := fun k => spec_l10Form.l0 k ((i + 1 : Nat) : Int) R T S D) (fun k => ?_) hb
          simp only [spec_l10Form.l1]; rw [if_neg (by omega), wnext i (by omega)]
        · intro j hj k
          rw [List.length_range] at hj
          simp only [spec_l10Form.l1, List.getElem_range]
          rw [if_pos (by omega), if_pos (by omega), if_pos (by omega), if_pos (by omega), if_pos (by omega), wnext j (by omega)]
          show (if (nm S j).toList = (nm S i).toList then some false else _) = _
          by_cases c : nm S j = nm S i
          · rw [if_pos (by rw [c]), if_neg (by simp [c])]
          · rw [if_neg (fun h => c (toList_inj.1 h)), if_pos (by simp [c])]
      refine Ev.succ ?_
      simp only [spec_l10Form.l0]
      refine ev_pos (by omega) (ev_pos (by omega) ?_)
      have e1 : (rd_T45 S (i : Int)).f0 = nm S i := rfl
      have e2 := rdE_Snap S i hi
      unfold fAt
      rw [e1]
      refine ev_bind (spec_Name_ev _ (by unfold nm; rw [e2]; exact hmem.1)) ?_
      cases nmOK (nm S i)
      · refine ev_neg (by decide) (Ev.succ ?_)
        simp only [spec_l10Form.j2, if_true, Bool.false_and, Bool.false_eq_true, if_false]; exact ev_some _
      · refine ev_pos rfl (ev_bind (spec_TableOK_ev _ (by rw [e2]; exact hmem.2)) (Ev.succ ?_))
        cases tableOK (rd_T45 S (i : Int)).f1
        · simp only [spec_l10Form.j2, Bool.not_false, if_true, Bool.false_and, Bool.and_false, Bool.false_eq_true, if_false]; exact ev_some _
        · simp only [spec_l10Form.j2, Bool.not_true, Bool.false_eq_true, if_false, Bool.true_and]; exact hin
  unfold spec_l10Form.f form
  refine ev_bind (spec_RefsOK_ev R hR) ?_
  cases refsOK R
  · refine ev_neg (by decide) (Ev.succ ?_)
    simp only [spec_l10Form.j0, if_true, Bool.false_and]; exact ev_some _
  · refine ev_pos rfl (ev_bind (spec_TableOK_ev T hT) ?_)
    cases tableOK T
    · refine ev_neg (by decide) (Ev.succ ?_)
      simp only [spec_l10Form.j0, if_true, Bool.false_and, Bool.and_false]; exact ev_some _
    · refine ev_pos rfl ?_
      by_cases h3 : (S.length : Int) ≤ 3
      · rw [decide_eq_true h3]
        refine ev_neg (by omega) (Ev.succ ?_)
        simp only [spec_l10Form.j0, bne, Bool.true_and]
        by_cases c24 : ((D.length : Int) == 24) = true
        rotate_left
        · rw [Bool.not_eq_true] at c24
          simp only [c24, Bool.not_false, if_true, Bool.false_and]; exact ev_some _
        · simp only [c24, Bool.not_true, Bool.false_eq_true, if_false, Bool.true_and]
          have e : (if (List.range S.length).all (fAt S) = true then D.all isNum else false) = ((List.range S.length).all (fAt S) && D.all isNum) := by cases (List.range S.length).all (fAt S) <;> simp
          rw [e] at hL
          exact hL
      · rw [decide_eq_false h3]
        refine ev_pos (by omega) (Ev.succ ?_)
        simp only [spec_l10Form.j0, if_true, Bool.false_and, Bool.and_false]; exact ev_some _
def near (R T : List Int) (S : List S45) (D : List Int) : Bool := refsOK R && (decide ((S.length : Int) ≤ 3) && (namesOK (S.map (·.f0)) && ((tabs T S).all (fun l => tableOK l && once l) && (((D.length : Int) == 24) && D.all isNum))))
theorem impl_near_ev (R T : List Int) (S : List S45) (D : List Int) (hT : T.length ≤ 1000000000) (hS : S.length ≤ 1000000000) (hs : ∀ x ∈ S, x.f0.size ≤ 1000000000 ∧ x.f1.length ≤ 1000000000) :
    Ev (fun k => impl_Image_nearlyOK.f k R T S D) (near R T S D) := by
  have hD : all61_impl_isNumber.f D () = some (D.all isNum) := by unfold all61_impl_isNumber.f; exact allO_some _ _ (fun x _ => by simp only [impl_isNumber.f, within_eq, Option.bind_some]; rfl)
  have hts : ∀ l ∈ tabs T S, l.length ≤ 1000000000 := by
    intro l hl
    simp only [tabs, List.mem_cons, List.mem_map] at hl
    rcases hl with rfl | ⟨x, hx, rfl⟩
    · exact hT
    · exact (hs x hx).2
  unfold impl_Image_nearlyOK.f near
  simp only [impl_RefsOK_eq, Option.bind_some, hD]
  cases refsOK R
  · exact ev_neg (by decide) (ev_some _)
  · refine ev_pos rfl ?_
    by_cases h3 : (S.length : Int) ≤ 3
    · rw [decide_eq_true h3]
      refine ev_pos h3 (ev_bind (impl_names_ev R T S D hS) (ev_bind (areNames_ev _ (by simpa using hS) (fun x hx => by
        obtain ⟨y, hy, rfl⟩ := List.mem_map.1 hx; exact (hs y hy).1)) ?_))
      simp only [Bool.true_and]
      cases namesOK (S.map (·.f0))
      · exact ev_neg (by decide) (ev_some _)
      · refine ev_pos rfl (ev_bind (impl_tables_ev R T S D hS) (ev_bind (a := (tabs T S).all (fun l => tableOK l && once l)) (by
          unfold all56_impl_Image_nearlyOK_1.f
          refine ev_allO _ _ _ (fun l hl => ?_)
          simp only [impl_Image_nearlyOK_1.f, impl_TableOK_eq, Option.bind_some]
          cases tableOK l
          · exact ev_neg (by decide) (ev_some _)
          · exact ev_pos rfl (ev_bind (impl_once_ev l (hts l hl)) (ev_some _))) ?_))
        simp only [Bool.true_and]
        cases (tabs T S).all (fun l => tableOK l && once l)
        · exact ev_neg (by decide) (ev_some _)
        · refine ev_pos rfl ?_
          by_cases h24 : (D.length : Int) = 24
          · rw [show ((D.length : Int) == 24) = true from beq_iff_eq.2 h24]
            exact ev_pos h24 (ev_some _)
          · rw [show ((D.length : Int) == 24) = false from beq_eq_false_iff_ne.2 h24]
            exact ev_neg h24 (ev_some _)
    · rw [decide_eq_false h3]; exact ev_neg h3 (ev_some _)
theorem form_near (R T : List Int) (S : List S45) (D : List Int) : (form R T S D && (once T && S.all (fun x => once x.f1))) = near R T S D := by
  have hn : ∀ i (h : i < S.length), nm S i = S[i].f0 := fun i h => by unfold nm; rw [rdE_Snap S i h]
  have key : (List.range S.length).all (fAt S) = ((S.map (·.f0)).all nmOK && decide (S.map (·.f0)).Nodup && S.all (fun x => tableOK x.f1)) := by
    rw [Bool.eq_iff_iff]
    simp only [Bool.and_eq_true, List.all_eq_true, decide_eq_true_eq, List.mem_range, List.mem_map]
    constructor
    · intro h
      have h' : ∀ i (hi : i < S.length), nmOK S[i].f0 = true ∧ tableOK S[i].f1 = true ∧ ∀ j, j < i → nm S j ≠ nm S i := fun i hi => by
        have := h i hi
        unfold fAt at this
        simp only [Bool.and_eq_true, List.all_eq_true, decide_eq_true_eq, List.mem_range] at this
        rw [hn i hi, rdE_Snap S i hi] at this
        exact ⟨this.1, this.2.1, fun j hj => by have := this.2.2 j hj; rw [hn i hi]; exact this⟩
      refine ⟨⟨?_, ?_⟩, ?_⟩
      · rintro x ⟨y, hy, rfl⟩
        obtain ⟨i, hi, rfl⟩ := List.getElem_of_mem hy
        exact (h' i hi).1
      · rw [List.nodup_iff_pairwise_ne, List.pairwise_iff_getElem]
        intro i j hi hj hij
        rw [List.length_map] at hi hj
        have := (h' j hj).2.2 i hij
        rw [hn i hi, hn j hj] at this
        simpa using this
      · intro x hx
        obtain ⟨i, hi, rfl⟩ := List.getElem_of_mem hx
        exact (h' i hi).2.1
    · rintro ⟨⟨h1, h2⟩, h3⟩ i hi
      unfold fAt
      simp only [Bool.and_eq_true, List.all_eq_true, decide_eq_true_eq, List.mem_range]
      rw [rdE_Snap S i hi]
      refine ⟨?_, h3 _ (List.getElem_mem hi), fun j hj => ?_⟩
      · rw [hn i hi]; exact h1 _ ⟨_, List.getElem_mem hi, rfl⟩
      · rw [hn i hi, hn j (by omega)]
        have := List.pairwise_iff_getElem.1 (List.nodup_iff_pairwise_ne.1 h2) j i (by simp; omega) (by simpa using hi) hj
        simpa using this
  unfold form near
  rw [key]
  have h2 : (tabs T S).all (fun l => tableOK l && once l) = ((tableOK T && once T) && (S.all (fun x => tableOK x.f1) && S.all (fun x => once x.f1))) := by
    unfold tabs
    rw [List.all_cons, List.all_map]
    congr 1
    rw [Bool.eq_iff_iff]
    simp only [Bool.and_eq_true, List.all_eq_true, Function.comp]
    exact ⟨fun h => ⟨fun x hx => (h x hx).1, fun x hx => (h x hx).2⟩, fun h x hx => ⟨h.1 x hx, h.2 x hx⟩⟩
  rw [h2]
  by_cases h3 : (S.length : Int) ≤ 3
  · have e : namesOK (S.map (·.f0)) = ((S.map (·.f0)).all nmOK && decide (S.map (·.f0)).Nodup) := by
      unfold namesOK; rw [decide_eq_true (by simpa using h3), Bool.true_and]
    rw [e, decide_eq_true h3]
    cases refsOK R <;> cases tableOK T <;> cases ((D.length : Int) == 24) <;> cases (S.map (·.f0)).all nmOK <;> cases decide (S.map (·.f0)).Nodup <;> cases S.all (fun x => tableOK x.f1) <;> cases D.all isNum <;> cases once T <;> cases S.all (fun x => once x.f1) <;> rfl
  · rw [decide_eq_false h3]; simp
theorem near_tabs {R T : List Int} {S : List S45} {D : List Int} (h : near R T S D = true) : R.length = 24 ∧ S.length ≤ 3 ∧ (∀ t ∈ tabs T S, tableOK t = true) ∧ D.length = 24 := by
  unfold near at h
  simp only [Bool.and_eq_true, List.all_eq_true, decide_eq_true_eq, beq_iff_eq] at h
  obtain ⟨h1, h2, _, h4, h5, _⟩ := h
  exact ⟨refs_len h1, by omega, fun t ht => (h4 t ht).1, by omega⟩
/-- How many tables have each cluster. -/
def counts (T : List Int) (S : List S45) : List Int := cntT zeros24 (tabs T S)
theorem counts_length (T : List Int) (S : List S45) : (counts T S).length = 24 := by unfold counts; rw [cntT_length]; rfl
def zeroD (R D : List Int) : Bool := (List.range 24).all (fun i => if rd R (i : Int) = 0 then decide (rd D (i : Int) = 0) else true)
def imgOK (R T : List Int) (S : List S45) (D : List Int) : Bool := near R T S D && (decide (R = counts T S) && zeroD R D)
theorem spec_ImageOK_ev (R T : List Int) (S : List S45) (D : List Int) (hR : R.length ≤ 1000000000) (hT : T.length ≤ 1000000000) (hS : S.length ≤ 1000000000) (hD : D.length ≤ 1000000000) (hs : ∀ x ∈ S, x.f0.size ≤ 1000000000 ∧ x.f1.length ≤ 1000000000) :
    Ev (fun k => spec_ImageOK.f k R T S D) (imgOK R T S D) := by
  unfold spec_ImageOK.f imgOK
  have hfn := form_near R T S D
  refine ev_bind (spec_form_ev R T S D hR hT hS hD hs) ?_
  cases hform : form R T S D
  · rw [hform, Bool.false_and] at hfn
    rw [← hfn]
    refine ev_neg (by decide) (Ev.succ ?_)
    simp only [spec_ImageOK.j0, if_true, Bool.false_and]; exact ev_some _
  · rw [hform, Bool.true_and] at hfn
    refine ev_pos rfl (ev_bind (spec_twice_ev T hT) (Ev.succ ?_))
    have hform' := hform
    unfold form at hform'
    simp only [Bool.and_eq_true, decide_eq_true_eq, beq_iff_eq] at hform'
    obtain ⟨f1, f2, f3, f4, f5, f6⟩ := hform'
    have hR24 := refs_len f1
    have ht : ∀ t ∈ tabs T S, tableOK t = true := by
      intro t ht
      simp only [tabs, List.mem_cons, List.mem_map] at ht
      rcases ht with rfl | ⟨x, hx, rfl⟩
      · exact f2
      · obtain ⟨i, hi, rfl⟩ := List.getElem_of_mem hx
        have := List.all_eq_true.1 f5 i (List.mem_range.2 hi)
        unfold fAt at this
        rw [rdE_Snap S i hi] at this
        simp only [Bool.and_eq_true] at this
        exact this.2.1
    show Ev (fun k => spec_ImageOK.j0 (k + 1) (!once T) R T S D) _
    simp only [spec_ImageOK.j0]
    cases hoT : once T
    · rw [hoT, Bool.false_and] at hfn
      rw [← hfn, Bool.false_and]
      exact ev_pos rfl (ev_some _)
    · rw [hoT, Bool.true_and] at hfn
      refine ev_neg (by decide) ?_
      have hfin : Ev (fun k => spec_ImageOK.l1 k (counts T S) ((0 : Nat) : Int) R T S D) (decide (R = counts T S) && zeroD R D) := by
        have hcl := counts_length T S
        generalize counts T S = n at hcl
        have h := ev_askE (g := fun k i => spec_ImageOK.l1 k n (i : Int) R T S D) 24 (fun i => decide (rd n (i : Int) = rd R (i : Int)) && (if rd R (i : Int) = 0 then decide (rd D (i : Int) = 0) else true)) true false ?_ ?_
        · have e : (if (List.range 24).all (fun i => decide (rd n (i : Int) = rd R (i : Int)) && (if rd R (i : Int) = 0 then decide (rd D (i : Int) = 0) else true)) = true then true else false) = (decide (R = n) && zeroD R D) := by
            rw [Bool.eq_iff_iff]
            unfold zeroD
            simp only [Bool.if_false_right, Bool.and_true, decide_eq_true_eq, List.all_eq_true, List.mem_range, Bool.and_eq_true]
            constructor
            · intro h
              refine ⟨List.ext_getElem (by omega) (fun i h1 h2 => ?_), fun i hi => (h i hi).2⟩
              have := (h i (by omega)).1
              rw [rdn n i h2, rdn R i h1] at this
              exact this.symm
            · rintro ⟨rfl, h2⟩ i hi
              exact ⟨rfl, h2 i hi⟩
          rw [e] at h; exact h
        · refine Ev.step (f := fun _ => some true) (fun k => ?_) (ev_some _)
          simp only [spec_ImageOK.l1]; rw [if_neg (by decide)]
        · intro i hi b hb
          refine Ev.succ ?_
          simp only [spec_ImageOK.l1]
          refine ev_pos (by omega) (ev_pos (by omega) (ev_pos (by omega) (ev_pos (by omega) ?_)))
          rw [wnext i (by omega)]
          by_cases c : rd n (i : Int) = rd R (i : Int)
          · rw [c]
            refine ev_pos rfl ?_
            by_cases c2 : rd R (i : Int) = 0
            · refine ev_pos c2 (ev_pos (by omega) ?_)
              by_cases c3 : rd D (i : Int) = 0
              · simp only [c2, c3]; simpa using hb
              · simp only [c2, c3]; simpa using ev_some false
            · simp only [c2]; simpa using hb
          · simp only [c]; simpa using ev_some false
      have hL := ev_askE (g := fun k i => spec_ImageOK.l0 k (i : Int) R T S D) S.length (fun i => once (rd_T45 S (i : Int)).f1) (decide (R = counts T S) && zeroD R D) false ?_ ?_
      · have e : (List.range S.length).all (fun i => once (rd_T45 S (i : Int)).f1) = S.all (fun x => once x.f1) := by
          rw [Bool.eq_iff_iff]
          simp only [List.all_eq_true, List.mem_range]
          constructor
          · intro h x hx
            obtain ⟨i, hi, rfl⟩ := List.getElem_of_mem hx
            have := h i hi
            rwa [rdE_Snap S i hi] at this
          · intro h i hi
            rw [rdE_Snap S i hi]; exact h _ (List.getElem_mem hi)
        rw [e, hfn] at hL
        have e2 : (if near R T S D = true then (decide (R = counts T S) && zeroD R D) else false) = (near R T S D && (decide (R = counts T S) && zeroD R D)) := by cases near R T S D <;> simp
        rw [e2] at hL
        exact hL
      · refine Ev.step (f := fun k => (spec_l10Count.f k R T S D).bind fun t => spec_ImageOK.l1 k t 0 R T S D) (fun k => ?_) (ev_bind (spec_count_ev R T S D (by omega) ht) hfin)
        simp only [spec_ImageOK.l0]; rw [if_neg (by omega)]
      · intro i hi b hb
        refine Ev.succ ?_
        simp only [spec_ImageOK.l0]
        refine ev_pos (by omega) (ev_pos (by omega) (ev_bind (spec_twice_ev _ (by rw [rdE_Snap S i hi]; exact (hs _ (List.getElem_mem hi)).2)) ?_))
        show Ev (fun k => if (!once (rd_T45 S (i : Int)).f1) = true then some false else spec_ImageOK.l0 k (wrap64 ((i : Int) + 1)) R T S D) _
        rw [wnext i (by omega)]
        cases once (rd_T45 S (i : Int)).f1
        · exact ev_pos rfl (ev_some _)
        · exact ev_neg (by decide) hb
theorem equal_ev (a b : List Int) (ha : a.length = 24) (hb : b.length = 24) : Ev (fun k => slices_Equal_int_int.f k a b) (decide (a = b)) := by
  unfold slices_Equal_int_int.f
  refine ev_pos (by omega) ?_
  have h := ev_askE (g := fun k i => slices_Equal_int_int.l0 k a b (a.length : Int) (i : Int)) 24 (fun i => decide (rd a (i : Int) = rd b (i : Int))) true false ?_ ?_
  · have e : (if (List.range 24).all (fun i => decide (rd a (i : Int) = rd b (i : Int))) = true then true else false) = decide (a = b) := by
      rw [Bool.eq_iff_iff]
      simp only [Bool.if_false_right, Bool.and_true, decide_eq_true_eq, List.all_eq_true, List.mem_range]
      constructor
      · intro h
        refine List.ext_getElem (by omega) (fun i h1 h2 => ?_)
        have := h i (by omega)
        rwa [rdn a i h1, rdn b i h2] at this
      · rintro rfl i hi; rfl
    rw [e] at h; exact h
  · refine Ev.step (f := fun _ => some true) (fun k => ?_) (ev_some _)
    simp only [slices_Equal_int_int.l0]; rw [if_neg (by omega)]
  · intro i hi r hr
    refine Ev.succ ?_
    simp only [slices_Equal_int_int.l0]
    refine ev_pos (by omega) (ev_pos (by omega) (ev_pos (by omega) (ev_pos (by omega) ?_)))
    rw [wnext i (by omega)]
    by_cases c : rd a (i : Int) = rd b (i : Int)
    · simp only [c]; simpa using hr
    · simp only [c]; simpa using ev_some false
theorem impl_ImageOK_ev (R T : List Int) (S : List S45) (D : List Int) (hT : T.length ≤ 1000000000) (hS : S.length ≤ 1000000000) (hs : ∀ x ∈ S, x.f0.size ≤ 1000000000 ∧ x.f1.length ≤ 1000000000) :
    Ev (fun k => impl_ImageOK.f k R T S D) (imgOK R T S D) := by
  unfold impl_ImageOK.f imgOK
  refine ev_bind (impl_near_ev R T S D hT hS hs) ?_
  cases hn : near R T S D
  · refine ev_neg (by decide) (Ev.succ ?_)
    simp only [impl_ImageOK.j0, if_true, Bool.false_and]; exact ev_some _
  · obtain ⟨n1, n2, n3, n4⟩ := near_tabs hn
    refine ev_pos rfl (ev_bind (impl_count_ev R T S D n2 n3) (ev_bind (equal_ev R _ n1 (counts_length T S)) (Ev.succ ?_)))
    show Ev (fun k => impl_ImageOK.j0 (k + 1) (!decide (R = counts T S)) R T S D) _
    simp only [impl_ImageOK.j0, Bool.true_and]
    cases decide (R = counts T S)
    · exact ev_pos rfl (ev_some _)
    · refine ev_neg (by decide) ?_
      rw [Bool.true_and]
      have h := ev_askE (g := fun k i => impl_ImageOK.l0 k D (D.length : Int) (i : Int) R T S D) 24 (fun i => if rd R (i : Int) = 0 then decide (rd D (i : Int) = 0) else true) true false ?_ ?_
      · have e : (if (List.range 24).all (fun i => if rd R (i : Int) = 0 then decide (rd D (i : Int) = 0) else true) = true then true else false) = zeroD R D := by
          unfold zeroD
          cases (List.range 24).all (fun i => if rd R (i : Int) = 0 then decide (rd D (i : Int) = 0) else true) <;> rfl
        rw [e] at h; exact h
      · refine Ev.step (f := fun _ => some true) (fun k => ?_) (ev_some _)
        simp only [impl_ImageOK.l0]; rw [if_neg (by omega)]
      · intro i hi b hb
        refine Ev.succ ?_
        simp only [impl_ImageOK.l0]
        refine ev_pos (by omega) (ev_pos (by omega) (ev_pos (by omega) (ev_pos (by omega) ?_)))
        rw [wnext i (by omega)]
        by_cases c2 : rd R (i : Int) = 0
        · by_cases c3 : rd D (i : Int) = 0
          · simp only [c2, c3]; simpa using hb
          · simp only [c2, c3]; simpa using ev_some false
        · simp only [c2]; simpa using hb
/-- An image that came in, copied; what its size tells of it. -/
structure Fits (R T : List Int) (S : List S59) (D : List Int) : Prop where
  hR : R.length ≤ 1048576
  hT : T.length ≤ 1048576
  hS : S.length ≤ 1048576
  hD : D.length ≤ 1048576
  hs : ∀ x ∈ S, x.f0.size ≤ 1048576 ∧ x.f1.length ≤ 1048576
theorem szImage_ev (R T : List Int) (S : List S59) (D : List Int) (hR : R.length ≤ maxLen) (hT : T.length ≤ maxLen) (hS : S.length ≤ maxLen) (hD : D.length ≤ maxLen) (hs : ∀ x ∈ S, x.f0.size ≤ maxLen ∧ x.f1.length ≤ maxLen) :
    ∃ s, Ev (fun k => laws_szImage.f k R T S D 1048576) s ∧ (s < 0 ∨ (0 ≤ s ∧ Fits R T S D)) := by
  unfold laws_szImage.f
  have hM : maxLen = 9223372036854775807 := rfl
  simp only [szIntS_eq R hR 1048576 (by omega) (by omega), Option.bind_some]
  by_cases c : (1048576 : Int) - (R.length : Int) < 0
  · rw [if_pos c]; exact ⟨-1, ev_pos (by omega) (ev_some _), Or.inl (by omega)⟩
  · rw [if_neg c]
    generalize ha : (1048576 : Int) - (R.length : Int) = a at c
    simp only [szIntS_eq T hT a (by omega) (by omega), Option.bind_some]
    by_cases c2 : a - (T.length : Int) < 0
    · rw [if_pos c2]; exact ⟨-1, ev_neg (by omega) (ev_pos (by omega) (ev_some _)), Or.inl (by omega)⟩
    · rw [if_neg c2]
      generalize hb : a - (T.length : Int) = b at c2
      obtain ⟨s, h1, h2⟩ := szSnapS_ev S hs hS b (by omega) (by omega)
      by_cases hs0 : s < 0
      · exact ⟨-1, ev_neg (by omega) (ev_neg (by omega) (ev_bind h1 (ev_pos hs0 (ev_some _)))), Or.inl (by omega)⟩
      · rcases h2 with h2 | ⟨b1, b2, b3, b4⟩
        · exact absurd h2 hs0
        · have hz := szIntS_eq D hD s (by omega) (by omega)
          by_cases c4 : s - (D.length : Int) < 0
          · refine ⟨-1, ev_neg (by omega) (ev_neg (by omega) (ev_bind h1 (ev_neg hs0 (ev_bind (ev_of_eq fun _ => hz) ?_)))), Or.inl (by omega)⟩
            rw [if_pos c4]; exact ev_pos (by omega) (ev_some _)
          · refine ⟨s - (D.length : Int), ev_neg (by omega) (ev_neg (by omega) (ev_bind h1 (ev_neg hs0 (ev_bind (ev_of_eq fun _ => hz) ?_)))), Or.inr ⟨by omega, by omega, by omega, by omega, by omega, fun x hx => by have := b4 x hx; omega⟩⟩
            rw [if_neg c4]; exact ev_neg c4 (ev_some _)
theorem toImage_ev (R T : List Int) (S : List S59) (D : List Int) (h : Fits R T S D) : Ev (fun k => laws_toImage.f k R T S D) (R, T, S.map cvSnap, D) := by
  unfold laws_toImage.f
  exact ev_bind (toIntS_ev R h.hR) (ev_bind (toIntS_ev T h.hT) (ev_bind (toSnapS_ev S h.hS (fun x hx => (h.hs x hx).2)) (ev_bind (toIntS_ev D h.hD) (ev_some _))))
theorem eqImage_ev (R T : List Int) (S : List S59) (D : List Int) (h : Fits R T S D) : Ev (fun k => laws_eqImage.f k R T (S.map cvSnap) D R T (S.map cvSnap) D) true := by
  have := h.hR; have := h.hT; have := h.hD; have hS := h.hS
  unfold laws_eqImage.f
  refine ev_bind (eqIntS_ev R (by omega)) (ev_pos rfl (ev_bind (eqIntS_ev T (by omega)) (ev_pos rfl (ev_bind (eqSnapS_ev (S.map cvSnap) (by rw [List.length_map]; omega) (fun x hx => ?_)) (ev_pos rfl (ev_bind (eqIntS_ev D (by omega)) (ev_pos rfl (ev_some _))))))))
  obtain ⟨y, hy, rfl⟩ := List.mem_map.1 hx
  have := (h.hs y hy).2
  show y.f1.length ≤ _
  omega
theorem cv_fits {S : List S59} (h : ∀ x ∈ S, x.f0.size ≤ 1048576 ∧ x.f1.length ≤ 1048576) : ∀ x : S45, x ∈ S.map cvSnap → x.f0.size ≤ 1000000000 ∧ x.f1.length ≤ 1000000000 := by
  intro x hx
  obtain ⟨y, hy, rfl⟩ := List.mem_map.1 hx
  have := h y hy
  show y.f0.size ≤ _ ∧ y.f1.length ≤ _
  omega
/-! ### MarkI -/
theorem markIntS_ev (l : List Int) (a : Int) (ha : 0 ≤ a) (hl : l.length + a ≤ 1000000000000000) : Ev (fun k => laws_markIntS.f k l a) (a + (l.length : Int), countUp a l.length) := by
  unfold laws_markIntS.f
  have hc := countUp_length a l.length
  have h := ev_loop (g := fun k i => laws_markIntS.l0 k ((countUp a l.length).take i ++ l.drop i) (a + (i : Int)) (i : Int)) (r := (a + (l.length : Int), countUp a l.length)) l.length ?_ ?_ l.length 0 (by omega) (by omega)
  · simpa using h
  · refine Ev.step (f := fun _ => some (a + (l.length : Int), countUp a l.length)) (fun k => ?_) (ev_some _)
    simp only [laws_markIntS.l0]
    rw [if_neg (by simp; omega), List.drop_of_length_le (by omega), List.take_of_length_le (by omega)]; simp
  · intro i hi
    refine ⟨1, fun k => ⟨?_, by omega⟩⟩
    simp only [laws_markIntS.l0]
    have hlen : ((countUp a l.length).take i ++ l.drop i).length = l.length := by simp [hc]; omega
    rw [if_pos (by rw [hlen]; omega), if_pos (by omega), Int.toNat_natCast, set_mid l _ hc i hi _ (countUp_get a l.length i hi), wnext i (by omega), w64 (by omega) (by omega)]
    rw [show a + (i : Int) + 1 = a + ((i + 1 : Nat) : Int) by omega]
theorem heldIntS_ev (n : Nat) (a : Int) (ha : 0 ≤ a) (hl : n + a ≤ 1000000000000000) : Ev (fun k => laws_heldIntS.f k (countUp a n) a) (a + (n : Int)) := by
  unfold laws_heldIntS.f
  have hc := countUp_length a n
  have h := ev_loop (g := fun k i => laws_heldIntS.l0 k (countUp a n) (a + (i : Int)) (i : Int)) (r := a + (n : Int)) n ?_ ?_ n 0 (by omega) (by omega)
  · simpa using h
  · refine Ev.step (f := fun _ => some (a + (n : Int))) (fun k => ?_) (ev_some _)
    simp only [laws_heldIntS.l0]
    rw [if_neg (by omega)]
  · intro i hi
    refine ⟨1, fun k => ⟨?_, by omega⟩⟩
    simp only [laws_heldIntS.l0]
    rw [if_pos (by omega), if_pos (by omega), rdn _ i (by omega), countUp_get a n i hi, if_pos rfl, wnext i (by omega), w64 (by omega) (by omega)]
    rw [show a + (i : Int) + 1 = a + ((i + 1 : Nat) : Int) by omega]
/-! ### ImgMark -/
theorem markSnapS_from : ∀ d (y : List S45) (i : Nat) (b : Int), (∀ x ∈ y, x.f1.length ≤ 1048576) → y.length ≤ 1048576 → i ≤ y.length → y.length - i = d → 0 ≤ b → b + 1048577 * (d : Int) ≤ 10000000000000 → ∃ r, Ev (fun k => laws_markSnapS.l0 k y b (i : Int)) r ∧ 0 ≤ r.1 ∧ r.1 ≤ b + 1048577 * (d : Int) := by
  intro d
  induction d with
  | zero =>
    intro y i b hs hl hi hd h0 hb
    refine ⟨(b, y), Ev.step (f := fun _ => some (b, y)) (fun k => ?_) (ev_some _), h0, by show b ≤ _; omega⟩
    simp only [laws_markSnapS.l0]; rw [if_neg (by omega)]
  | succ d ih =>
    intro y i b hs hl hi hd h0 hb
    have hlt : i < y.length := by omega
    have hL := hs _ (List.getElem_mem hlt)
    have ht := mText_ev b (by omega)
    have e1 : rd_T45 (y.set i (⟨mText b, (rd_T45 y (i : Int)).f1⟩ : S45)) (i : Int) = ⟨mText b, y[i].f1⟩ := by
      rw [rdE_Snap _ i (by simpa using hlt), List.getElem_set_self, rdE_Snap y i hlt]
    have hm := markIntS_ev y[i].f1 (b + 1) (by omega) (by omega)
    obtain ⟨r, h1, h2, h3⟩ := ih ((y.set i (⟨mText b, (rd_T45 y (i : Int)).f1⟩ : S45)).set i (⟨mText b, countUp (b + 1) y[i].f1.length⟩ : S45)) (i + 1) (b + 1 + (y[i].f1.length : Int)) (by
      intro x hx
      rcases List.mem_or_eq_of_mem_set hx with hx | rfl
      · rcases List.mem_or_eq_of_mem_set hx with hx | rfl
        · exact hs x hx
        · show (rd_T45 y (i : Int)).f1.length ≤ _
          rw [rdE_Snap y i hlt]; exact hL
      · show (countUp _ _).length ≤ _
        rw [countUp_length]; exact hL) (by simpa using hl) (by simp; omega) (by simp; omega) (by omega) (by omega)
    refine ⟨r, Ev.succ ?_, h2, by omega⟩
    simp only [laws_markSnapS.l0]
    refine ev_pos (by omega) (ev_pos (by omega) (ev_bind ht ?_))
    rw [Int.toNat_natCast, e1, w64 (n := b + 1) (by omega) (by omega), wnext i (by omega)]
    exact ev_bind hm h1
theorem markImage_ev (R T : List Int) (S : List S45) (D : List Int) (hR : R.length ≤ 1048576) (hT : T.length ≤ 1048576) (hS : S.length ≤ 1048576) (hD : D.length ≤ 1048576) (hs : ∀ x ∈ S, x.f1.length ≤ 1048576) : ∃ r, Ev (fun k => laws_markImage.f k R T S D 1) r ∧ 0 ≤ r := by
  unfold laws_markImage.f
  obtain ⟨r, h1, h2, h3⟩ := markSnapS_from S.length S 0 (1 + (R.length : Int) + (T.length : Int)) hs hS (by omega) (by omega) (by omega) (by omega)
  exact ⟨_, ev_bind (markIntS_ev R 1 (by omega) (by omega)) (ev_bind (markIntS_ev T _ (by omega) (by omega)) (ev_bind (by unfold laws_markSnapS.f; exact h1) (ev_bind (markIntS_ev D r.1 h2 (by omega)) (ev_some _)))), by show 0 ≤ r.1 + _; omega⟩
theorem spec_near_ev (R T : List Int) (S : List S45) (D : List Int) (hR : R.length ≤ 1000000000) (hT : T.length ≤ 1000000000) (hS : S.length ≤ 1000000000) (hD : D.length ≤ 1000000000) (hs : ∀ x ∈ S, x.f0.size ≤ 1000000000 ∧ x.f1.length ≤ 1000000000) :
    Ev (fun k => spec_l12Form.f k R T S D) (near R T S D) := by
  unfold spec_l12Form.f
  have hfn := form_near R T S D
  refine ev_bind (spec_form_ev R T S D hR hT hS hD hs) ?_
  cases hform : form R T S D
  · rw [hform, Bool.false_and] at hfn
    rw [← hfn]
    refine ev_neg (by decide) (Ev.succ ?_)
    simp only [spec_l12Form.j0, if_true]; exact ev_some _
  · rw [hform, Bool.true_and] at hfn
    refine ev_pos rfl (ev_bind (spec_twice_ev T hT) (Ev.succ ?_))
    show Ev (fun k => spec_l12Form.j0 (k + 1) (!once T) R T S D) _
    simp only [spec_l12Form.j0]
    cases hoT : once T
    · rw [hoT, Bool.false_and] at hfn
      rw [← hfn]
      exact ev_pos rfl (ev_some _)
    · rw [hoT, Bool.true_and] at hfn
      refine ev_neg (by decide) ?_
      have hL := ev_askE (g := fun k i => spec_l12Form.l0 k (i : Int) R T S D) S.length (fun i => once (rd_T45 S (i : Int)).f1) true false ?_ ?_
      · have e : (List.range S.length).all (fun i => once (rd_T45 S (i : Int)).f1) = S.all (fun x => once x.f1) := by
          rw [Bool.eq_iff_iff]
          simp only [List.all_eq_true, List.mem_range]
          constructor
          · intro h x hx
            obtain ⟨i, hi, rfl⟩ := List.getElem_of_mem hx
            have := h i hi
            rwa [rdE_Snap S i hi] at this
          · intro h i hi
            rw [rdE_Snap S i hi]; exact h _ (List.getElem_mem hi)
        rw [e, hfn] at hL
        have e2 : (if near R T S D = true then true else false) = near R T S D := by cases near R T S D <;> rfl
        rw [e2] at hL
        exact hL
      · refine Ev.step (f := fun _ => some true) (fun k => ?_) (ev_some _)
        simp only [spec_l12Form.l0]; rw [if_neg (by omega)]
      · intro i hi b hb
        refine Ev.succ ?_
        simp only [spec_l12Form.l0]
        refine ev_pos (by omega) (ev_pos (by omega) (ev_bind (spec_twice_ev _ (by rw [rdE_Snap S i hi]; exact (hs _ (List.getElem_mem hi)).2)) ?_))
        show Ev (fun k => if (!once (rd_T45 S (i : Int)).f1) = true then some false else spec_l12Form.l0 k (wrap64 ((i : Int) + 1)) R T S D) _
        rw [wnext i (by omega)]
        cases once (rd_T45 S (i : Int)).f1
        · exact ev_pos rfl (ev_some _)
        · exact ev_neg (by decide) hb
/-- The numbers below n of which something holds. -/
def sel (P : Nat → Bool) (n : Nat) : List Int := ((List.range n).filter P).map (fun i : Nat => (i : Int))
theorem sel_succ (P : Nat → Bool) (n : Nat) : sel P (n + 1) = if P n = true then sel P n ++ [(n : Int)] else sel P n := by
  unfold sel
  rw [List.range_succ, List.filter_append, List.map_append]
  cases h : P n <;> simp [h]
theorem sel_length (P : Nat → Bool) (n : Nat) : (sel P n).length ≤ n := by
  unfold sel; rw [List.length_map]
  exact Nat.le_trans (List.length_filter_le _ _) (by simp)
end Go.Proofs.Ytdbcojeblkiidaa.Q
