/- What laws.FnExactJournalPlan reaches, part 6: the functions as Lean functions, the proofs that the program's functions answer so, and plain laws about them. -/
import Derived.Test.YthlbjmgoibnopaaKFnExactJournalPlan1
import Derived.Test.YthlbjmgoibnopaaKFnExactJournalPlan2
import Derived.Test.YthlbjmgoibnopaaKFnExactJournalPlan3
import Derived.Test.YthlbjmgoibnopaaKFnExactJournalPlan4
import Derived.Test.YthlbjmgoibnopaaKFnExactJournalPlan5
namespace Go.Proofs.Ythlbjmgoibnopaa.Q
open Go.RowKit Go.Proofs.Ythlbjmgoibnopaa.Ext Go.Proofs.YthlbjmgoibnopaaW.PrintWords Go.Proofs.YthlbjmgoibnopaaW.PrintLast Go.Proofs.YthlbjmgoibnopaaW.PrintMore
attribute [local go_sem] max2_int min2_int max_two min_two max_three min_three max_four min_four   -- for this text's walks alone
set_option linter.unusedVariables false
set_option linter.unusedSimpArgs false

set_option linter.unusedVariables false
set_option linter.unusedSimpArgs false
/-! ### impl_EncodeUpdate: function 22 -/
def impl_EncodeUpdate.f (k : Nat) (a0_0 : Int) (a0_1 : ByteArray) : Option (ByteArray × Int) := (impl_updateOK.f a0_0 a0_1).bind fun t365 => (if t365 = true then ((impl_Update_text.f k a0_0 a0_1).bind fun t366 => (some (t366, 0))) else (some ((⟨#[]⟩ : ByteArray), 1)))
theorem impl_EncodeUpdate.mono : ∀ a0 a1 k, LeO (impl_EncodeUpdate.f k a0 a1) (impl_EncodeUpdate.f (k + 1) a0 a1) := by
  intro a0 a1 k
  unfold impl_EncodeUpdate.f
  repeat' first
      | (with_reducible exact impl_Update_text.mono _ _ _)
      | (with_reducible exact LeO.refl _)
      | (with_reducible exact LeO.none _)
      | (with_reducible refine LeO.ite ?_ ?_)
      | (with_reducible refine LeO.bind ?_ (fun _ => ?_))
      | exact impl_Update_text.mono _ _ _
      | exact LeO.none _
      | refine LeO.ite ?_ ?_
      | refine LeO.bind ?_ (fun _ => ?_)
set_option maxHeartbeats 8000000 in
set_option maxRecDepth 100000 in
theorem impl_EncodeUpdate.calls (k : Nat) (a0_0 : Int) (a0_1 : ByteArray) (r1 : ByteArray) (r2 : Int) (w : World) (h : impl_EncodeUpdate.f k a0_0 a0_1 = some (r1, r2)) :
    Calls Try.prog 22 #[.agg #[.int .i64 a0_0, .string a0_1]] w fun e w' => e = .returned (.tuple #[.string r1, .int .i64 r2]) ∧ Below w.heap.size w w' := by
  have hu23 := Try.underlying23
  have HB := Aside0.mk (Below.refl w.heap.size w)
  have H : ((impl_updateOK.f a0_0 a0_1).bind fun t365 => (if t365 = true then ((impl_Update_text.f k a0_0 a0_1).bind fun t366 => (some (t366, 0))) else (some ((⟨#[]⟩ : ByteArray), 1)))) = some (r1, r2) := h
  clear h
  replace H := Option.bind_eq_some_iff.mp H
  obtain ⟨t365, A20, H⟩ := H
  replace H : (if t365 = true then ((impl_Update_text.f k a0_0 a0_1).bind fun t366 => (some (t366, 0))) else (some ((⟨#[]⟩ : ByteArray), 1))) = some (r1, r2) := H
  have A2 := Aside0.mk A20
  clear A20
  by_cases c3 : t365 = true
  · subst c3
    have H1 : ((impl_Update_text.f k a0_0 a0_1).bind fun t366 => (some (t366, 0))) = some (r1, r2) := by rw [if_pos rfl] at H; exact H
    clear H
    have H := H1
    clear H1
    replace H := Option.bind_eq_some_iff.mp H
    obtain ⟨t366, A40, H⟩ := H
    replace H : (some (t366, 0)) = some (r1, r2) := H
    have A4 := Aside0.mk A40
    clear A40
    simp only [Option.some.injEq, Prod.mk.injEq] at H
    obtain ⟨rfl, rfl⟩ := H
    go_enter Try.func22, Try.ntmps22
    go_wp2_with (first | ((with_reducible refine gate_dst (N := 1) rfl ?_); refine box_event ?hg (N := 1) ?hd (cs := #[.int .i64 a0_0, .string a0_1]) (t := 23) ?hr ?_; (case hd => rfl); (case hg => rfl); (case hr => first | (go_simp; done) | (go_simp; rfl)); intro gb364 hg w5 hbox hb; have n0_ := Aside0.mk (below_step (by repeat (first | (with_reducible first | exact HB.out | apply below_alloc | apply pw_below_drewN | apply below_drew1) | exact HB.out)) hb); have n1_ := Aside0.mk (hbox); have n2_ := Aside0.mk ((by rw [hg]; exact (below_size (by repeat (first | (with_reducible first | exact HB.out | apply below_alloc | apply pw_below_drewN | apply below_drew1) | exact HB.out))) : w.heap.size ≤ gb364)); have n3_ := Aside0.mk ((by rw [hg]; exact (below_size (by repeat (first | (with_reducible first | exact HB.out | apply below_alloc | apply pw_below_drewN | apply below_drew1) | exact HB.out))) : w.heap.size ≤ gb364)); clear HB; have HB := n0_; have BK364 := n1_; have GW364 := n2_; have GE364 := n3_; clear n0_ n1_ n2_ n3_; clear hb hbox hg; have hcz6_0 : w5.cell? ⟨gb364, 0, none⟩ = some (.int .i64 a0_0) := (blk_cell BK364.out 0).trans rfl; have hcz6_1 : w5.cell? ⟨gb364, 1, none⟩ = some (.string a0_1) := (blk_cell BK364.out 1).trans rfl; have hfz6_0 := blk_frozen BK364.out 0; have hfz6_1 := blk_frozen BK364.out 1) | ((with_reducible refine gate_callee (f := 89) rfl ?_); refine goesL_ (some 5) rfl rfl Try.func89 (by kernel_rfl) rfl #[.agg #[.int .i64 a0_0, .string a0_1]] rfl (by (try simp only [List.map_toArray, List.map_cons, List.map_nil]); first | done | rfl | (simp only [List.length_drop, List.length_take]; rfl)) ?_; (with_reducible refine (impl_updateOK.calls a0_0 a0_1 true _ A2.out).mono ?_); rintro e w7 ⟨rfl, hb⟩; refine ⟨_, rfl, ?_⟩; have n0_ := Aside0.mk (blk_below (g := gb364) (o := .cells #[.int .i64 a0_0, .string a0_1] 23 (0, 0)) (by (with_reducible repeat (first | refine blk_drewN ?_ _ | refine blk_drew ?_ | refine blk_alloc ?_ _)); exact BK364.out) hb); have n1_ := Aside0.mk (below_step (by repeat (first | (with_reducible first | exact HB.out | apply below_alloc | apply pw_below_drewN | apply below_drew1 | refine below_set ?_ GE364.out) | exact HB.out)) hb); clear BK364; clear HB; have BK364 := n0_; have HB := n1_; clear n0_ n1_; (try clear hb); (try clear hb2); (try clear hk); (try clear hi); have hcz8_0 : w7.cell? ⟨gb364, 0, none⟩ = some (.int .i64 a0_0) := (blk_cell BK364.out 0).trans rfl; have hcz8_1 : w7.cell? ⟨gb364, 1, none⟩ = some (.string a0_1) := (blk_cell BK364.out 1).trans rfl; have hfz8_0 := blk_frozen BK364.out 0; have hfz8_1 := blk_frozen BK364.out 1) | ((with_reducible refine gate_callee (f := 90) rfl ?_); refine goesL_ (some 8) rfl rfl Try.func90 (by kernel_rfl) rfl #[.agg #[.int .i64 a0_0, .string a0_1]] rfl (by (try simp only [List.map_toArray, List.map_cons, List.map_nil]); first | done | rfl | (simp only [List.length_drop, List.length_take]; rfl)) ?_; (with_reducible refine (impl_Update_text.calls k a0_0 a0_1 t366 _ A4.out).mono ?_); rintro e w9 ⟨rfl, hb⟩; refine ⟨_, rfl, ?_⟩; have n0_ := Aside0.mk (blk_below (g := gb364) (o := .cells #[.int .i64 a0_0, .string a0_1] 23 (0, 0)) (by (with_reducible repeat (first | refine blk_drewN ?_ _ | refine blk_drew ?_ | refine blk_alloc ?_ _)); exact BK364.out) hb); have n1_ := Aside0.mk (below_step (by repeat (first | (with_reducible first | exact HB.out | apply below_alloc | apply pw_below_drewN | apply below_drew1 | refine below_set ?_ GE364.out) | exact HB.out)) hb); clear BK364; clear HB; have BK364 := n0_; have HB := n1_; clear n0_ n1_; (try clear hb); (try clear hb2); (try clear hk); (try clear hi)))
    go_ret2
    exact ⟨by first | rfl | (simp [errW_none, errW_some] <;> rfl) | (simp [*, errW_none, errW_some] <;> rfl), by repeat (first | (with_reducible first | exact HB.out | apply below_alloc | apply pw_below_drewN | apply below_drew1 | refine below_set ?_ GE364.out) | exact HB.out)⟩
  · replace c3 := Bool.eq_false_iff.mpr c3
    subst c3
    have H1 : (some ((⟨#[]⟩ : ByteArray), 1)) = some (r1, r2) := by rw [if_neg (show ¬ (false = true) by decide)] at H; exact H
    clear H
    have H := H1
    clear H1
    simp only [Option.some.injEq, Prod.mk.injEq] at H
    obtain ⟨rfl, rfl⟩ := H
    go_enter Try.func22, Try.ntmps22
    go_wp2_with (first | ((with_reducible refine gate_dst (N := 1) rfl ?_); refine box_event ?hg (N := 1) ?hd (cs := #[.int .i64 a0_0, .string a0_1]) (t := 23) ?hr ?_; (case hd => rfl); (case hg => rfl); (case hr => first | (go_simp; done) | (go_simp; rfl)); intro gb364 hg w10 hbox hb; have n0_ := Aside0.mk (below_step (by repeat (first | (with_reducible first | exact HB.out | apply below_alloc | apply pw_below_drewN | apply below_drew1) | exact HB.out)) hb); have n1_ := Aside0.mk (hbox); have n2_ := Aside0.mk ((by rw [hg]; exact (below_size (by repeat (first | (with_reducible first | exact HB.out | apply below_alloc | apply pw_below_drewN | apply below_drew1) | exact HB.out))) : w.heap.size ≤ gb364)); have n3_ := Aside0.mk ((by rw [hg]; exact (below_size (by repeat (first | (with_reducible first | exact HB.out | apply below_alloc | apply pw_below_drewN | apply below_drew1) | exact HB.out))) : w.heap.size ≤ gb364)); clear HB; have HB := n0_; have BK364 := n1_; have GW364 := n2_; have GE364 := n3_; clear n0_ n1_ n2_ n3_; clear hb hbox hg; have hcz11_0 : w10.cell? ⟨gb364, 0, none⟩ = some (.int .i64 a0_0) := (blk_cell BK364.out 0).trans rfl; have hcz11_1 : w10.cell? ⟨gb364, 1, none⟩ = some (.string a0_1) := (blk_cell BK364.out 1).trans rfl; have hfz11_0 := blk_frozen BK364.out 0; have hfz11_1 := blk_frozen BK364.out 1) | ((with_reducible refine gate_callee (f := 89) rfl ?_); refine goesL_ (some 5) rfl rfl Try.func89 (by kernel_rfl) rfl #[.agg #[.int .i64 a0_0, .string a0_1]] rfl (by (try simp only [List.map_toArray, List.map_cons, List.map_nil]); first | done | rfl | (simp only [List.length_drop, List.length_take]; rfl)) ?_; (with_reducible refine (impl_updateOK.calls a0_0 a0_1 false _ A2.out).mono ?_); rintro e w12 ⟨rfl, hb⟩; refine ⟨_, rfl, ?_⟩; have n0_ := Aside0.mk (blk_below (g := gb364) (o := .cells #[.int .i64 a0_0, .string a0_1] 23 (0, 0)) (by (with_reducible repeat (first | refine blk_drewN ?_ _ | refine blk_drew ?_ | refine blk_alloc ?_ _)); exact BK364.out) hb); have n1_ := Aside0.mk (below_step (by repeat (first | (with_reducible first | exact HB.out | apply below_alloc | apply pw_below_drewN | apply below_drew1 | refine below_set ?_ GE364.out) | exact HB.out)) hb); clear BK364; clear HB; have BK364 := n0_; have HB := n1_; clear n0_ n1_; (try clear hb); (try clear hb2); (try clear hk); (try clear hi)))
    go_ret2
    exact ⟨by first | rfl | (simp [errW_none, errW_some] <;> rfl) | (simp [*, errW_none, errW_some] <;> rfl), by repeat (first | (with_reducible first | exact HB.out | apply below_alloc | apply pw_below_drewN | apply below_drew1 | refine below_set ?_ GE364.out) | exact HB.out)⟩
/-! ### spec_EncodeUpdate: function 23 -/
def spec_EncodeUpdate.f (k : Nat) (a0_0 : Int) (a0_1 : ByteArray) : Option (ByteArray × Int) := (spec_l07Update.f a0_0 a0_1).bind fun t373 => (if t373 = true then ((spec_l07Encode.f k a0_0 a0_1).bind fun t374 => (some (t374, 0))) else (some ((⟨#[]⟩ : ByteArray), 1)))
theorem spec_EncodeUpdate.mono : ∀ a0 a1 k, LeO (spec_EncodeUpdate.f k a0 a1) (spec_EncodeUpdate.f (k + 1) a0 a1) := by
  intro a0 a1 k
  unfold spec_EncodeUpdate.f
  repeat' first
      | (with_reducible exact spec_l07Encode.mono _ _ _)
      | (with_reducible exact LeO.refl _)
      | (with_reducible exact LeO.none _)
      | (with_reducible refine LeO.ite ?_ ?_)
      | (with_reducible refine LeO.bind ?_ (fun _ => ?_))
      | exact spec_l07Encode.mono _ _ _
      | exact LeO.none _
      | refine LeO.ite ?_ ?_
      | refine LeO.bind ?_ (fun _ => ?_)
set_option maxHeartbeats 8000000 in
set_option maxRecDepth 100000 in
theorem spec_EncodeUpdate.calls (k : Nat) (a0_0 : Int) (a0_1 : ByteArray) (r1 : ByteArray) (r2 : Int) (w : World) (h : spec_EncodeUpdate.f k a0_0 a0_1 = some (r1, r2)) :
    Calls Try.prog 23 #[.agg #[.int .i64 a0_0, .string a0_1]] w fun e w' => e = .returned (.tuple #[.string r1, .int .i64 r2]) ∧ Below w.heap.size w w' := by
  have hu23 := Try.underlying23
  have HB := Aside0.mk (Below.refl w.heap.size w)
  have H : ((spec_l07Update.f a0_0 a0_1).bind fun t373 => (if t373 = true then ((spec_l07Encode.f k a0_0 a0_1).bind fun t374 => (some (t374, 0))) else (some ((⟨#[]⟩ : ByteArray), 1)))) = some (r1, r2) := h
  clear h
  replace H := Option.bind_eq_some_iff.mp H
  obtain ⟨t373, A20, H⟩ := H
  replace H : (if t373 = true then ((spec_l07Encode.f k a0_0 a0_1).bind fun t374 => (some (t374, 0))) else (some ((⟨#[]⟩ : ByteArray), 1))) = some (r1, r2) := H
  have A2 := Aside0.mk A20
  clear A20
  by_cases c3 : t373 = true
  · subst c3
    have H1 : ((spec_l07Encode.f k a0_0 a0_1).bind fun t374 => (some (t374, 0))) = some (r1, r2) := by rw [if_pos rfl] at H; exact H
    clear H
    have H := H1
    clear H1
    replace H := Option.bind_eq_some_iff.mp H
    obtain ⟨t374, A40, H⟩ := H
    replace H : (some (t374, 0)) = some (r1, r2) := H
    have A4 := Aside0.mk A40
    clear A40
    simp only [Option.some.injEq, Prod.mk.injEq] at H
    obtain ⟨rfl, rfl⟩ := H
    go_enter Try.func23, Try.ntmps23
    go_wp2_with (first | ((with_reducible refine gate_dst (N := 1) rfl ?_); refine box_event ?hg (N := 1) ?hd (cs := #[.int .i64 a0_0, .string a0_1]) (t := 23) ?hr ?_; (case hd => rfl); (case hg => rfl); (case hr => first | (go_simp; done) | (go_simp; rfl)); intro gb372 hg w5 hbox hb; have n0_ := Aside0.mk (below_step (by repeat (first | (with_reducible first | exact HB.out | apply below_alloc | apply pw_below_drewN | apply below_drew1) | exact HB.out)) hb); have n1_ := Aside0.mk (hbox); have n2_ := Aside0.mk ((by rw [hg]; exact (below_size (by repeat (first | (with_reducible first | exact HB.out | apply below_alloc | apply pw_below_drewN | apply below_drew1) | exact HB.out))) : w.heap.size ≤ gb372)); have n3_ := Aside0.mk ((by rw [hg]; exact (below_size (by repeat (first | (with_reducible first | exact HB.out | apply below_alloc | apply pw_below_drewN | apply below_drew1) | exact HB.out))) : w.heap.size ≤ gb372)); clear HB; have HB := n0_; have BK372 := n1_; have GW372 := n2_; have GE372 := n3_; clear n0_ n1_ n2_ n3_; clear hb hbox hg; have hcz6_0 : w5.cell? ⟨gb372, 0, none⟩ = some (.int .i64 a0_0) := (blk_cell BK372.out 0).trans rfl; have hcz6_1 : w5.cell? ⟨gb372, 1, none⟩ = some (.string a0_1) := (blk_cell BK372.out 1).trans rfl; have hfz6_0 := blk_frozen BK372.out 0; have hfz6_1 := blk_frozen BK372.out 1) | ((with_reducible refine gate_callee (f := 91) rfl ?_); refine goesL_ (some 5) rfl rfl Try.func91 (by kernel_rfl) rfl #[.agg #[.int .i64 a0_0, .string a0_1]] rfl (by (try simp only [List.map_toArray, List.map_cons, List.map_nil]); first | done | rfl | (simp only [List.length_drop, List.length_take]; rfl)) ?_; (with_reducible refine (spec_l07Update.calls a0_0 a0_1 true _ A2.out).mono ?_); rintro e w7 ⟨rfl, hb⟩; refine ⟨_, rfl, ?_⟩; have n0_ := Aside0.mk (blk_below (g := gb372) (o := .cells #[.int .i64 a0_0, .string a0_1] 23 (0, 0)) (by (with_reducible repeat (first | refine blk_drewN ?_ _ | refine blk_drew ?_ | refine blk_alloc ?_ _)); exact BK372.out) hb); have n1_ := Aside0.mk (below_step (by repeat (first | (with_reducible first | exact HB.out | apply below_alloc | apply pw_below_drewN | apply below_drew1 | refine below_set ?_ GE372.out) | exact HB.out)) hb); clear BK372; clear HB; have BK372 := n0_; have HB := n1_; clear n0_ n1_; (try clear hb); (try clear hb2); (try clear hk); (try clear hi); have hcz8_0 : w7.cell? ⟨gb372, 0, none⟩ = some (.int .i64 a0_0) := (blk_cell BK372.out 0).trans rfl; have hcz8_1 : w7.cell? ⟨gb372, 1, none⟩ = some (.string a0_1) := (blk_cell BK372.out 1).trans rfl; have hfz8_0 := blk_frozen BK372.out 0; have hfz8_1 := blk_frozen BK372.out 1) | ((with_reducible refine gate_callee (f := 92) rfl ?_); refine goesL_ (some 8) rfl rfl Try.func92 (by kernel_rfl) rfl #[.agg #[.int .i64 a0_0, .string a0_1]] rfl (by (try simp only [List.map_toArray, List.map_cons, List.map_nil]); first | done | rfl | (simp only [List.length_drop, List.length_take]; rfl)) ?_; (with_reducible refine (spec_l07Encode.calls k a0_0 a0_1 t374 _ A4.out).mono ?_); rintro e w9 ⟨rfl, hb⟩; refine ⟨_, rfl, ?_⟩; have n0_ := Aside0.mk (blk_below (g := gb372) (o := .cells #[.int .i64 a0_0, .string a0_1] 23 (0, 0)) (by (with_reducible repeat (first | refine blk_drewN ?_ _ | refine blk_drew ?_ | refine blk_alloc ?_ _)); exact BK372.out) hb); have n1_ := Aside0.mk (below_step (by repeat (first | (with_reducible first | exact HB.out | apply below_alloc | apply pw_below_drewN | apply below_drew1 | refine below_set ?_ GE372.out) | exact HB.out)) hb); clear BK372; clear HB; have BK372 := n0_; have HB := n1_; clear n0_ n1_; (try clear hb); (try clear hb2); (try clear hk); (try clear hi)))
    go_ret2
    exact ⟨by first | rfl | (simp [errW_none, errW_some] <;> rfl) | (simp [*, errW_none, errW_some] <;> rfl), by repeat (first | (with_reducible first | exact HB.out | apply below_alloc | apply pw_below_drewN | apply below_drew1 | refine below_set ?_ GE372.out) | exact HB.out)⟩
  · replace c3 := Bool.eq_false_iff.mpr c3
    subst c3
    have H1 : (some ((⟨#[]⟩ : ByteArray), 1)) = some (r1, r2) := by rw [if_neg (show ¬ (false = true) by decide)] at H; exact H
    clear H
    have H := H1
    clear H1
    simp only [Option.some.injEq, Prod.mk.injEq] at H
    obtain ⟨rfl, rfl⟩ := H
    go_enter Try.func23, Try.ntmps23
    go_wp2_with (first | ((with_reducible refine gate_dst (N := 1) rfl ?_); refine box_event ?hg (N := 1) ?hd (cs := #[.int .i64 a0_0, .string a0_1]) (t := 23) ?hr ?_; (case hd => rfl); (case hg => rfl); (case hr => first | (go_simp; done) | (go_simp; rfl)); intro gb372 hg w10 hbox hb; have n0_ := Aside0.mk (below_step (by repeat (first | (with_reducible first | exact HB.out | apply below_alloc | apply pw_below_drewN | apply below_drew1) | exact HB.out)) hb); have n1_ := Aside0.mk (hbox); have n2_ := Aside0.mk ((by rw [hg]; exact (below_size (by repeat (first | (with_reducible first | exact HB.out | apply below_alloc | apply pw_below_drewN | apply below_drew1) | exact HB.out))) : w.heap.size ≤ gb372)); have n3_ := Aside0.mk ((by rw [hg]; exact (below_size (by repeat (first | (with_reducible first | exact HB.out | apply below_alloc | apply pw_below_drewN | apply below_drew1) | exact HB.out))) : w.heap.size ≤ gb372)); clear HB; have HB := n0_; have BK372 := n1_; have GW372 := n2_; have GE372 := n3_; clear n0_ n1_ n2_ n3_; clear hb hbox hg; have hcz11_0 : w10.cell? ⟨gb372, 0, none⟩ = some (.int .i64 a0_0) := (blk_cell BK372.out 0).trans rfl; have hcz11_1 : w10.cell? ⟨gb372, 1, none⟩ = some (.string a0_1) := (blk_cell BK372.out 1).trans rfl; have hfz11_0 := blk_frozen BK372.out 0; have hfz11_1 := blk_frozen BK372.out 1) | ((with_reducible refine gate_callee (f := 91) rfl ?_); refine goesL_ (some 5) rfl rfl Try.func91 (by kernel_rfl) rfl #[.agg #[.int .i64 a0_0, .string a0_1]] rfl (by (try simp only [List.map_toArray, List.map_cons, List.map_nil]); first | done | rfl | (simp only [List.length_drop, List.length_take]; rfl)) ?_; (with_reducible refine (spec_l07Update.calls a0_0 a0_1 false _ A2.out).mono ?_); rintro e w12 ⟨rfl, hb⟩; refine ⟨_, rfl, ?_⟩; have n0_ := Aside0.mk (blk_below (g := gb372) (o := .cells #[.int .i64 a0_0, .string a0_1] 23 (0, 0)) (by (with_reducible repeat (first | refine blk_drewN ?_ _ | refine blk_drew ?_ | refine blk_alloc ?_ _)); exact BK372.out) hb); have n1_ := Aside0.mk (below_step (by repeat (first | (with_reducible first | exact HB.out | apply below_alloc | apply pw_below_drewN | apply below_drew1 | refine below_set ?_ GE372.out) | exact HB.out)) hb); clear BK372; clear HB; have BK372 := n0_; have HB := n1_; clear n0_ n1_; (try clear hb); (try clear hb2); (try clear hk); (try clear hi)))
    go_ret2
    exact ⟨by first | rfl | (simp [errW_none, errW_some] <;> rfl) | (simp [*, errW_none, errW_some] <;> rfl), by repeat (first | (with_reducible first | exact HB.out | apply below_alloc | apply pw_below_drewN | apply below_drew1 | refine below_set ?_ GE372.out) | exact HB.out)⟩
/-! ### Update -/
def updateOK (a : Int) (d : ByteArray) : Bool := inB a 9 38 && decide ((d.size : Int) ≤ 72)
theorem spec_Update_eq (a : Int) (d : ByteArray) : spec_l07Update.f a d = some (updateOK a d) := by
  simp only [spec_l07Update.f, l01In_eq, Option.bind_some]
  exact and_opt rfl
theorem impl_updateOK_eq (a : Int) (d : ByteArray) : impl_updateOK.f a d = some (updateOK a d) := by
  simp only [impl_updateOK.f, within_eq, Option.bind_some]
  exact and_opt rfl
theorem updateOK_size {a : Int} {d : ByteArray} (h : updateOK a d = true) : d.size ≤ 72 := by
  simp [updateOK] at h; omega
theorem spec_l07Encode_ev (a : Int) (d : ByteArray) (h : d.size ≤ 1000000) : Ev (fun k => spec_l07Encode.f k a d) (sealP 8 [a] ++ d) := by
  unfold spec_l07Encode.f
  refine ev_bind (spec_seal_ev 8 _ (by simp)) ?_
  exact ev_pos (by rw [sealP_size]; simp; omega) (ev_some _)
theorem impl_Update_text_ev (a : Int) (d : ByteArray) (h : d.size ≤ 1000000) : Ev (fun k => impl_Update_text.f k a d) (sealP 8 [a] ++ d) := by
  unfold impl_Update_text.f
  refine ev_bind (impl_seal_ev 8 _ (by simp)) ?_
  exact ev_pos (by rw [sealP_size]; simp; omega) (ev_some _)
theorem spec_EncodeUpdate_ev (a : Int) (d : ByteArray) : Ev (fun k => spec_EncodeUpdate.f k a d) (if updateOK a d = true then (sealP 8 [a] ++ d, 0) else ((⟨#[]⟩ : ByteArray), 1)) := by
  unfold spec_EncodeUpdate.f
  simp only [spec_Update_eq, Option.bind_some]
  cases h : updateOK a d
  · exact ev_some _
  · simp only [if_true]
    exact ev_bind (spec_l07Encode_ev a d (by have := updateOK_size h; omega)) (ev_some _)
theorem impl_EncodeUpdate_ev (a : Int) (d : ByteArray) : Ev (fun k => impl_EncodeUpdate.f k a d) (if updateOK a d = true then (sealP 8 [a] ++ d, 0) else ((⟨#[]⟩ : ByteArray), 1)) := by
  unfold impl_EncodeUpdate.f
  simp only [impl_updateOK_eq, Option.bind_some]
  cases h : updateOK a d
  · exact ev_some _
  · simp only [if_true]
    exact ev_bind (impl_Update_text_ev a d (by have := updateOK_size h; omega)) (ev_some _)
/-! ### MarkT -/
theorem ev_down {α : Type} {g : Nat → Nat → Option α} {r : α} (n : Nat) (hend : Ev (fun k => g k n) r) (hstep : ∀ i, i < n → Ev (fun k => g k (i + 1)) r → Ev (fun k => g k i) r) : Ev (fun k => g k 0) r := by
  have : ∀ d i, i ≤ n → n - i = d → Ev (fun k => g k i) r := by
    intro d
    induction d with
    | zero => intro i hi hd; have e : i = n := by omega
              rw [e]; exact hend
    | succ d ih => intro i hi hd; exact hstep i (by omega) (ih (i + 1) (by omega) (by omega))
  exact this n 0 (by omega) (by omega)
theorem markText_from : ∀ (d : Nat) (x : Int) (t : ByteArray), 0 ≤ x → x.toNat ≤ d → (t.size : Int) + x ≤ 1000000000000000 → ∃ r, Ev (fun k => laws_markText.l0 k x t) r := by
  intro d
  induction d with
  | zero =>
    intro x t h0 hd hs
    have e : x = 0 := by omega
    subst e
    refine ⟨(⟨#[109]⟩ : ByteArray) ++ t, Ev.step (f := fun _ => some ((⟨#[109]⟩ : ByteArray) ++ t)) (fun k => ?_) (ev_some _)⟩
    simp only [laws_markText.l0]
    rw [if_neg (by omega), if_pos (by omega)]
  | succ d ih =>
    intro x t h0 hd hs
    by_cases hx : x > 0
    · have hq : Int.tdiv x 10 = x / 10 := Int.tdiv_eq_ediv_of_nonneg h0
      have h1 : 0 ≤ x / 10 := by omega
      have hz : (strOfNums [(wrap64 (48 + (Int.tmod x 10))) % 256]).size = 1 := by rw [strOfNums_size]; rfl
      have hz2 : ((strOfNums [(wrap64 (48 + (Int.tmod x 10))) % 256]) ++ t).size = 1 + t.size := by rw [ba_size_append, hz]
      obtain ⟨r, hr⟩ := ih (x / 10) ((strOfNums [(wrap64 (48 + (Int.tmod x 10))) % 256]) ++ t) h1 (by omega) (by rw [hz2]; omega)
      refine ⟨r, Ev.step (f := fun k => laws_markText.l0 k (x / 10) ((strOfNums [(wrap64 (48 + (Int.tmod x 10))) % 256]) ++ t)) (fun k => ?_) hr⟩
      simp only [laws_markText.l0, Option.bind_some]
      rw [if_pos hx, if_pos (by rw [hz]; omega), hq, w64 (n := x / 10) (by omega) (by omega)]
    · refine ⟨(⟨#[109]⟩ : ByteArray) ++ t, Ev.step (f := fun _ => some ((⟨#[109]⟩ : ByteArray) ++ t)) (fun k => ?_) (ev_some _)⟩
      simp only [laws_markText.l0]
      rw [if_neg hx, if_pos (by omega)]
theorem markText_total (n : Int) (h : n ≤ 100000000000000) : ∃ r, Ev (fun k => laws_markText.f k n) r := by
  unfold laws_markText.f
  by_cases hn : n ≤ 0
  · exact ⟨_, ev_pos hn (ev_some _)⟩
  · obtain ⟨r, hr⟩ := markText_from n.toNat n (⟨#[]⟩ : ByteArray) (by omega) (by omega) (by show ((0 : Nat) : Int) + n ≤ _; omega)
    exact ⟨r, ev_neg hn hr⟩
open Classical in
noncomputable def mText (n : Int) : ByteArray := if h : ∃ r, Ev (fun k => laws_markText.f k n) r then h.choose else ByteArray.empty
theorem mText_ev (n : Int) (h : n ≤ 100000000000000) : Ev (fun k => laws_markText.f k n) (mText n) := by
  have := markText_total n h
  unfold mText
  rw [dif_pos this]; exact this.choose_spec
/-! ### PUpdate -/
theorem rdE_Update (l : List S23) (i : Nat) (h : i < l.length) : rd_T23 l (i : Int) = l[i] := by simp [rd_T23, h]
theorem rdset_Update (l : List S23) (i : Nat) (v : S23) (h : i < l.length) : rd_T23 (l.set i v) (i : Int) = v := by simp [rd_T23, h]
theorem rdP_Update (l : List S124) (i : Nat) (h : i < l.length) : rd_T124 l (i : Int) = l[i] := by simp [rd_T124, h]
theorem szUpdateS_from (l : List S124) (hs : ∀ x ∈ l, x.f1.size ≤ maxLen) (hl : l.length ≤ 1048576) : ∀ d i (x : Int), 0 ≤ x → x ≤ 1048576 → i ≤ l.length → l.length - i = d → ∃ s, Ev (fun k => laws_szUpdateS.l0 k l x (i : Int)) s ∧ (s < 0 ∨ (s ≤ x ∧ 0 ≤ s ∧ ∀ j (h : j < l.length), i ≤ j → ((l[j].f1.size : Nat) : Int) ≤ x)) := by
  intro d
  induction d with
  | zero =>
    intro i x h0 hx hi hd
    refine ⟨x, Ev.step (f := fun _ => some x) (fun k => ?_) (ev_some _), Or.inr ⟨by omega, h0, fun j hj hij => absurd hj (by omega)⟩⟩
    simp only [laws_szUpdateS.l0]; rw [if_neg (by omega)]
  | succ d ih =>
    intro i x h0 hx hi hd
    have hlt : i < l.length := by omega
    have hz := hs l[i] (List.getElem_mem hlt)
    have hM : maxLen = 9223372036854775807 := rfl
    have hz0 : ((l[i].f1.size : Nat) : Int) ≤ 9223372036854775807 := by omega
    by_cases hc : x - ((l[i].f1.size : Nat) : Int) < 0
    · refine ⟨-1, Ev.step (f := fun _ => some (-1)) (fun k => ?_) (ev_some _), Or.inl (by omega)⟩
      simp only [laws_szUpdateS.l0, laws_szUpdate.f]
      rw [if_pos (by omega), if_pos (by omega), rdP_Update l i hlt, w64 (by omega) (by omega), if_pos hc, Option.bind_some, if_pos (by omega)]
    · obtain ⟨s, h1, h2⟩ := ih (i + 1) (x - ((l[i].f1.size : Nat) : Int)) (by omega) (by omega) (by omega) (by omega)
      refine ⟨s, Ev.step (f := fun k => laws_szUpdateS.l0 k l (x - ((l[i].f1.size : Nat) : Int)) ((i + 1 : Nat) : Int)) (fun k => ?_) h1, ?_⟩
      · simp only [laws_szUpdateS.l0, laws_szUpdate.f]
        rw [if_pos (by omega), if_pos (by omega), rdP_Update l i hlt, w64 (by omega) (by omega), if_neg hc, Option.bind_some, if_neg hc, wnext i (by omega)]
      · rcases h2 with h2 | ⟨h2, h3, h4⟩
        · exact Or.inl h2
        · refine Or.inr ⟨by omega, h3, fun j hj hij => ?_⟩
          rcases Nat.eq_or_lt_of_le hij with e | e
          · subst e; omega
          · have := h4 j hj e; omega
theorem szUpdateS_ev (l : List S124) (hs : ∀ x ∈ l, x.f1.size ≤ maxLen) (hm : l.length ≤ maxLen) (a : Int) (h0 : 0 ≤ a) (ha : a ≤ 1048576) : ∃ s, Ev (fun k => laws_szUpdateS.f k l a) s ∧ (s < 0 ∨ (s ≤ a ∧ 0 ≤ s ∧ (l.length : Int) ≤ a ∧ ∀ x ∈ l, ((x.f1.size : Nat) : Int) ≤ a)) := by
  have hM : maxLen = 9223372036854775807 := rfl
  unfold laws_szUpdateS.f
  rw [w64 (n := a - (l.length : Int)) (by omega) (by omega)]
  by_cases hc : a - (l.length : Int) < 0
  · exact ⟨-1, ev_pos hc (ev_some _), Or.inl (by omega)⟩
  · obtain ⟨s, h1, h2⟩ := szUpdateS_from l hs (by omega) l.length 0 (a - (l.length : Int)) (by omega) (by omega) (by omega) (by omega)
    refine ⟨s, ev_neg hc h1, ?_⟩
    rcases h2 with h2 | ⟨h2, h3, h4⟩
    · exact Or.inl h2
    · refine Or.inr ⟨by omega, h3, by omega, fun x hx => ?_⟩
      obtain ⟨j, hj, rfl⟩ := List.getElem_of_mem hx
      have := h4 j hj (by omega); omega
def cvUpdate (x : S124) : S23 := ⟨x.f0, x.f1⟩
theorem toUpdateS_ev (l : List S124) (hl : l.length ≤ 1048576) : Ev (fun k => laws_toUpdateS.f k l) (l.map cvUpdate) := by
  unfold laws_toUpdateS.f
  refine ev_pos (by omega) (ev_pos (by omega) ?_)
  rw [Int.toNat_natCast]
  have hc : (l.map cvUpdate).length = (List.replicate l.length z23).length := by simp
  have h := ev_loop (g := fun k i => laws_toUpdateS.l0 k l ((l.map cvUpdate).take i ++ (List.replicate l.length z23).drop i) (i : Int)) (r := l.map cvUpdate) l.length ?_ ?_ l.length 0 (by omega) (by omega)
  · simpa using h
  · refine Ev.step (f := fun _ => some (l.map cvUpdate)) (fun k => ?_) (ev_some _)
    simp only [laws_toUpdateS.l0]
    rw [if_neg (by omega), List.drop_of_length_le (by simp), List.take_of_length_le (by simp)]; simp
  · intro i hi
    refine ⟨1, fun k => ⟨?_, by omega⟩⟩
    simp only [laws_toUpdateS.l0, laws_toUpdate.f, Option.bind_some]
    have hlen : ((l.map cvUpdate).take i ++ (List.replicate l.length z23).drop i).length = l.length := by simp; omega
    rw [if_pos (by omega), if_pos (by omega), if_pos (by rw [hlen]; omega), rdP_Update l i hi, Int.toNat_natCast, set_mid _ _ hc i (by simpa using hi) _ (by simp [cvUpdate]), wnext i (by omega)]
theorem eqUpdateS_ev (l : List S23) (hl : l.length ≤ 1000000000) : Ev (fun k => laws_eqUpdateS.f k l l) true := by
  unfold laws_eqUpdateS.f
  refine ev_pos rfl ?_
  refine ev_loop (g := fun k i => laws_eqUpdateS.l0 k l l (i : Int)) l.length ?_ ?_ l.length 0 (by omega) (by omega)
  · refine Ev.step (f := fun _ => some true) (fun k => ?_) (ev_some _)
    simp only [laws_eqUpdateS.l0]; rw [if_neg (by omega)]
  · intro i hi
    refine ⟨1, fun k => ⟨?_, by omega⟩⟩
    simp only [laws_eqUpdateS.l0, laws_eqUpdate.f]
    rw [if_pos (by omega), if_pos (by omega), if_pos (by omega), wnext i (by omega)]
    simp only [if_true, Option.bind_some]
noncomputable def mUpdate (n : Int) : S23 := ⟨n, mText (n + 1)⟩
noncomputable def msUpdate (a : Int) (n : Nat) : List S23 := (List.range n).map (fun j : Nat => mUpdate (a + 2 * (j : Int)))
theorem msUpdate_length (a : Int) (n : Nat) : (msUpdate a n).length = n := by simp [msUpdate]
theorem msUpdate_get (a : Int) (n i : Nat) (h : i < n) : (msUpdate a n)[i]'(by rw [msUpdate_length]; exact h) = mUpdate (a + 2 * (i : Int)) := by simp [msUpdate]
theorem markUpdateS_ev (l : List S23) (a : Int) (ha : 0 ≤ a) (hl : l.length + a ≤ 10000000000000) (hl2 : l.length ≤ 1000000000000) : Ev (fun k => laws_markUpdateS.f k l a) (a + 2 * (l.length : Int), msUpdate a l.length) := by
  unfold laws_markUpdateS.f
  have hc := msUpdate_length a l.length
  have h := ev_down (g := fun k i => laws_markUpdateS.l0 k ((msUpdate a l.length).take i ++ l.drop i) (a + 2 * (i : Int)) (i : Int)) (r := (a + 2 * (l.length : Int), msUpdate a l.length)) l.length ?_ ?_
  · simpa using h
  · refine Ev.step (f := fun _ => some (a + 2 * (l.length : Int), msUpdate a l.length)) (fun k => ?_) (ev_some _)
    simp only [laws_markUpdateS.l0]
    rw [if_neg (by simp; omega), List.drop_of_length_le (by omega), List.take_of_length_le (by omega)]; simp
  · intro i hi h
    have hlen : ((msUpdate a l.length).take i ++ l.drop i).length = l.length := by simp [hc]; omega
    refine Ev.step (f := fun k => (laws_markText.f k (a + 2 * (i : Int) + 1)).bind fun t => laws_markUpdateS.l0 k (((msUpdate a l.length).take i ++ l.drop i).set i (⟨a + 2 * (i : Int), t⟩ : S23)) (a + 2 * (i : Int) + 2) ((i + 1 : Nat) : Int)) (fun k => ?_) (ev_bind (mText_ev _ (by omega)) ?_)
    · have w1 : wrap64 (a + 2 * (i : Int) + 1) = a + 2 * (i : Int) + 1 := by rw [w64 (by omega) (by omega)]; try omega
      have w2 : wrap64 (a + 2 * (i : Int) + 1 + 1) = a + 2 * (i : Int) + 2 := by rw [w64 (by omega) (by omega)]; try omega
      simp only [laws_markUpdateS.l0, Option.bind_some, Int.toNat_natCast]
      rw [if_pos (by rw [hlen]; omega)]
      rw [if_pos (by omega)]
      simp only [rdset_Update _ _ _ (show i < _ by rw [hlen]; exact hi), List.set_set, w1, w2, wnext i (by omega)]
    · have ev_ : (⟨a + 2 * (i : Int), mText (a + 2 * (i : Int) + 1)⟩ : S23) = mUpdate (a + 2 * (i : Int)) := rfl
      rw [ev_, set_mid l _ hc i hi _ (msUpdate_get a l.length i hi)]
      rw [show a + 2 * (i : Int) + 2 = a + 2 * ((i + 1 : Nat) : Int) by omega]
      exact h
/-! ### PMove -/
theorem rdE_Move (l : List S132) (i : Nat) (h : i < l.length) : rd_T132 l (i : Int) = l[i] := by simp [rd_T132, h]
theorem rdset_Move (l : List S132) (i : Nat) (v : S132) (h : i < l.length) : rd_T132 (l.set i v) (i : Int) = v := by simp [rd_T132, h]
theorem eqMoveS_ev (l : List S132) (hl : l.length ≤ 1000000000) : Ev (fun k => laws_eqMoveS.f k l l) true := by
  unfold laws_eqMoveS.f
  refine ev_pos rfl ?_
  refine ev_loop (g := fun k i => laws_eqMoveS.l0 k l l (i : Int)) l.length ?_ ?_ l.length 0 (by omega) (by omega)
  · refine Ev.step (f := fun _ => some true) (fun k => ?_) (ev_some _)
    simp only [laws_eqMoveS.l0]; rw [if_neg (by omega)]
  · intro i hi
    refine ⟨1, fun k => ⟨?_, by omega⟩⟩
    simp only [laws_eqMoveS.l0, laws_eqMove.f]
    rw [if_pos (by omega), if_pos (by omega), if_pos (by omega), wnext i (by omega)]
    simp only [if_true, Option.bind_some]
noncomputable def mMove (n : Int) : S132 := ⟨n, n + 1, mText (n + 2)⟩
noncomputable def msMove (a : Int) (n : Nat) : List S132 := (List.range n).map (fun j : Nat => mMove (a + 3 * (j : Int)))
theorem msMove_length (a : Int) (n : Nat) : (msMove a n).length = n := by simp [msMove]
theorem msMove_get (a : Int) (n i : Nat) (h : i < n) : (msMove a n)[i]'(by rw [msMove_length]; exact h) = mMove (a + 3 * (i : Int)) := by simp [msMove]
theorem markMoveS_ev (l : List S132) (a : Int) (ha : 0 ≤ a) (hl : l.length + a ≤ 10000000000000) (hl2 : l.length ≤ 1000000000000) : Ev (fun k => laws_markMoveS.f k l a) (a + 3 * (l.length : Int), msMove a l.length) := by
  unfold laws_markMoveS.f
  have hc := msMove_length a l.length
  have h := ev_down (g := fun k i => laws_markMoveS.l0 k ((msMove a l.length).take i ++ l.drop i) (a + 3 * (i : Int)) (i : Int)) (r := (a + 3 * (l.length : Int), msMove a l.length)) l.length ?_ ?_
  · simpa using h
  · refine Ev.step (f := fun _ => some (a + 3 * (l.length : Int), msMove a l.length)) (fun k => ?_) (ev_some _)
    simp only [laws_markMoveS.l0]
    rw [if_neg (by simp; omega), List.drop_of_length_le (by omega), List.take_of_length_le (by omega)]; simp
  · intro i hi h
    have hlen : ((msMove a l.length).take i ++ l.drop i).length = l.length := by simp [hc]; omega
    refine Ev.step (f := fun k => (laws_markText.f k (a + 3 * (i : Int) + 2)).bind fun t => laws_markMoveS.l0 k (((msMove a l.length).take i ++ l.drop i).set i (⟨a + 3 * (i : Int), a + 3 * (i : Int) + 1, t⟩ : S132)) (a + 3 * (i : Int) + 3) ((i + 1 : Nat) : Int)) (fun k => ?_) (ev_bind (mText_ev _ (by omega)) ?_)
    · have w1 : wrap64 (a + 3 * (i : Int) + 1) = a + 3 * (i : Int) + 1 := by rw [w64 (by omega) (by omega)]; try omega
      have w2 : wrap64 (a + 3 * (i : Int) + 1 + 1) = a + 3 * (i : Int) + 2 := by rw [w64 (by omega) (by omega)]; try omega
      have w3 : wrap64 (a + 3 * (i : Int) + 2 + 1) = a + 3 * (i : Int) + 3 := by rw [w64 (by omega) (by omega)]; try omega
      simp only [laws_markMoveS.l0, Option.bind_some, Int.toNat_natCast]
      rw [if_pos (by rw [hlen]; omega)]
      rw [if_pos (by omega)]
      simp only [rdset_Move _ _ _ (show i < _ by rw [hlen]; exact hi), List.set_set, w1, w2, w3, wnext i (by omega)]
    · have ev_ : (⟨a + 3 * (i : Int), a + 3 * (i : Int) + 1, mText (a + 3 * (i : Int) + 2)⟩ : S132) = mMove (a + 3 * (i : Int)) := rfl
      rw [ev_, set_mid l _ hc i hi _ (msMove_get a l.length i hi)]
      rw [show a + 3 * (i : Int) + 3 = a + 3 * ((i + 1 : Nat) : Int) by omega]
      exact h
theorem heldMoveS_ev (n : Nat) (a : Int) (ha : 0 ≤ a) (hl : n + a ≤ 10000000000000) (hl2 : n ≤ 1000000000000) : Ev (fun k => laws_heldMoveS.f k (msMove a n) a) (a + 3 * (n : Int)) := by
  unfold laws_heldMoveS.f
  have hc := msMove_length a n
  have h := ev_down (g := fun k i => laws_heldMoveS.l0 k (msMove a n) (a + 3 * (i : Int)) (i : Int)) (r := a + 3 * (n : Int)) n ?_ ?_
  · simpa using h
  · refine Ev.step (f := fun _ => some (a + 3 * (n : Int))) (fun k => ?_) (ev_some _)
    simp only [laws_heldMoveS.l0]
    rw [if_neg (by omega)]
  · intro i hi h
    refine Ev.step (f := fun k => if ((rd_T132 (msMove a n) (i : Int)).f0) = a + 3 * (i : Int) then (if ((rd_T132 (msMove a n) (i : Int)).f1) = a + 3 * (i : Int) + 1 then ((laws_markText.f k (a + 3 * (i : Int) + 2)).bind fun t => if ((rd_T132 (msMove a n) (i : Int)).f2).toList = t.toList then (laws_heldMoveS.l0 k (msMove a n) (a + 3 * (i : Int) + 3) ((i + 1 : Nat) : Int)) else (some (-1))) else (some (-1))) else (some (-1))) (fun k => ?_) (ev_pos (by rw [rdE_Move _ i (by omega), msMove_get a n i hi]; rfl) (ev_pos (by rw [rdE_Move _ i (by omega), msMove_get a n i hi]; rfl) (ev_bind (mText_ev _ (by omega)) (ev_pos (by rw [rdE_Move _ i (by omega), msMove_get a n i hi]; rfl) ?_))))
    · have w1 : wrap64 (a + 3 * (i : Int) + 1) = a + 3 * (i : Int) + 1 := by rw [w64 (by omega) (by omega)]; try omega
      have w2 : wrap64 (a + 3 * (i : Int) + 1 + 1) = a + 3 * (i : Int) + 2 := by rw [w64 (by omega) (by omega)]; try omega
      have w3 : wrap64 (a + 3 * (i : Int) + 2 + 1) = a + 3 * (i : Int) + 3 := by rw [w64 (by omega) (by omega)]; try omega
      simp only [laws_heldMoveS.l0]
      rw [if_pos (by omega), if_pos (by omega)]
      simp only [w1, w2, w3, wnext i (by omega)]
    · rw [show a + 3 * (i : Int) + 3 = a + 3 * ((i + 1 : Nat) : Int) by omega]
      exact h
/-! ### Journal -/
def upOK (x : S23) : Bool := updateOK x.f0 x.f1
theorem updates_ev (l : List S23) (hl : l.length ≤ 1000000000) : Ev (fun k => spec_l07Updates.f k l) (if (l.length : Int) > 5 then 6 else if l.all upOK = true then 0 else 1) := by
  unfold spec_l07Updates.f
  by_cases h : (l.length : Int) > 5
  · rw [if_pos h]; exact ev_pos h (ev_some _)
  · rw [if_neg h]; refine ev_neg h ?_
    refine ev_asks (g := fun k i => spec_l07Updates.l0 k l (i : Int)) l upOK 0 1 ?_ ?_
    · refine Ev.step (f := fun _ => some 0) (fun k => ?_) (ev_some _)
      simp only [spec_l07Updates.l0]; rw [if_neg (by omega)]
    · intro i hi k
      simp only [spec_l07Updates.l0]
      rw [if_pos (by omega), if_pos (by omega), rdE_Update l i hi, spec_Update_eq, Option.bind_some, wnext i (by omega)]
      rfl
theorem applied_from (h s : Int) (l : List S23) (hl : l.length ≤ 1000) : ∀ d i (out : List S132), i ≤ l.length → l.length - i = d → out.length ≤ 10000 + i → ∃ r, Ev (fun k => spec_l07Apply.l0 k h s l out (i : Int)) r ∧ Ev (fun k => impl_applied.l0 k h s out l (l.length : Int) (i : Int)) r ∧ r.length = out.length + d + 3 := by
  intro d
  induction d with
  | zero =>
    intro i out hi hd ho
    refine ⟨out ++ [⟨2, 0, (⟨#[]⟩ : ByteArray)⟩, ⟨1, wrap64 (39 + wrap64 (6 * h)), sealP 7 [0, s]⟩, ⟨2, 0, (⟨#[]⟩ : ByteArray)⟩], ?_, ?_, by simp⟩
    · refine Ev.succ ?_
      simp only [spec_l07Apply.l0, spec_l07Head.f, spec_l07Slot.f, Option.bind_some]
      refine ev_neg (by omega) (ev_pos (by omega) (ev_bind (ev_bind (spec_seal_ev 7 _ (by simp)) (ev_some _)) ?_))
      refine ev_pos (by simp; omega) (ev_pos (by simp; omega) ?_)
      simp only [List.append_assoc, List.cons_append, List.nil_append]
      exact ev_some _
    · refine Ev.succ ?_
      simp only [impl_applied.l0, impl_slot.f, Option.bind_some]
      refine ev_neg (by omega) (ev_bind (impl_seal_ev 7 _ (by simp)) (ev_pos (by simp; omega) (ev_some _)))
  | succ d ih =>
    intro i out hi hd ho
    have hlt : i < l.length := by omega
    obtain ⟨r, h1, h2, h3⟩ := ih (i + 1) (out ++ [⟨1, l[i].f0, l[i].f1⟩]) (by omega) (by omega) (by simp; omega)
    refine ⟨r, Ev.step (f := fun k => spec_l07Apply.l0 k h s l (out ++ [⟨1, l[i].f0, l[i].f1⟩]) ((i + 1 : Nat) : Int)) (fun k => ?_) h1, Ev.step (f := fun k => impl_applied.l0 k h s (out ++ [⟨1, l[i].f0, l[i].f1⟩]) l (l.length : Int) ((i + 1 : Nat) : Int)) (fun k => ?_) h2, by rw [h3]; simp; omega⟩
    · simp only [spec_l07Apply.l0]
      rw [if_pos (by omega), if_pos (by omega), if_pos (by omega), rdE_Update l i hlt, wnext i (by omega)]
    · simp only [impl_applied.l0]
      rw [if_pos (by omega), if_pos (by omega), if_pos (by omega), if_pos (by omega), rdE_Update l i hlt, wnext i (by omega)]
theorem plan_from (h s : Int) (l : List S23) (hl : l.length ≤ 1000) (hu : l.all upOK = true) : ∀ d i (out : List S132), i ≤ l.length → l.length - i = d → out.length ≤ 1000 + i → ∃ r, Ev (fun k => spec_l07Plan.l0 k h s l out (i : Int)) r ∧ Ev (fun k => impl_journal.l0 k h s l out l (l.length : Int) (i : Int)) r ∧ r.length = out.length + d + 6 + l.length := by
  intro d
  induction d with
  | zero =>
    intro i out hi hd ho
    obtain ⟨r, a1, a2, a3⟩ := applied_from h s l hl l.length 0 [] (by omega) (by omega) (by simp)
    refine ⟨(out ++ [⟨2, 0, (⟨#[]⟩ : ByteArray)⟩, ⟨1, wrap64 (39 + wrap64 (6 * h)), sealP 7 [(l.length : Int), s]⟩, ⟨2, 0, (⟨#[]⟩ : ByteArray)⟩]) ++ r, ?_, ?_, by simp [a3]; omega⟩
    · refine Ev.succ ?_
      simp only [spec_l07Plan.l0, spec_l07Head.f, spec_l07Slot.f, Option.bind_some]
      refine ev_neg (by omega) (ev_pos (by omega) (ev_bind (ev_bind (spec_seal_ev 7 _ (by simp)) (ev_some _)) ?_))
      refine ev_pos (by simp; omega) (ev_pos (by simp; omega) (ev_bind a1 (ev_pos (by simp [a3]; omega) ?_)))
      simp only [List.append_assoc, List.cons_append, List.nil_append]
      exact ev_some _
    · refine Ev.succ ?_
      simp only [impl_journal.l0, impl_slot.f, Option.bind_some]
      refine ev_neg (by omega) (ev_bind (impl_seal_ev 7 _ (by simp)) (ev_pos (by simp; omega) (ev_bind a2 (ev_pos (by simp [a3]; omega) (ev_some _)))))
  | succ d ih =>
    intro i out hi hd ho
    have hlt : i < l.length := by omega
    have hz : l[i].f1.size ≤ 1000000 := by
      have := updateOK_size ((List.all_eq_true.1 hu) l[i] (List.getElem_mem hlt)); omega
    obtain ⟨r, h1, h2, h3⟩ := ih (i + 1) (out ++ [⟨1, wrap64 (wrap64 (wrap64 (39 + wrap64 (6 * h)) + 1) + (i : Int)), sealP 8 [l[i].f0] ++ l[i].f1⟩]) (by omega) (by omega) (by simp; omega)
    refine ⟨r, Ev.succ ?_, Ev.succ ?_, by rw [h3]; simp; omega⟩
    · simp only [spec_l07Plan.l0, spec_l07Slot.f, Option.bind_some, rdE_Update l i hlt, wnext i (show i < 1000000000000000000 by omega)]
      exact ev_pos (by omega) (ev_pos (by omega) (ev_bind (spec_l07Encode_ev _ _ hz) (ev_pos (by omega) h1)))
    · simp only [impl_journal.l0, impl_slot.f, Option.bind_some, rdE_Update l i hlt, wnext i (show i < 1000000000000000000 by omega)]
      exact ev_pos (by omega) (ev_pos (by omega) (ev_pos (by omega) (ev_bind (impl_Update_text_ev _ _ hz) (ev_pos (by omega) h2))))
theorem plan_ev (h s : Int) (l : List S23) (hl : l.length ≤ 1000) (hu : l.all upOK = true) : ∃ r, Ev (fun k => spec_l07Plan.f k h s l) r ∧ Ev (fun k => impl_journal.f k h s l) r ∧ r.length ≤ 2006 := by
  unfold spec_l07Plan.f impl_journal.f
  by_cases h0 : (l.length : Int) = 0
  · exact ⟨[], ev_pos h0 (ev_some _), ev_pos h0 (ev_some _), by simp⟩
  · obtain ⟨r, h1, h2, h3⟩ := plan_from h s l hl hu l.length 0 [] (by omega) (by omega) (by simp)
    exact ⟨r, ev_neg h0 h1, ev_neg h0 h2, by rw [h3]; simp; omega⟩
theorem journal_ev (h s : Int) (l : List S23) (hl : l.length ≤ 1048576) : ∃ r, Ev (fun k => spec_JournalPlan.f k h s l) r ∧ Ev (fun k => impl_JournalPlan.f k h s l) r ∧ r.1.length ≤ 2006 := by
  have hA : all143_impl_updateOK.f l () = some (l.all upOK) := by unfold all143_impl_updateOK.f; exact allO_some _ _ (fun x _ => impl_updateOK_eq _ _)
  unfold spec_JournalPlan.f impl_JournalPlan.f
  simp only [spec_l04Host.f, spec_l02Int.f, l01In_eq, impl_Update_141.f, impl_isHost.f, impl_isNumber.f, within_eq, hA, Option.bind_some, first4]
  by_cases h1 : (l.length : Int) > 4096
  · refine ⟨([], 2), ev_pos h1 (ev_some _), ?_, by simp⟩
    simp only [h1, decide_true, if_true]
    cases inB h 0 3
    · exact ev_neg (by decide) (ev_neg (by decide) (ev_some _))
    · exact ev_pos rfl (ev_neg (by decide) (ev_some _))
  · simp only [h1, decide_false, Bool.false_eq_true, if_false]
    have bad : ∀ (x : Int) (hx : x = 4), ∃ r, Ev (fun k => spec_JournalPlan.j0 k h s l true) r ∧ Ev (fun _ => (some (([] : List S132), x) : Option (List S132 × Int))) r ∧ r.1.length ≤ 2006 := by
      rintro x rfl
      refine ⟨([], 4), Ev.succ ?_, ev_some _, by simp⟩
      simp only [spec_JournalPlan.j0, if_true]; exact ev_some _
    cases inB h 0 3
    · obtain ⟨r, b1, b2, b3⟩ := bad 4 rfl
      exact ⟨r, ev_neg (by decide) b1, ev_neg (by decide) (ev_neg (by simp) b2), b3⟩
    · cases inB s 0 2147483647
      · obtain ⟨r, b1, b2, b3⟩ := bad 4 rfl
        exact ⟨r, ev_pos rfl b1, ev_pos rfl (ev_neg (by simp) b2), b3⟩
      · have hU := updates_ev l (by omega)
        by_cases h5 : (l.length : Int) > 5
        · rw [if_pos h5] at hU
          refine ⟨([], 6), ev_pos rfl (Ev.succ ?_), ev_pos rfl ?_, by simp⟩
          · simp only [spec_JournalPlan.j0, Bool.not_true, Bool.false_eq_true, if_false]
            exact ev_bind hU (ev_neg (by decide) (ev_some _))
          · simp only [h5, decide_true, Bool.not_true, Bool.false_eq_true, if_false, if_true]
            exact ev_neg (by decide) (ev_some _)
        · rw [if_neg h5] at hU
          cases hu : l.all upOK
          · rw [hu, if_neg (by decide)] at hU
            refine ⟨([], 1), ev_pos rfl (Ev.succ ?_), ev_pos rfl ?_, by simp⟩
            · simp only [spec_JournalPlan.j0, Bool.not_true, Bool.false_eq_true, if_false]
              exact ev_bind hU (ev_neg (by decide) (ev_some _))
            · simp only [h5, decide_false, Bool.not_true, Bool.not_false, Bool.false_eq_true, if_false, if_true]
              exact ev_neg (by decide) (ev_some _)
          · rw [hu, if_pos rfl] at hU
            obtain ⟨r, p1, p2, p3⟩ := plan_ev h s l (by omega) hu
            refine ⟨(r, 0), ev_pos rfl (Ev.succ ?_), ev_pos rfl ?_, p3⟩
            · simp only [spec_JournalPlan.j0, Bool.not_true, Bool.false_eq_true, if_false]
              exact ev_bind hU (ev_pos rfl (ev_bind p1 (ev_some _)))
            · simp only [h5, decide_false, Bool.not_true, Bool.false_eq_true, if_false, if_true]
              exact ev_bind p2 (ev_some _)
end Go.Proofs.Ythlbjmgoibnopaa.Q
