/- What laws.FnExactReqText reaches, part 3: the functions as Lean functions, the proofs that the program's functions answer so, and plain laws about them. -/
import Derived.Test.YtkccdcnpclpdaaaDoorKFnExactReqText1
import Derived.Test.YtkccdcnpclpdaaaDoorKFnExactReqText2
namespace Go.Proofs.YtkccdcnpclpdaaaDoor.Q
open Go.RowKit Go.Proofs.YtkccdcnpclpdaaaDoor.Ext Go.Proofs.YtkccdcnpclpdaaaDoorW.PrintWords Go.Proofs.YtkccdcnpclpdaaaDoorW.PrintLast Go.Proofs.YtkccdcnpclpdaaaDoorW.PrintMore
attribute [local go_sem] max2_int min2_int max_two min_two max_three min_three max_four min_four   -- for this text's walks alone
set_option linter.unusedVariables false
set_option linter.unusedSimpArgs false

set_option linter.unusedVariables false
set_option linter.unusedSimpArgs false
/-! ### laws_FnExactReqText: function 3 -/
def laws_FnExactReqText.f (k : Nat) (a0_0 : Int) (a0_1 : Int) (a0_2 : Int) (a0_3 : ByteArray) : Option (Bool) := (laws_szReq.f a0_0 a0_1 a0_2 a0_3 1048576).bind fun t200 => (if t200 < 0 then (some true) else ((laws_toReq.f a0_0 a0_1 a0_2 a0_3).bind fun bt201 => ((spec_ReqText.f k bt201.1 bt201.2.1 bt201.2.2.1 bt201.2.2.2).bind fun bt205 => ((laws_toReq.f a0_0 a0_1 a0_2 a0_3).bind fun bt207 => ((impl_ReqText.f k bt207.1 bt207.2.1 bt207.2.2.1 bt207.2.2.2).bind fun bt211 => (if bt211.1.toList = bt205.1.toList then (if bt211.2 = bt205.2 then (some true) else (some false)) else (some false)))))))
theorem laws_FnExactReqText.mono : ∀ a0 a1 a2 a3 k, LeO (laws_FnExactReqText.f k a0 a1 a2 a3) (laws_FnExactReqText.f (k + 1) a0 a1 a2 a3) := by
  intro a0 a1 a2 a3 k
  unfold laws_FnExactReqText.f
  repeat' first
      | (with_reducible exact impl_ReqText.mono _ _ _ _ _)
      | (with_reducible exact spec_ReqText.mono _ _ _ _ _)
      | (with_reducible exact LeO.refl _)
      | (with_reducible exact LeO.none _)
      | (with_reducible refine LeO.ite ?_ ?_)
      | (with_reducible refine LeO.bind ?_ (fun _ => ?_))
      | exact impl_ReqText.mono _ _ _ _ _
      | exact spec_ReqText.mono _ _ _ _ _
      | exact LeO.none _
      | refine LeO.ite ?_ ?_
      | refine LeO.bind ?_ (fun _ => ?_)
set_option maxHeartbeats 8000000 in
set_option maxRecDepth 100000 in
theorem laws_FnExactReqText.calls (k : Nat) (a0_0 : Int) (a0_1 : Int) (a0_2 : Int) (a0_3 : ByteArray) (r : Bool) (w : World) (h : laws_FnExactReqText.f k a0_0 a0_1 a0_2 a0_3 = some r) (hr_ : Aside0 (r = true)) (HT_ : TrydTab w := by first | exact HT_ | exact TrydTab.to HT_ HB.out | exact TrydTab.to HT_ (by repeat (first | exact HB.out | apply below_alloc | apply pw_below_drewN | apply below_drew1))) :
    Calls Tryd.prog 3 #[.agg #[.int .i64 a0_0, .int .i64 a0_1, .int .i64 a0_2, .string a0_3]] w fun e w' => e = .returned (.bool r) ∧ Below w.heap.size w w' := by
 have hu23 := Tryd.underlying23
 have HB := zm (Below.refl w.heap.size w)
 have H : ((laws_szReq.f a0_0 a0_1 a0_2 a0_3 1048576).bind fun t200 => (if t200 < 0 then (some true) else ((laws_toReq.f a0_0 a0_1 a0_2 a0_3).bind fun bt201 => ((spec_ReqText.f k bt201.1 bt201.2.1 bt201.2.2.1 bt201.2.2.2).bind fun bt205 => ((laws_toReq.f a0_0 a0_1 a0_2 a0_3).bind fun bt207 => ((impl_ReqText.f k bt207.1 bt207.2.1 bt207.2.2.1 bt207.2.2.2).bind fun bt211 => (if bt211.1.toList = bt205.1.toList then (if bt211.2 = bt205.2 then (some true) else (some false)) else (some false)))))))) = some r := h
 clear h
 replace H := Option.bind_eq_some_iff.mp H
 obtain ⟨t200, A20, H⟩ := H
 replace H : (if t200 < 0 then (some true) else ((laws_toReq.f a0_0 a0_1 a0_2 a0_3).bind fun bt201 => ((spec_ReqText.f k bt201.1 bt201.2.1 bt201.2.2.1 bt201.2.2.2).bind fun bt205 => ((laws_toReq.f a0_0 a0_1 a0_2 a0_3).bind fun bt207 => ((impl_ReqText.f k bt207.1 bt207.2.1 bt207.2.2.1 bt207.2.2.2).bind fun bt211 => (if bt211.1.toList = bt205.1.toList then (if bt211.2 = bt205.2 then (some true) else (some false)) else (some false))))))) = some r := H
 have A2 := zm A20
 clear A20
 by_cases c3 : t200 < 0
 ·rw [if_pos c3] at H
  have c3b0 : decide (t200 < 0) = true := decide_eq_true c3
  clear c3
  obtain rfl := Option.some.inj H
  go_enter Tryd.func3, Tryd.ntmps3
  go_wp2_with (first | ((with_reducible refine gate_dst (N := 1) rfl ?_); refine box_event ?hg (N := 1) ?hd (cs := #[.int .i64 a0_0, .int .i64 a0_1, .int .i64 a0_2, .string a0_3]) (t := 23) ?hr ?_; (case hd => rfl); (case hg => rfl); (case hr => first | (go_simp; done) | (go_simp; rfl)); intro gb199 hg w4 hbox hb; have n0_ := zm (below_step (zg_0 HB.out) hb); have n1_ := zm (hbox); have n2_ := zm ((by rw [hg]; exact (below_size (zg_0 HB.out)) : w.heap.size ≤ gb199)); have n3_ := zm ((by rw [hg]; exact (below_size (zg_0 HB.out)) : w.heap.size ≤ gb199)); clear HB; have HB := n0_; have Za := n1_; have Zc := n2_; have Zb := n3_; clear n0_ n1_ n2_ n3_; clear hb hbox hg; have hcz5_0 : w4.cell? ⟨gb199, 0, none⟩ = some (.int .i64 a0_0) := (blk_cell Za.out 0).trans rfl; have hcz5_1 : w4.cell? ⟨gb199, 1, none⟩ = some (.int .i64 a0_1) := (blk_cell Za.out 1).trans rfl; have hcz5_2 : w4.cell? ⟨gb199, 2, none⟩ = some (.int .i64 a0_2) := (blk_cell Za.out 2).trans rfl; have hcz5_3 : w4.cell? ⟨gb199, 3, none⟩ = some (.string a0_3) := (blk_cell Za.out 3).trans rfl; have hfz5_0 := blk_frozen Za.out 0; have hfz5_1 := blk_frozen Za.out 1; have hfz5_2 := blk_frozen Za.out 2; have hfz5_3 := blk_frozen Za.out 3) | ((with_reducible refine gate_callee (f := 8) rfl ?_); refine goesL_ (some 10) rfl rfl Tryd.func8 (by kernel_rfl) rfl #[.agg #[.int .i64 a0_0, .int .i64 a0_1, .int .i64 a0_2, .string a0_3], .int .i64 1048576] rfl zq ?_; (with_reducible refine (laws_szReq.calls a0_0 a0_1 a0_2 a0_3 1048576 t200 _ A2.out).mono ?_); rintro e w6 ⟨rfl, hb⟩; refine ⟨_, rfl, ?_⟩; have n0_ := zm (blk_below (g := gb199) (o := .cells #[.int .i64 a0_0, .int .i64 a0_1, .int .i64 a0_2, .string a0_3] 23 (0, 0)) (zg_1 Za.out) hb); have n1_ := zm (below_step (zg_2 HB.out Zb.out) hb); clear Za; clear HB; have Za := n0_; have HB := n1_; clear n0_ n1_; (try clear hb); (try clear hb2); (try clear hk); (try clear hi)))
  go_ret
  exact ⟨by first | rfl | (simp [errW_none, errW_some] <;> rfl) | (simp [*, errW_none, errW_some] <;> rfl), zg_2 HB.out Zb.out⟩
 ·rw [if_neg c3] at H
  have c3b0 : decide (t200 < 0) = false := decide_eq_false c3
  clear c3
  replace H := Option.bind_eq_some_iff.mp H
  obtain ⟨⟨t201, t202, t203, t204⟩, A70, H⟩ := H
  replace H : ((spec_ReqText.f k t201 t202 t203 t204).bind fun bt205 => ((laws_toReq.f a0_0 a0_1 a0_2 a0_3).bind fun bt207 => ((impl_ReqText.f k bt207.1 bt207.2.1 bt207.2.2.1 bt207.2.2.2).bind fun bt211 => (if bt211.1.toList = bt205.1.toList then (if bt211.2 = bt205.2 then (some true) else (some false)) else (some false))))) = some r := H
  have A7 := zm A70
  clear A70
  replace H := Option.bind_eq_some_iff.mp H
  obtain ⟨⟨t205, t206⟩, A80, H⟩ := H
  replace H : ((laws_toReq.f a0_0 a0_1 a0_2 a0_3).bind fun bt207 => ((impl_ReqText.f k bt207.1 bt207.2.1 bt207.2.2.1 bt207.2.2.2).bind fun bt211 => (if bt211.1.toList = t205.toList then (if bt211.2 = t206 then (some true) else (some false)) else (some false)))) = some r := H
  have A8 := zm A80
  clear A80
  replace H := Option.bind_eq_some_iff.mp H
  obtain ⟨⟨t207, t208, t209, t210⟩, A90, H⟩ := H
  replace H : ((impl_ReqText.f k t207 t208 t209 t210).bind fun bt211 => (if bt211.1.toList = t205.toList then (if bt211.2 = t206 then (some true) else (some false)) else (some false))) = some r := H
  have A9 := zm A90
  clear A90
  replace H := Option.bind_eq_some_iff.mp H
  obtain ⟨⟨t211, t212⟩, A100, H⟩ := H
  replace H : (if t211.toList = t205.toList then (if t212 = t206 then (some true) else (some false)) else (some false)) = some r := H
  have A10 := zm A100
  clear A100
  by_cases c11 : t211.toList = t205.toList
  ·rw [if_pos c11] at H
   have c11b0 : (t211.toList == t205.toList) = true := beq_iff_eq.mpr c11
   have c11b1 : (t211.toList != t205.toList) = false := bne_eq_false_iff_eq.mpr c11
   clear c11
   by_cases c12 : t212 = t206
   ·rw [if_pos c12] at H
    have c12b0 : (t212 == t206) = true := beq_iff_eq.mpr c12
    have c12b1 : (t212 != t206) = false := bne_eq_false_iff_eq.mpr c12
    clear c12
    obtain rfl := Option.some.inj H
    go_enter Tryd.func3, Tryd.ntmps3
    go_wp2_with (first | ((with_reducible refine gate_dst (N := 1) rfl ?_); refine box_event ?hg (N := 1) ?hd (cs := #[.int .i64 a0_0, .int .i64 a0_1, .int .i64 a0_2, .string a0_3]) (t := 23) ?hr ?_; (case hd => rfl); (case hg => rfl); (case hr => first | (go_simp; done) | (go_simp; rfl)); intro gb199 hg w13 hbox hb; have n0_ := zm (below_step (zg_0 HB.out) hb); have n1_ := zm (hbox); have n2_ := zm ((by rw [hg]; exact (below_size (zg_0 HB.out)) : w.heap.size ≤ gb199)); have n3_ := zm ((by rw [hg]; exact (below_size (zg_0 HB.out)) : w.heap.size ≤ gb199)); clear HB; have HB := n0_; have Za := n1_; have Zc := n2_; have Zb := n3_; clear n0_ n1_ n2_ n3_; clear hb hbox hg; have hcz14_0 : w13.cell? ⟨gb199, 0, none⟩ = some (.int .i64 a0_0) := (blk_cell Za.out 0).trans rfl; have hcz14_1 : w13.cell? ⟨gb199, 1, none⟩ = some (.int .i64 a0_1) := (blk_cell Za.out 1).trans rfl; have hcz14_2 : w13.cell? ⟨gb199, 2, none⟩ = some (.int .i64 a0_2) := (blk_cell Za.out 2).trans rfl; have hcz14_3 : w13.cell? ⟨gb199, 3, none⟩ = some (.string a0_3) := (blk_cell Za.out 3).trans rfl; have hfz14_0 := blk_frozen Za.out 0; have hfz14_1 := blk_frozen Za.out 1; have hfz14_2 := blk_frozen Za.out 2; have hfz14_3 := blk_frozen Za.out 3) | ((with_reducible refine gate_callee (f := 8) rfl ?_); refine goesL_ (some 10) rfl rfl Tryd.func8 (by kernel_rfl) rfl #[.agg #[.int .i64 a0_0, .int .i64 a0_1, .int .i64 a0_2, .string a0_3], .int .i64 1048576] rfl zq ?_; (with_reducible refine (laws_szReq.calls a0_0 a0_1 a0_2 a0_3 1048576 t200 _ A2.out).mono ?_); rintro e w15 ⟨rfl, hb⟩; refine ⟨_, rfl, ?_⟩; have n0_ := zm (blk_below (g := gb199) (o := .cells #[.int .i64 a0_0, .int .i64 a0_1, .int .i64 a0_2, .string a0_3] 23 (0, 0)) (zg_1 Za.out) hb); have n1_ := zm (below_step (zg_2 HB.out Zb.out) hb); clear Za; clear HB; have Za := n0_; have HB := n1_; clear n0_ n1_; (try clear hb); (try clear hb2); (try clear hk); (try clear hi); have hcz16_0 : w15.cell? ⟨gb199, 0, none⟩ = some (.int .i64 a0_0) := (blk_cell Za.out 0).trans rfl; have hcz16_1 : w15.cell? ⟨gb199, 1, none⟩ = some (.int .i64 a0_1) := (blk_cell Za.out 1).trans rfl; have hcz16_2 : w15.cell? ⟨gb199, 2, none⟩ = some (.int .i64 a0_2) := (blk_cell Za.out 2).trans rfl; have hcz16_3 : w15.cell? ⟨gb199, 3, none⟩ = some (.string a0_3) := (blk_cell Za.out 3).trans rfl; have hfz16_0 := blk_frozen Za.out 0; have hfz16_1 := blk_frozen Za.out 1; have hfz16_2 := blk_frozen Za.out 2; have hfz16_3 := blk_frozen Za.out 3) | ((with_reducible refine gate_callee (f := 10) rfl ?_); refine goesL_ (some 15) rfl rfl Tryd.func10 (by kernel_rfl) rfl #[.agg #[.int .i64 a0_0, .int .i64 a0_1, .int .i64 a0_2, .string a0_3]] rfl zq ?_; (with_reducible refine (laws_toReq.calls a0_0 a0_1 a0_2 a0_3 t201 t202 t203 t204 _ A7.out).mono ?_); rintro e w17 ⟨rfl, hb⟩; refine ⟨_, rfl, ?_⟩; have n0_ := zm (blk_below (g := gb199) (o := .cells #[.int .i64 a0_0, .int .i64 a0_1, .int .i64 a0_2, .string a0_3] 23 (0, 0)) (zg_1 Za.out) hb); have n1_ := zm (below_step (zg_2 HB.out Zb.out) hb); clear Za; clear HB; have Za := n0_; have HB := n1_; clear n0_ n1_; (try clear hb); (try clear hb2); (try clear hk); (try clear hi)) | ((with_reducible refine gate_callee (f := 9) rfl ?_); refine goesL_ (some 16) rfl rfl Tryd.func9 (by kernel_rfl) rfl #[.agg #[.int .i64 t201, .int .i64 t202, .int .i64 t203, .string t204]] rfl zq ?_; (with_reducible refine (spec_ReqText.calls k t201 t202 t203 t204 t205 t206 _ A8.out).mono ?_); rintro e w18 ⟨rfl, hb⟩; refine ⟨_, rfl, ?_⟩; have n0_ := zm (blk_below (g := gb199) (o := .cells #[.int .i64 a0_0, .int .i64 a0_1, .int .i64 a0_2, .string a0_3] 23 (0, 0)) (zg_1 Za.out) hb); have n1_ := zm (below_step (zg_2 HB.out Zb.out) hb); clear Za; clear HB; have Za := n0_; have HB := n1_; clear n0_ n1_; (try clear hb); (try clear hb2); (try clear hk); (try clear hi); have hcz19_0 : w18.cell? ⟨gb199, 0, none⟩ = some (.int .i64 a0_0) := (blk_cell Za.out 0).trans rfl; have hcz19_1 : w18.cell? ⟨gb199, 1, none⟩ = some (.int .i64 a0_1) := (blk_cell Za.out 1).trans rfl; have hcz19_2 : w18.cell? ⟨gb199, 2, none⟩ = some (.int .i64 a0_2) := (blk_cell Za.out 2).trans rfl; have hcz19_3 : w18.cell? ⟨gb199, 3, none⟩ = some (.string a0_3) := (blk_cell Za.out 3).trans rfl; have hfz19_0 := blk_frozen Za.out 0; have hfz19_1 := blk_frozen Za.out 1; have hfz19_2 := blk_frozen Za.out 2; have hfz19_3 := blk_frozen Za.out 3) | ((with_reducible refine gate_callee (f := 10) rfl ?_); refine goesL_ (some 21) rfl rfl Tryd.func10 (by kernel_rfl) rfl #[.agg #[.int .i64 a0_0, .int .i64 a0_1, .int .i64 a0_2, .string a0_3]] rfl zq ?_; (with_reducible refine (laws_toReq.calls a0_0 a0_1 a0_2 a0_3 t207 t208 t209 t210 _ A9.out).mono ?_); rintro e w20 ⟨rfl, hb⟩; refine ⟨_, rfl, ?_⟩; have n0_ := zm (blk_below (g := gb199) (o := .cells #[.int .i64 a0_0, .int .i64 a0_1, .int .i64 a0_2, .string a0_3] 23 (0, 0)) (zg_1 Za.out) hb); have n1_ := zm (below_step (zg_2 HB.out Zb.out) hb); clear Za; clear HB; have Za := n0_; have HB := n1_; clear n0_ n1_; (try clear hb); (try clear hb2); (try clear hk); (try clear hi)) | ((with_reducible refine gate_callee (f := 11) rfl ?_); refine goesL_ (some 22) rfl rfl Tryd.func11 (by kernel_rfl) rfl #[.agg #[.int .i64 t207, .int .i64 t208, .int .i64 t209, .string t210]] rfl zq ?_; (with_reducible refine (impl_ReqText.calls k t207 t208 t209 t210 t211 t212 _ A10.out).mono ?_); rintro e w21 ⟨rfl, hb⟩; refine ⟨_, rfl, ?_⟩; have n0_ := zm (blk_below (g := gb199) (o := .cells #[.int .i64 a0_0, .int .i64 a0_1, .int .i64 a0_2, .string a0_3] 23 (0, 0)) (zg_1 Za.out) hb); have n1_ := zm (below_step (zg_2 HB.out Zb.out) hb); clear Za; clear HB; have Za := n0_; have HB := n1_; clear n0_ n1_; (try clear hb); (try clear hb2); (try clear hk); (try clear hi)))
    go_ret
    exact ⟨by first | rfl | (simp [errW_none, errW_some] <;> rfl) | (simp [*, errW_none, errW_some] <;> rfl), zg_2 HB.out Zb.out⟩
   ·rw [if_neg c12] at H
    have c12b0 : (t212 == t206) = false := beq_eq_false_iff_ne.mpr c12
    have c12b1 : (t212 != t206) = true := bne_iff_ne.mpr c12
    exact absurd hr_.out (by rw [← Option.some.inj H]; decide)
  ·rw [if_neg c11] at H
   have c11b0 : (t211.toList == t205.toList) = false := beq_eq_false_iff_ne.mpr c11
   have c11b1 : (t211.toList != t205.toList) = true := bne_iff_ne.mpr c11
   exact absurd hr_.out (by rw [← Option.some.inj H]; decide)
/-! ### Base -/
def okI (x : Int) : Prop := (Lit.int .i64 x).wf = true
def okU8 (x : Int) : Prop := (Lit.int .u8 x).wf = true
def okB (_ : Bool) : Prop := True
def okS (x : ByteArray) : Prop := x.size ≤ maxLen
theorem w64 {n : Int} (h0 : -9223372036854775808 ≤ n) (h1 : n ≤ 9223372036854775807) : wrap64 n = n := by unfold wrap64; omega
theorem okI_iff {n : Int} (h : (Lit.int .i64 n).wf = true) : -9223372036854775808 ≤ n ∧ n ≤ 9223372036854775807 := by
  simp [Lit.wf, IntKind.min, IntKind.max, IntKind.signed, IntKind.bits] at h
  omega
theorem Ev.k {α : Type} {g : Nat → Option α} {r : α} (K : Nat) (h : ∀ k, K ≤ k → g k = some r) : Ev g r := ⟨K, h⟩
theorem ev_some {α : Type} (r : α) : Ev (fun _ => some r) r := ⟨0, fun _ _ => rfl⟩
theorem ev_of_eq {α : Type} {g : Nat → Option α} {r : α} (h : ∀ k, g k = some r) : Ev g r := ⟨0, fun k _ => h k⟩
theorem ev_bind {α β : Type} {g : Nat → Option α} {f : Nat → α → Option β} {a : α} {r : β} (h : Ev g a) (k : Ev (fun n => f n a) r) : Ev (fun n => (g n).bind (f n)) r := Ev.bind h k
theorem ev_if {α : Type} {c : Prop} [Decidable c] {g f : Nat → Option α} {r : α} (h : c → Ev g r) (h' : ¬ c → Ev f r) : Ev (fun n => if c then g n else f n) r := by
  by_cases hc : c
  · simp only [if_pos hc]; exact h hc
  · simp only [if_neg hc]; exact h' hc
theorem ev_pos {α : Type} {c : Prop} [Decidable c] {g f : Nat → Option α} {r : α} (hc : c) (h : Ev g r) : Ev (fun n => if c then g n else f n) r := by
  simp only [if_pos hc]; exact h
theorem ev_neg {α : Type} {c : Prop} [Decidable c] {g f : Nat → Option α} {r : α} (hc : ¬ c) (h : Ev f r) : Ev (fun n => if c then g n else f n) r := by
  simp only [if_neg hc]; exact h
theorem strOfNums_size (l : List Int) : (strOfNums l).size = l.length := by show (List.map _ l).toArray.size = _; simp
theorem ba_size_append (a b : ByteArray) : (a ++ b).size = a.size + b.size := by simp
theorem toList_inj {a b : ByteArray} : a.toList = b.toList ↔ a = b := by
  constructor
  · intro h
    have h1 : a.data.toList = b.data.toList := by simpa [ByteArray.toList_eq] using h
    have : a.data = b.data := Array.toList_inj.1 h1
    cases a; cases b; simp_all
  · rintro rfl; rfl
/-! ### In -/
def inB (n a b : Int) : Bool := decide (a ≤ n) && decide (n ≤ b)
theorem inB_iff {n a b : Int} : inB n a b = true ↔ a ≤ n ∧ n ≤ b := by simp [inB]
theorem inB_no {n a b : Int} : inB n a b = false ↔ ¬ (a ≤ n ∧ n ≤ b) := by rw [← inB_iff]; simp
theorem l01In_eq (n a b : Int) : spec_l01In.f n a b = some (inB n a b) := by
  unfold spec_l01In.f inB; by_cases h : a ≤ n <;> simp [h]
theorem within_eq (n a b : Int) : impl_within.f n a b = some (inB n a b) := by
  unfold impl_within.f inB; by_cases h : a ≤ n <;> simp [h]
theorem and_opt {b : Bool} {c : Option Bool} {c' : Bool} (h : c = some c') : (if b = true then c else some false) = some (b && c') := by
  cases b <;> simp [h]
/-! ### Mark -/
theorem ev_loop {α : Type} {g : Nat → Nat → Option α} {r : α} (n : Nat) (hend : Ev (fun k => g k n) r) (hstep : ∀ i, i < n → ∃ c, ∀ k, g (k + c) i = g k (i + 1) ∧ 1 ≤ c) : ∀ d i, i ≤ n → n - i = d → Ev (fun k => g k i) r := by
  intro d
  induction d with
  | zero =>
    intro i hi hd
    have e : i = n := by omega
    rw [e]; exact hend
  | succ d ih =>
    intro i hi hd
    obtain ⟨K, hK⟩ := ih (i + 1) (by omega) (by omega)
    obtain ⟨c, hc⟩ := hstep i (by omega)
    refine ⟨K + c, fun k hk => ?_⟩
    obtain ⟨m, rfl⟩ : ∃ m, k = m + c := ⟨k - c, by omega⟩
    show g (m + c) i = _
    rw [(hc m).1]; exact hK m (by omega)
theorem rdn (l : List Int) (i : Nat) (h : i < l.length) : rd l (i : Int) = l[i] := by simp [rd, h]
theorem wnext (i : Nat) (h : i < 1000000000000000000) : wrap64 ((i : Int) + 1) = ((i + 1 : Nat) : Int) := by rw [w64 (by omega) (by omega)]; omega
def countUp (a : Int) (n : Nat) : List Int := (List.range n).map (fun j : Nat => a + (j : Int))
theorem countUp_length (a : Int) (n : Nat) : (countUp a n).length = n := by simp [countUp]
theorem countUp_get (a : Int) (n i : Nat) (h : i < n) : (countUp a n)[i]'(by rw [countUp_length]; exact h) = a + (i : Int) := by simp [countUp]
theorem set_mid {α : Type} (l m : List α) (hlm : m.length = l.length) (i : Nat) (h : i < l.length) (x : α) (hx : m[i]'(by omega) = x) : (m.take i ++ l.drop i).set i x = m.take (i + 1) ++ l.drop (i + 1) := by
  subst hx
  rw [List.drop_eq_getElem_cons h, List.set_append_right _ _ (by rw [List.length_take]; omega)]
  have : i - (m.take i).length = 0 := by rw [List.length_take]; omega
  rw [this, List.set_cons_zero, List.take_succ_eq_append_getElem (by omega), List.append_assoc]
  rfl
/-! ### Ev -/
theorem Ev.succ {α : Type} {g : Nat → Option α} {r : α} (h : Ev (fun k => g (k + 1)) r) : Ev g r := Ev.step (f := fun k => g (k + 1)) (fun _ => rfl) h
theorem ev_all {α : Type} {g : Nat → Nat → Option Bool} (l : List α) (q : α → Bool) (r : Bool) (hend : Ev (fun k => g k l.length) r) (hstep : ∀ i (h : i < l.length) k, g (k + 1) i = if q l[i] = true then g k (i + 1) else some false) : Ev (fun k => g k 0) (l.all q && r) := by
  have hgo : ∀ d i, i ≤ l.length → l.length - i = d → Ev (fun k => g k i) ((l.drop i).all q && r) := by
    intro d
    induction d with
    | zero =>
      intro i hi hd
      have e : i = l.length := by omega
      subst e
      rw [List.drop_of_length_le (by omega)]; simp only [List.all_nil, Bool.true_and]; exact hend
    | succ d ih =>
      intro i hi hd
      have hlt : i < l.length := by omega
      refine Ev.step (f := fun k => if q l[i] = true then g k (i + 1) else some false) (hstep i hlt) ?_
      rw [List.drop_eq_getElem_cons hlt, List.all_cons]
      cases hq : q l[i]
      · simp only [Bool.false_and, Bool.false_eq_true, if_false]; exact ev_some _
      · simp only [Bool.true_and, if_true]; exact ih (i + 1) (by omega) (by omega)
  have := hgo l.length 0 (by omega) (by omega)
  rwa [List.drop_zero] at this
theorem ev_asks {α β : Type} {g : Nat → Nat → Option β} (l : List α) (q : α → Bool) (r bad : β) (hend : Ev (fun k => g k l.length) r) (hstep : ∀ i (h : i < l.length) k, g (k + 1) i = if q l[i] = true then g k (i + 1) else some bad) : Ev (fun k => g k 0) (if l.all q = true then r else bad) := by
  have hgo : ∀ d i, i ≤ l.length → l.length - i = d → Ev (fun k => g k i) (if (l.drop i).all q = true then r else bad) := by
    intro d
    induction d with
    | zero =>
      intro i hi hd
      have e : i = l.length := by omega
      subst e
      rw [List.drop_of_length_le (by omega)]; simp only [List.all_nil, if_true]; exact hend
    | succ d ih =>
      intro i hi hd
      have hlt : i < l.length := by omega
      refine Ev.step (f := fun k => if q l[i] = true then g k (i + 1) else some bad) (hstep i hlt) ?_
      rw [List.drop_eq_getElem_cons hlt, List.all_cons]
      cases hq : q l[i]
      · simp only [Bool.false_and, Bool.false_eq_true, if_false]; exact ev_some _
      · simp only [Bool.true_and, if_true]; exact ih (i + 1) (by omega) (by omega)
  have := hgo l.length 0 (by omega) (by omega)
  rwa [List.drop_zero] at this
macro "ev_step" : tactic => `(tactic| first
  | exact ev_some _
  | (refine ev_bind (by assumption) ?_; try dsimp only)
  | (refine ev_pos (by first | rfl | assumption | omega) ?_)
  | (refine ev_neg (by first | exact Bool.false_ne_true | assumption | omega) ?_))
macro "ev_go" : tactic => `(tactic| repeat ev_step)
/-! ### MarkT -/
theorem ev_down {α : Type} {g : Nat → Nat → Option α} {r : α} (n : Nat) (hend : Ev (fun k => g k n) r) (hstep : ∀ i, i < n → Ev (fun k => g k (i + 1)) r → Ev (fun k => g k i) r) : Ev (fun k => g k 0) r := by
  have : ∀ d i, i ≤ n → n - i = d → Ev (fun k => g k i) r := by
    intro d
    induction d with
    | zero => intro i hi hd; have e : i = n := by omega
              rw [e]; exact hend
    | succ d ih => intro i hi hd; exact hstep i (by omega) (ih (i + 1) (by omega) (by omega))
  exact this n 0 (by omega) (by omega)
/-! ### Digits -/
def dgs (n : Int) : ByteArray := ⟨(Lib.itoa n).toArray⟩
theorem dgs_small {n : Int} (h0 : 0 ≤ n) (h : n < 10) : dgs n = strOfNums [(wrap64 (48 + n)) % 256] := by
  rw [w64 (n := 48 + n) (by omega) (by omega)]
  unfold dgs Lib.itoa
  rw [if_neg (by omega), Lib.decDigits_one (by omega)]
  have e : (48 + n) % 256 = ((48 + n.toNat : Nat) : Int) := by omega
  rw [e]; rfl
theorem dgs_step {n : Int} (h : 10 ≤ n) (hn : n ≤ 1000000000000) : dgs n = dgs (n / 10) ++ strOfNums [(wrap64 (48 + (Int.tmod n 10))) % 256] := by
  have hm : Int.tmod n 10 = n % 10 := Int.tmod_eq_emod_of_nonneg (by omega)
  rw [hm, w64 (n := 48 + n % 10) (by omega) (by omega)]
  unfold dgs Lib.itoa
  rw [if_neg (by omega), if_neg (by omega)]
  have e : (48 + n % 10) % 256 = ((48 + n.toNat % 10 : Nat) : Int) := by omega
  have e2 : (n / 10).toNat = n.toNat / 10 := by omega
  rw [e, e2]
  conv => lhs; rw [Lib.decDigits, dif_neg (by omega)]
  rw [← List.append_toArray]
  apply ByteArray.ext
  rw [ByteArray.data_append]; rfl
theorem digits_ev : ∀ (d : Nat) (n : Int), 0 ≤ n → n.toNat ≤ d → n ≤ 1000000000000 → Ev (fun k => spec_l00Digits.f k n) (dgs n) ∧ (dgs n).size ≤ n.toNat + 1 := by
  intro d
  induction d with
  | zero =>
    intro n h0 hd hn
    have h := dgs_small h0 (by omega : n < 10)
    refine ⟨Ev.succ ?_, by rw [h, strOfNums_size]; simp⟩
    simp only [spec_l00Digits.f]
    exact ev_neg (by omega) (ev_neg (by omega) (ev_pos (by omega) (by rw [← h]; exact ev_some _)))
  | succ d ih =>
    intro n h0 hd hn
    by_cases c : n < 10
    · have h := dgs_small h0 c
      refine ⟨Ev.succ ?_, by rw [h, strOfNums_size]; simp⟩
      simp only [spec_l00Digits.f]
      exact ev_neg (by omega) (ev_neg (by omega) (ev_pos (by omega) (by rw [← h]; exact ev_some _)))
    · have h := dgs_step (by omega : 10 ≤ n) hn
      have hq : Int.tdiv n 10 = n / 10 := Int.tdiv_eq_ediv_of_nonneg h0
      obtain ⟨h1, h2⟩ := ih (n / 10) (by omega) (by omega) (by omega)
      have hz : (strOfNums [(wrap64 (48 + (Int.tmod n 10))) % 256]).size = 1 := by rw [strOfNums_size]; rfl
      refine ⟨Ev.succ ?_, by rw [h, ba_size_append, hz]; omega⟩
      simp only [spec_l00Digits.f, Option.bind_some]
      refine ev_neg (by omega) (ev_neg (by omega) (ev_neg (by omega) ?_))
      rw [hq, w64 (n := n / 10) (by omega) (by omega)]
      refine ev_bind h1 (ev_pos (by rw [hz]; omega) ?_)
      rw [← h]; exact ev_some _
theorem join2 (x y : ByteArray) : (⟨(Lib.join [x.data.toList, y.data.toList] [32]).toArray⟩ : ByteArray) = (x ++ (⟨#[32]⟩ : ByteArray)) ++ y := by
  apply ByteArray.ext
  rw [ByteArray.data_append, ByteArray.data_append]
  simp [Lib.join, List.intercalate]
theorem join3 (x y z : ByteArray) : (⟨(Lib.join [x.data.toList, y.data.toList, z.data.toList] [32]).toArray⟩ : ByteArray) = (((x ++ (⟨#[32]⟩ : ByteArray)) ++ y) ++ (⟨#[32]⟩ : ByteArray)) ++ z := by
  apply ByteArray.ext
  rw [ByteArray.data_append, ByteArray.data_append, ByteArray.data_append, ByteArray.data_append]
  simp [Lib.join, List.intercalate]
theorem mk_size (l : List UInt8) : (⟨l.toArray⟩ : ByteArray).size = l.length := by show l.toArray.size = _; simp
theorem len2 (x y : ByteArray) : (Lib.join [x.data.toList, y.data.toList] [32]).length = x.size + 1 + y.size := by
  have h := congrArg ByteArray.size (join2 x y)
  rw [mk_size, ba_size_append, ba_size_append] at h
  exact h
theorem len3 (x y z : ByteArray) : (Lib.join [x.data.toList, y.data.toList, z.data.toList] [32]).length = x.size + 1 + y.size + 1 + z.size := by
  have h := congrArg ByteArray.size (join3 x y z)
  rw [mk_size, ba_size_append, ba_size_append, ba_size_append, ba_size_append] at h
  exact h
theorem itoa_eq {n : Int} (h0 : 0 ≤ n) (hn : n ≤ 1000000000000) : strconv_Itoa_94.f n = some (dgs n) := by
  unfold strconv_Itoa_94.f
  rw [if_pos (by omega), if_pos (by omega)]; rfl
def anyT : Any → ByteArray | .n x => dgs x | .s x => x | .b _ => ByteArray.empty
def anyOK : Any → Prop | .n x => 0 ≤ x ∧ x ≤ 1000000000000 | .s _ => True | .b _ => False
theorem rdA_at (l : List Any) (i : Nat) (h : i < l.length) : rdA l (i : Int) = l[i] := by simp [rdA, h]
theorem said_ev (l : List Any) (r : ByteArray) (hl : l.length ≤ 1000) (hok : ∀ x ∈ l, anyOK x) (hr : strings_Join.f (l.map anyT) (⟨#[32]⟩ : ByteArray) = some r) : Ev (fun k => impl_said.f k l) r := by
  unfold impl_said.f
  refine ev_down (g := fun k i => impl_said.l0 k ((l.take i).map anyT) l (l.length : Int) (i : Int)) l.length ?_ ?_
  · refine Ev.succ ?_
    simp only [impl_said.l0]
    refine ev_neg (by omega) ?_
    rw [List.take_of_length_le (Nat.le_refl _), hr]
    exact ev_some _
  · intro i hi h
    refine Ev.succ ?_
    have e : rdA l (i : Int) = l[i] := rdA_at l i hi
    have hx := hok _ (List.getElem_mem hi)
    have ht : (l.take (i + 1)).map anyT = (l.take i).map anyT ++ [anyT l[i]] := by rw [List.take_succ_eq_append_getElem hi, List.map_append]; rfl
    rw [ht] at h
    have hz : ((l.take i).map anyT).length < 8796093022208 := by rw [List.length_map, List.length_take]; omega
    simp only [impl_said.l0, e, wnext i (show i < 1000000000000000000 by omega)]
    refine ev_pos (by omega) (ev_pos (by omega) (ev_pos (by omega) ?_))
    generalize l[i] = x at hx h
    cases x with
    | b x => exact hx.elim
    | n x =>
      refine ev_pos rfl ?_
      exact ev_bind (ev_of_eq fun _ => itoa_eq hx.1 hx.2) (ev_pos hz h)
    | s x =>
      exact ev_neg (by intro h_; cases h_) (ev_pos rfl (ev_pos hz h))
theorem join2_eq (x y : ByteArray) (h : x.size + y.size ≤ 100000000000) : strings_Join.f [x, y] (⟨#[32]⟩ : ByteArray) = some ((x ++ (⟨#[32]⟩ : ByteArray)) ++ y) := by
  unfold strings_Join.f
  rw [if_pos (by show 2 ≤ _; omega), if_pos (by show (Lib.join [x.data.toList, y.data.toList] [32]).length ≤ _; rw [len2]; omega)]
  exact congrArg some (join2 x y)
theorem join3_eq (x y z : ByteArray) (h : x.size + y.size + z.size ≤ 100000000000) : strings_Join.f [x, y, z] (⟨#[32]⟩ : ByteArray) = some ((((x ++ (⟨#[32]⟩ : ByteArray)) ++ y) ++ (⟨#[32]⟩ : ByteArray)) ++ z) := by
  unfold strings_Join.f
  rw [if_pos (by show 3 ≤ _; omega), if_pos (by show (Lib.join [x.data.toList, y.data.toList, z.data.toList] [32]).length ≤ _; rw [len3]; omega)]
  exact congrArg some (join3 x y z)
/-! ### Compact -/
theorem compact_full (zs : List (List UInt8)) : (Lib.compact zs).length = zs.length ↔ ∀ j, j < zs.length → Lib.keeps zs.toArray j = true := by
  unfold Lib.compact Lib.compactUpTo
  rw [List.length_map]
  constructor
  · intro h j hj
    have h2 : ((List.range zs.length).filter (Lib.keeps zs.toArray)).length = (List.range zs.length).length := by rw [h, List.length_range]
    exact (List.length_filter_eq_length_iff.1 h2) j (List.mem_range.2 hj)
  · intro h
    have : ((List.range zs.length).filter (Lib.keeps zs.toArray)).length = (List.range zs.length).length := List.length_filter_eq_length_iff.2 (fun j hj => h j (List.mem_range.1 hj))
    rw [this, List.length_range]
theorem sorted_nodup (ss : List (List UInt8)) : (Lib.compact (ss.mergeSort fun x y => decide (x ≤ y))).length = ss.length ↔ ss.Nodup := by
  have hp := List.mergeSort_perm ss (fun x y => decide (x ≤ y))
  have hs : (ss.mergeSort fun x y => decide (x ≤ y)).Pairwise (fun x y => decide (x ≤ y) = true) := List.pairwise_mergeSort (fun a b c h1 h2 => by
    simp only [decide_eq_true_eq] at *; exact List.le_trans h1 h2) (fun a b => by
    simp only [Bool.or_eq_true, decide_eq_true_eq]; exact List.le_total a b) ss
  rw [← hp.nodup_iff, ← hp.length_eq, compact_full]
  generalize (ss.mergeSort fun x y => decide (x ≤ y)) = s at hs
  have hle : ∀ i j (hi : i < j) (hj : j < s.length), s[i] ≤ s[j] := fun i j hi hj => by
    have := List.pairwise_iff_getElem.1 hs i j (by omega) hj hi
    simpa using this
  constructor
  · intro h
    rw [List.nodup_iff_pairwise_ne, List.pairwise_iff_getElem]
    intro i j hi hj hij e
    have h1 := h (i + 1) (by omega)
    have h2 : s[i]'hi = s[i + 1]'(by omega) := by
      refine List.le_antisymm (hle i (i + 1) (by omega) (by omega)) ?_
      by_cases c : i + 1 = j
      · subst c; rw [e]; exact List.le_refl _
      · rw [e]; exact hle (i + 1) j (by omega) hj
    simp [Lib.keeps, h2, show i + 1 < s.length by omega, show i < s.length from hi] at h1
  · intro h j hj
    by_cases c : j = 0
    · subst c; simp [Lib.keeps]
    · have hne : s[j]'hj ≠ s[j - 1]'(by omega) := by
        intro e
        have := List.pairwise_iff_getElem.1 (List.nodup_iff_pairwise_ne.1 h) (j - 1) j (by omega) hj (by omega)
        exact this e.symm
      simp [Lib.keeps, hj, show j - 1 < s.length by omega, hne]
/-! ### SnapName -/
def nmOK (t : ByteArray) : Bool := (List.range t.size).all (fun i => inB (bt t (i : Int)) 97 122) && inB (t.size : Int) 1 6
theorem spec_Name_ev (t : ByteArray) (ht : t.size ≤ 1000000000) : Ev (fun k => spec_l10Name.f k t) (nmOK t) := by
  unfold spec_l10Name.f nmOK
  refine ev_all (g := fun k i => spec_l10Name.l0 k t (i : Int)) (List.range t.size) (fun i => inB (bt t (i : Int)) 97 122) _ ?_ ?_
  · refine Ev.step (f := fun _ => some (inB (t.size : Int) 1 6)) (fun k => ?_) (ev_some _)
    simp only [spec_l10Name.l0, l01In_eq, Option.bind_some, List.length_range]; rw [if_neg (by omega)]
  · intro i hi k
    rw [List.length_range] at hi
    simp only [spec_l10Name.l0, List.getElem_range]
    rw [if_pos (by omega), if_pos (by omega), wnext i (by omega)]
    unfold inB
    by_cases h1 : bt t (i : Int) < 97
    · rw [if_pos h1, if_neg (by simp; omega)]
    · rw [if_neg h1]
      by_cases h2 : bt t (i : Int) > 122
      · rw [if_pos h2, if_neg (by simp; omega)]
      · rw [if_neg h2, if_pos (by simp; omega)]
theorem impl_Name_ev (t : ByteArray) (ht : t.size ≤ 1000000000) : Ev (fun k => impl_snapNameOK.f k t) (nmOK t) := by
  unfold impl_snapNameOK.f nmOK
  refine ev_all (g := fun k i => impl_snapNameOK.l0 k t (t.size : Int) (i : Int)) (List.range t.size) (fun i => inB (bt t (i : Int)) 97 122) _ ?_ ?_
  · refine Ev.step (f := fun _ => some (inB (t.size : Int) 1 6)) (fun k => ?_) (ev_some _)
    simp only [impl_snapNameOK.l0, within_eq, Option.bind_some, List.length_range]; rw [if_neg (by omega)]
  · intro i hi k
    rw [List.length_range] at hi
    simp only [impl_snapNameOK.l0, List.getElem_range]
    rw [if_pos (by omega), if_pos (by omega), if_pos (by omega), wnext i (by omega)]
    unfold inB
    by_cases h1 : bt t (i : Int) < 97
    · rw [if_pos h1, if_neg (by simp; omega)]
    · rw [if_neg h1]
      by_cases h2 : bt t (i : Int) > 122
      · rw [if_pos h2, if_neg (by simp; omega)]
      · rw [if_neg h2, if_pos (by simp; omega)]
theorem ev_allO {α : Type} (p : Nat → α → Option Bool) (q : α → Bool) : ∀ l : List α, (∀ x ∈ l, Ev (fun k => p k x) (q x)) → Ev (fun k => allO (p k) l) (l.all q) := by
  intro l
  induction l with
  | nil => intro _; exact ev_some true
  | cons x xs ih =>
    intro h
    have hx := h x (by simp)
    have hxs := ih (fun y hy => h y (by simp [hy]))
    simp only [allO, List.all_cons]
    refine ev_bind hx ?_
    cases q x
    · exact ev_neg (by decide) (ev_some _)
    · exact ev_pos rfl (by simpa using hxs)
def namesOK (l : List ByteArray) : Bool := decide ((l.length : Int) ≤ 3) && (l.all nmOK && decide l.Nodup)
end Go.Proofs.YtkccdcnpclpdaaaDoor.Q
