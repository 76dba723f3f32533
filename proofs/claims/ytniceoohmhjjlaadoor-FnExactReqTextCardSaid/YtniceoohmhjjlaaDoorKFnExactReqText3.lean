/- What laws.FnExactReqText reaches, part 3: the functions as Lean functions, the proofs that the program's functions answer so, and plain laws about them. -/
import Derived.Test.YtniceoohmhjjlaaDoorKFnExactReqText1
import Derived.Test.YtniceoohmhjjlaaDoorKFnExactReqText2
namespace Go.Proofs.YtniceoohmhjjlaaDoor.Q
open Go.RowKit Go.Proofs.YtniceoohmhjjlaaDoor.Ext Go.Proofs.YtniceoohmhjjlaaDoorW.PrintWords Go.Proofs.YtniceoohmhjjlaaDoorW.PrintLast Go.Proofs.YtniceoohmhjjlaaDoorW.PrintMore
attribute [local go_sem] max2_int min2_int max_two min_two max_three min_three max_four min_four   -- for this text's walks alone
set_option linter.unusedVariables false
set_option linter.unusedSimpArgs false

set_option linter.unusedVariables false
set_option linter.unusedSimpArgs false
/-! ### laws_FnExactReqText: function 5 -/
def laws_FnExactReqText.f (k : Nat) (a0_0 : Int) (a0_1 : Int) (a0_2 : Int) (a0_3 : ByteArray) : Option (Bool) := (laws_szReq.f a0_0 a0_1 a0_2 a0_3 1048576).bind fun t188 => (if t188 < 0 then (some true) else ((laws_toReq.f a0_0 a0_1 a0_2 a0_3).bind fun bt189 => ((spec_ReqText.f k bt189.1 bt189.2.1 bt189.2.2.1 bt189.2.2.2).bind fun bt193 => ((laws_toReq.f a0_0 a0_1 a0_2 a0_3).bind fun bt195 => ((impl_ReqText.f k bt195.1 bt195.2.1 bt195.2.2.1 bt195.2.2.2).bind fun bt199 => (if bt199.1.toList = bt193.1.toList then (if bt199.2 = bt193.2 then (some true) else (some false)) else (some false)))))))
theorem laws_FnExactReqText.mono : ∀ a0 a1 a2 a3 k, LeO (laws_FnExactReqText.f k a0 a1 a2 a3) (laws_FnExactReqText.f (k + 1) a0 a1 a2 a3) := by
  intro a0 a1 a2 a3 k
  unfold laws_FnExactReqText.f
  repeat' first
      | (with_reducible exact impl_ReqText.mono _ _ _ _ _)
      | (with_reducible exact spec_ReqText.mono _ _ _ _ _)
      | (with_reducible exact LeO.refl _)
      | (with_reducible exact LeO.none _)
      | (with_reducible refine LeO.ite ?_ ?_)
      | (with_reducible refine LeO.bind ?_ (fun _ => ?_))
      | exact impl_ReqText.mono _ _ _ _ _
      | exact spec_ReqText.mono _ _ _ _ _
      | exact LeO.none _
      | refine LeO.ite ?_ ?_
      | refine LeO.bind ?_ (fun _ => ?_)
set_option maxHeartbeats 8000000 in
set_option maxRecDepth 100000 in
theorem laws_FnExactReqText.calls (k : Nat) (a0_0 : Int) (a0_1 : Int) (a0_2 : Int) (a0_3 : ByteArray) (r : Bool) (w : World) (h : laws_FnExactReqText.f k a0_0 a0_1 a0_2 a0_3 = some r) (hr_ : Aside0 (r = true)) (HTB_ : TrydTab w := by first | exact HTB_ | exact TrydTab.to HTB_ HB.out | exact TrydTab.to HTB_ (by repeat (first | exact HB.out | apply below_alloc | apply pw_below_drewN | apply below_drew1 | refine below_set ?_ (Aside0.out (by assumption))))) :
    Calls Tryd.prog 5 #[.agg #[.int .i64 a0_0, .int .i64 a0_1, .int .i64 a0_2, .string a0_3]] w fun e w' => e = .returned (.bool r) ∧ Below w.heap.size w w' := by
 have hu33 := Tryd.underlying33
 have HB := zm (Below.refl w.heap.size w)
 have H : ((laws_szReq.f a0_0 a0_1 a0_2 a0_3 1048576).bind fun t188 => (if t188 < 0 then (some true) else ((laws_toReq.f a0_0 a0_1 a0_2 a0_3).bind fun bt189 => ((spec_ReqText.f k bt189.1 bt189.2.1 bt189.2.2.1 bt189.2.2.2).bind fun bt193 => ((laws_toReq.f a0_0 a0_1 a0_2 a0_3).bind fun bt195 => ((impl_ReqText.f k bt195.1 bt195.2.1 bt195.2.2.1 bt195.2.2.2).bind fun bt199 => (if bt199.1.toList = bt193.1.toList then (if bt199.2 = bt193.2 then (some true) else (some false)) else (some false)))))))) = some r := h
 clear h
 replace H := Option.bind_eq_some_iff.mp H
 obtain ⟨t188, A20, H⟩ := H
 replace H : (if t188 < 0 then (some true) else ((laws_toReq.f a0_0 a0_1 a0_2 a0_3).bind fun bt189 => ((spec_ReqText.f k bt189.1 bt189.2.1 bt189.2.2.1 bt189.2.2.2).bind fun bt193 => ((laws_toReq.f a0_0 a0_1 a0_2 a0_3).bind fun bt195 => ((impl_ReqText.f k bt195.1 bt195.2.1 bt195.2.2.1 bt195.2.2.2).bind fun bt199 => (if bt199.1.toList = bt193.1.toList then (if bt199.2 = bt193.2 then (some true) else (some false)) else (some false))))))) = some r := H
 have A2 := zm A20
 clear A20
 by_cases c3 : t188 < 0
 ·rw [if_pos c3] at H
  have c3b0 : decide (t188 < 0) = true := decide_eq_true c3
  clear c3
  obtain rfl := Option.some.inj H
  go_enter Tryd.func5, Tryd.ntmps5
  go_wp2_with (first | ((with_reducible refine gate_dst (N := 1) rfl ?_); refine box_event ?hg (N := 1) ?hd (cs := #[.int .i64 a0_0, .int .i64 a0_1, .int .i64 a0_2, .string a0_3]) (t := 33) ?hr ?_; (case hd => rfl); (case hg => rfl); (case hr => first | (go_simp; done) | (go_simp; rfl)); intro gb187 hg w4 hbox hb; have n0_ := zm (below_step (zg_0 HB.out) hb); have n1_ := zm (hbox); have n2_ := zm ((by rw [hg]; exact (below_size (zg_0 HB.out)) : w.heap.size ≤ gb187)); have n3_ := zm ((by rw [hg]; exact (below_size (zg_0 HB.out)) : w.heap.size ≤ gb187)); clear HB; have HB := n0_; have Za := n1_; have Zc := n2_; have Zb := n3_; clear n0_ n1_ n2_ n3_; clear hb hbox hg; have hcz5_0 : w4.cell? ⟨gb187, 0, none⟩ = some (.int .i64 a0_0) := (blk_cell Za.out 0).trans rfl; have hcz5_1 : w4.cell? ⟨gb187, 1, none⟩ = some (.int .i64 a0_1) := (blk_cell Za.out 1).trans rfl; have hcz5_2 : w4.cell? ⟨gb187, 2, none⟩ = some (.int .i64 a0_2) := (blk_cell Za.out 2).trans rfl; have hcz5_3 : w4.cell? ⟨gb187, 3, none⟩ = some (.string a0_3) := (blk_cell Za.out 3).trans rfl; have hfz5_0 := blk_frozen Za.out 0; have hfz5_1 := blk_frozen Za.out 1; have hfz5_2 := blk_frozen Za.out 2; have hfz5_3 := blk_frozen Za.out 3) | ((with_reducible refine gate_callee (f := 14) rfl ?_); refine goesL_ (some 10) rfl rfl Tryd.func14 (by kernel_rfl) rfl #[.agg #[.int .i64 a0_0, .int .i64 a0_1, .int .i64 a0_2, .string a0_3], .int .i64 1048576] rfl zq ?_; (with_reducible refine (laws_szReq.calls a0_0 a0_1 a0_2 a0_3 1048576 t188 _ A2.out).mono ?_); rintro e w6 ⟨rfl, hb⟩; refine ⟨_, rfl, ?_⟩; have n0_ := zm (blk_below (g := gb187) (o := .cells #[.int .i64 a0_0, .int .i64 a0_1, .int .i64 a0_2, .string a0_3] 33 (0, 0)) (zg_1 Za.out) hb); have n1_ := zm (below_step (zg_2 HB.out Zb.out) hb); clear Za; clear HB; have Za := n0_; have HB := n1_; clear n0_ n1_; (try clear hb); (try clear hb2); (try clear hk); (try clear hi)))
  go_ret
  exact ⟨by first | rfl | (simp [errW_none, errW_some] <;> rfl) | (simp [*, errW_none, errW_some] <;> rfl), zg_2 HB.out Zb.out⟩
 ·rw [if_neg c3] at H
  have c3b0 : decide (t188 < 0) = false := decide_eq_false c3
  clear c3
  replace H := Option.bind_eq_some_iff.mp H
  obtain ⟨⟨t189, t190, t191, t192⟩, A70, H⟩ := H
  replace H : ((spec_ReqText.f k t189 t190 t191 t192).bind fun bt193 => ((laws_toReq.f a0_0 a0_1 a0_2 a0_3).bind fun bt195 => ((impl_ReqText.f k bt195.1 bt195.2.1 bt195.2.2.1 bt195.2.2.2).bind fun bt199 => (if bt199.1.toList = bt193.1.toList then (if bt199.2 = bt193.2 then (some true) else (some false)) else (some false))))) = some r := H
  have A7 := zm A70
  clear A70
  replace H := Option.bind_eq_some_iff.mp H
  obtain ⟨⟨t193, t194⟩, A80, H⟩ := H
  replace H : ((laws_toReq.f a0_0 a0_1 a0_2 a0_3).bind fun bt195 => ((impl_ReqText.f k bt195.1 bt195.2.1 bt195.2.2.1 bt195.2.2.2).bind fun bt199 => (if bt199.1.toList = t193.toList then (if bt199.2 = t194 then (some true) else (some false)) else (some false)))) = some r := H
  have A8 := zm A80
  clear A80
  replace H := Option.bind_eq_some_iff.mp H
  obtain ⟨⟨t195, t196, t197, t198⟩, A90, H⟩ := H
  replace H : ((impl_ReqText.f k t195 t196 t197 t198).bind fun bt199 => (if bt199.1.toList = t193.toList then (if bt199.2 = t194 then (some true) else (some false)) else (some false))) = some r := H
  have A9 := zm A90
  clear A90
  replace H := Option.bind_eq_some_iff.mp H
  obtain ⟨⟨t199, t200⟩, A100, H⟩ := H
  replace H : (if t199.toList = t193.toList then (if t200 = t194 then (some true) else (some false)) else (some false)) = some r := H
  have A10 := zm A100
  clear A100
  by_cases c11 : t199.toList = t193.toList
  ·rw [if_pos c11] at H
   have c11b0 : (t199.toList == t193.toList) = true := beq_iff_eq.mpr c11
   have c11b1 : (t199.toList != t193.toList) = false := bne_eq_false_iff_eq.mpr c11
   clear c11
   by_cases c12 : t200 = t194
   ·rw [if_pos c12] at H
    have c12b0 : (t200 == t194) = true := beq_iff_eq.mpr c12
    have c12b1 : (t200 != t194) = false := bne_eq_false_iff_eq.mpr c12
    clear c12
    obtain rfl := Option.some.inj H
    go_enter Tryd.func5, Tryd.ntmps5
    go_wp2_with (first | ((with_reducible refine gate_dst (N := 1) rfl ?_); refine box_event ?hg (N := 1) ?hd (cs := #[.int .i64 a0_0, .int .i64 a0_1, .int .i64 a0_2, .string a0_3]) (t := 33) ?hr ?_; (case hd => rfl); (case hg => rfl); (case hr => first | (go_simp; done) | (go_simp; rfl)); intro gb187 hg w13 hbox hb; have n0_ := zm (below_step (zg_0 HB.out) hb); have n1_ := zm (hbox); have n2_ := zm ((by rw [hg]; exact (below_size (zg_0 HB.out)) : w.heap.size ≤ gb187)); have n3_ := zm ((by rw [hg]; exact (below_size (zg_0 HB.out)) : w.heap.size ≤ gb187)); clear HB; have HB := n0_; have Za := n1_; have Zc := n2_; have Zb := n3_; clear n0_ n1_ n2_ n3_; clear hb hbox hg; have hcz14_0 : w13.cell? ⟨gb187, 0, none⟩ = some (.int .i64 a0_0) := (blk_cell Za.out 0).trans rfl; have hcz14_1 : w13.cell? ⟨gb187, 1, none⟩ = some (.int .i64 a0_1) := (blk_cell Za.out 1).trans rfl; have hcz14_2 : w13.cell? ⟨gb187, 2, none⟩ = some (.int .i64 a0_2) := (blk_cell Za.out 2).trans rfl; have hcz14_3 : w13.cell? ⟨gb187, 3, none⟩ = some (.string a0_3) := (blk_cell Za.out 3).trans rfl; have hfz14_0 := blk_frozen Za.out 0; have hfz14_1 := blk_frozen Za.out 1; have hfz14_2 := blk_frozen Za.out 2; have hfz14_3 := blk_frozen Za.out 3) | ((with_reducible refine gate_callee (f := 14) rfl ?_); refine goesL_ (some 10) rfl rfl Tryd.func14 (by kernel_rfl) rfl #[.agg #[.int .i64 a0_0, .int .i64 a0_1, .int .i64 a0_2, .string a0_3], .int .i64 1048576] rfl zq ?_; (with_reducible refine (laws_szReq.calls a0_0 a0_1 a0_2 a0_3 1048576 t188 _ A2.out).mono ?_); rintro e w15 ⟨rfl, hb⟩; refine ⟨_, rfl, ?_⟩; have n0_ := zm (blk_below (g := gb187) (o := .cells #[.int .i64 a0_0, .int .i64 a0_1, .int .i64 a0_2, .string a0_3] 33 (0, 0)) (zg_1 Za.out) hb); have n1_ := zm (below_step (zg_2 HB.out Zb.out) hb); clear Za; clear HB; have Za := n0_; have HB := n1_; clear n0_ n1_; (try clear hb); (try clear hb2); (try clear hk); (try clear hi); have hcz16_0 : w15.cell? ⟨gb187, 0, none⟩ = some (.int .i64 a0_0) := (blk_cell Za.out 0).trans rfl; have hcz16_1 : w15.cell? ⟨gb187, 1, none⟩ = some (.int .i64 a0_1) := (blk_cell Za.out 1).trans rfl; have hcz16_2 : w15.cell? ⟨gb187, 2, none⟩ = some (.int .i64 a0_2) := (blk_cell Za.out 2).trans rfl; have hcz16_3 : w15.cell? ⟨gb187, 3, none⟩ = some (.string a0_3) := (blk_cell Za.out 3).trans rfl; have hfz16_0 := blk_frozen Za.out 0; have hfz16_1 := blk_frozen Za.out 1; have hfz16_2 := blk_frozen Za.out 2; have hfz16_3 := blk_frozen Za.out 3) | ((with_reducible refine gate_callee (f := 15) rfl ?_); refine goesL_ (some 15) rfl rfl Tryd.func15 (by kernel_rfl) rfl #[.agg #[.int .i64 a0_0, .int .i64 a0_1, .int .i64 a0_2, .string a0_3]] rfl zq ?_; (with_reducible refine (laws_toReq.calls a0_0 a0_1 a0_2 a0_3 t189 t190 t191 t192 _ A7.out).mono ?_); rintro e w17 ⟨rfl, hb⟩; refine ⟨_, rfl, ?_⟩; have n0_ := zm (blk_below (g := gb187) (o := .cells #[.int .i64 a0_0, .int .i64 a0_1, .int .i64 a0_2, .string a0_3] 33 (0, 0)) (zg_1 Za.out) hb); have n1_ := zm (below_step (zg_2 HB.out Zb.out) hb); clear Za; clear HB; have Za := n0_; have HB := n1_; clear n0_ n1_; (try clear hb); (try clear hb2); (try clear hk); (try clear hi)) | ((with_reducible refine gate_callee (f := 13) rfl ?_); refine goesL_ (some 16) rfl rfl Tryd.func13 (by kernel_rfl) rfl #[.agg #[.int .i64 t189, .int .i64 t190, .int .i64 t191, .string t192]] rfl zq ?_; (with_reducible refine (spec_ReqText.calls k t189 t190 t191 t192 t193 t194 _ A8.out).mono ?_); rintro e w18 ⟨rfl, hb⟩; refine ⟨_, rfl, ?_⟩; have n0_ := zm (blk_below (g := gb187) (o := .cells #[.int .i64 a0_0, .int .i64 a0_1, .int .i64 a0_2, .string a0_3] 33 (0, 0)) (zg_1 Za.out) hb); have n1_ := zm (below_step (zg_2 HB.out Zb.out) hb); clear Za; clear HB; have Za := n0_; have HB := n1_; clear n0_ n1_; (try clear hb); (try clear hb2); (try clear hk); (try clear hi); have hcz19_0 : w18.cell? ⟨gb187, 0, none⟩ = some (.int .i64 a0_0) := (blk_cell Za.out 0).trans rfl; have hcz19_1 : w18.cell? ⟨gb187, 1, none⟩ = some (.int .i64 a0_1) := (blk_cell Za.out 1).trans rfl; have hcz19_2 : w18.cell? ⟨gb187, 2, none⟩ = some (.int .i64 a0_2) := (blk_cell Za.out 2).trans rfl; have hcz19_3 : w18.cell? ⟨gb187, 3, none⟩ = some (.string a0_3) := (blk_cell Za.out 3).trans rfl; have hfz19_0 := blk_frozen Za.out 0; have hfz19_1 := blk_frozen Za.out 1; have hfz19_2 := blk_frozen Za.out 2; have hfz19_3 := blk_frozen Za.out 3) | ((with_reducible refine gate_callee (f := 15) rfl ?_); refine goesL_ (some 21) rfl rfl Tryd.func15 (by kernel_rfl) rfl #[.agg #[.int .i64 a0_0, .int .i64 a0_1, .int .i64 a0_2, .string a0_3]] rfl zq ?_; (with_reducible refine (laws_toReq.calls a0_0 a0_1 a0_2 a0_3 t195 t196 t197 t198 _ A9.out).mono ?_); rintro e w20 ⟨rfl, hb⟩; refine ⟨_, rfl, ?_⟩; have n0_ := zm (blk_below (g := gb187) (o := .cells #[.int .i64 a0_0, .int .i64 a0_1, .int .i64 a0_2, .string a0_3] 33 (0, 0)) (zg_1 Za.out) hb); have n1_ := zm (below_step (zg_2 HB.out Zb.out) hb); clear Za; clear HB; have Za := n0_; have HB := n1_; clear n0_ n1_; (try clear hb); (try clear hb2); (try clear hk); (try clear hi)) | ((with_reducible refine gate_callee (f := 12) rfl ?_); refine goesL_ (some 22) rfl rfl Tryd.func12 (by kernel_rfl) rfl #[.agg #[.int .i64 t195, .int .i64 t196, .int .i64 t197, .string t198]] rfl zq ?_; (with_reducible refine (impl_ReqText.calls k t195 t196 t197 t198 t199 t200 _ A10.out).mono ?_); rintro e w21 ⟨rfl, hb⟩; refine ⟨_, rfl, ?_⟩; have n0_ := zm (blk_below (g := gb187) (o := .cells #[.int .i64 a0_0, .int .i64 a0_1, .int .i64 a0_2, .string a0_3] 33 (0, 0)) (zg_1 Za.out) hb); have n1_ := zm (below_step (zg_2 HB.out Zb.out) hb); clear Za; clear HB; have Za := n0_; have HB := n1_; clear n0_ n1_; (try clear hb); (try clear hb2); (try clear hk); (try clear hi)))
    go_ret
    exact ⟨by first | rfl | (simp [errW_none, errW_some] <;> rfl) | (simp [*, errW_none, errW_some] <;> rfl), zg_2 HB.out Zb.out⟩
   ·rw [if_neg c12] at H
    have c12b0 : (t200 == t194) = false := beq_eq_false_iff_ne.mpr c12
    have c12b1 : (t200 != t194) = true := bne_iff_ne.mpr c12
    exact absurd hr_.out (by rw [← Option.some.inj H]; decide)
  ·rw [if_neg c11] at H
   have c11b0 : (t199.toList == t193.toList) = false := beq_eq_false_iff_ne.mpr c11
   have c11b1 : (t199.toList != t193.toList) = true := bne_iff_ne.mpr c11
   exact absurd hr_.out (by rw [← Option.some.inj H]; decide)
/-! ### Base -/
def okI (x : Int) : Prop := (Lit.int .i64 x).wf = true
def okU8 (x : Int) : Prop := (Lit.int .u8 x).wf = true
def okB (_ : Bool) : Prop := True
def okS (x : ByteArray) : Prop := x.size ≤ maxLen
theorem w64 {n : Int} (h0 : -9223372036854775808 ≤ n) (h1 : n ≤ 9223372036854775807) : wrap64 n = n := by unfold wrap64; omega
theorem okI_iff {n : Int} (h : (Lit.int .i64 n).wf = true) : -9223372036854775808 ≤ n ∧ n ≤ 9223372036854775807 := by
  simp [Lit.wf, IntKind.min, IntKind.max, IntKind.signed, IntKind.bits] at h
  omega
theorem Ev.k {α : Type} {g : Nat → Option α} {r : α} (K : Nat) (h : ∀ k, K ≤ k → g k = some r) : Ev g r := ⟨K, h⟩
theorem ev_some {α : Type} (r : α) : Ev (fun _ => some r) r := ⟨0, fun _ _ => rfl⟩
theorem ev_of_eq {α : Type} {g : Nat → Option α} {r : α} (h : ∀ k, g k = some r) : Ev g r := ⟨0, fun k _ => h k⟩
theorem ev_bind {α β : Type} {g : Nat → Option α} {f : Nat → α → Option β} {a : α} {r : β} (h : Ev g a) (k : Ev (fun n => f n a) r) : Ev (fun n => (g n).bind (f n)) r := Ev.bind h k
theorem ev_if {α : Type} {c : Prop} [Decidable c] {g f : Nat → Option α} {r : α} (h : c → Ev g r) (h' : ¬ c → Ev f r) : Ev (fun n => if c then g n else f n) r := by
  by_cases hc : c
  · simp only [if_pos hc]; exact h hc
  · simp only [if_neg hc]; exact h' hc
theorem ev_pos {α : Type} {c : Prop} [Decidable c] {g f : Nat → Option α} {r : α} (hc : c) (h : Ev g r) : Ev (fun n => if c then g n else f n) r := by
  simp only [if_pos hc]; exact h
theorem ev_neg {α : Type} {c : Prop} [Decidable c] {g f : Nat → Option α} {r : α} (hc : ¬ c) (h : Ev f r) : Ev (fun n => if c then g n else f n) r := by
  simp only [if_neg hc]; exact h
theorem strOfNums_size (l : List Int) : (strOfNums l).size = l.length := by show (List.map _ l).toArray.size = _; simp
theorem ba_size_append (a b : ByteArray) : (a ++ b).size = a.size + b.size := by simp
theorem toList_inj {a b : ByteArray} : a.toList = b.toList ↔ a = b := by
  constructor
  · intro h
    have h1 : a.data.toList = b.data.toList := by simpa [ByteArray.toList_eq] using h
    have : a.data = b.data := Array.toList_inj.1 h1
    cases a; cases b; simp_all
  · rintro rfl; rfl
/-! ### In -/
def inB (n a b : Int) : Bool := decide (a ≤ n) && decide (n ≤ b)
theorem inB_iff {n a b : Int} : inB n a b = true ↔ a ≤ n ∧ n ≤ b := by simp [inB]
theorem inB_no {n a b : Int} : inB n a b = false ↔ ¬ (a ≤ n ∧ n ≤ b) := by rw [← inB_iff]; simp
theorem l01In_eq (n a b : Int) : spec_l01In.f n a b = some (inB n a b) := by
  unfold spec_l01In.f inB; by_cases h : a ≤ n <;> simp [h]
theorem within_eq (n a b : Int) : impl_within.f n a b = some (inB n a b) := by
  unfold impl_within.f inB; by_cases h : a ≤ n <;> simp [h]
theorem and_opt {b : Bool} {c : Option Bool} {c' : Bool} (h : c = some c') : (if b = true then c else some false) = some (b && c') := by
  cases b <;> simp [h]
/-! ### Mark -/
theorem ev_loop {α : Type} {g : Nat → Nat → Option α} {r : α} (n : Nat) (hend : Ev (fun k => g k n) r) (hstep : ∀ i, i < n → ∃ c, ∀ k, g (k + c) i = g k (i + 1) ∧ 1 ≤ c) : ∀ d i, i ≤ n → n - i = d → Ev (fun k => g k i) r := by
  intro d
  induction d with
  | zero =>
    intro i hi hd
    have e : i = n := by omega
    rw [e]; exact hend
  | succ d ih =>
    intro i hi hd
    obtain ⟨K, hK⟩ := ih (i + 1) (by omega) (by omega)
    obtain ⟨c, hc⟩ := hstep i (by omega)
    refine ⟨K + c, fun k hk => ?_⟩
    obtain ⟨m, rfl⟩ : ∃ m, k = m + c := ⟨k - c, by omega⟩
    show g (m + c) i = _
    rw [(hc m).1]; exact hK m (by omega)
theorem rdn (l : List Int) (i : Nat) (h : i < l.length) : rd l (i : Int) = l[i] := by simp [rd, h]
theorem wnext (i : Nat) (h : i < 1000000000000000000) : wrap64 ((i : Int) + 1) = ((i + 1 : Nat) : Int) := by rw [w64 (by omega) (by omega)]; omega
def countUp (a : Int) (n : Nat) : List Int := (List.range n).map (fun j : Nat => a + (j : Int))
theorem countUp_length (a : Int) (n : Nat) : (countUp a n).length = n := by simp [countUp]
theorem countUp_get (a : Int) (n i : Nat) (h : i < n) : (countUp a n)[i]'(by rw [countUp_length]; exact h) = a + (i : Int) := by simp [countUp]
theorem set_mid {α : Type} (l m : List α) (hlm : m.length = l.length) (i : Nat) (h : i < l.length) (x : α) (hx : m[i]'(by omega) = x) : (m.take i ++ l.drop i).set i x = m.take (i + 1) ++ l.drop (i + 1) := by
  subst hx
  rw [List.drop_eq_getElem_cons h, List.set_append_right _ _ (by rw [List.length_take]; omega)]
  have : i - (m.take i).length = 0 := by rw [List.length_take]; omega
  rw [this, List.set_cons_zero, List.take_succ_eq_append_getElem (by omega), List.append_assoc]
  rfl
/-! ### Ev -/
theorem Ev.succ {α : Type} {g : Nat → Option α} {r : α} (h : Ev (fun k => g (k + 1)) r) : Ev g r := Ev.step (f := fun k => g (k + 1)) (fun _ => rfl) h
theorem ev_all {α : Type} {g : Nat → Nat → Option Bool} (l : List α) (q : α → Bool) (r : Bool) (hend : Ev (fun k => g k l.length) r) (hstep : ∀ i (h : i < l.length) k, g (k + 1) i = if q l[i] = true then g k (i + 1) else some false) : Ev (fun k => g k 0) (l.all q && r) := by
  have hgo : ∀ d i, i ≤ l.length → l.length - i = d → Ev (fun k => g k i) ((l.drop i).all q && r) := by
    intro d
    induction d with
    | zero =>
      intro i hi hd
      have e : i = l.length := by omega
      subst e
      rw [List.drop_of_length_le (by omega)]; simp only [List.all_nil, Bool.true_and]; exact hend
    | succ d ih =>
      intro i hi hd
      have hlt : i < l.length := by omega
      refine Ev.step (f := fun k => if q l[i] = true then g k (i + 1) else some false) (hstep i hlt) ?_
      rw [List.drop_eq_getElem_cons hlt, List.all_cons]
      cases hq : q l[i]
      · simp only [Bool.false_and, Bool.false_eq_true, if_false]; exact ev_some _
      · simp only [Bool.true_and, if_true]; exact ih (i + 1) (by omega) (by omega)
  have := hgo l.length 0 (by omega) (by omega)
  rwa [List.drop_zero] at this
theorem ev_asks {α β : Type} {g : Nat → Nat → Option β} (l : List α) (q : α → Bool) (r bad : β) (hend : Ev (fun k => g k l.length) r) (hstep : ∀ i (h : i < l.length) k, g (k + 1) i = if q l[i] = true then g k (i + 1) else some bad) : Ev (fun k => g k 0) (if l.all q = true then r else bad) := by
  have hgo : ∀ d i, i ≤ l.length → l.length - i = d → Ev (fun k => g k i) (if (l.drop i).all q = true then r else bad) := by
    intro d
    induction d with
    | zero =>
      intro i hi hd
      have e : i = l.length := by omega
      subst e
      rw [List.drop_of_length_le (by omega)]; simp only [List.all_nil, if_true]; exact hend
    | succ d ih =>
      intro i hi hd
      have hlt : i < l.length := by omega
      refine Ev.step (f := fun k => if q l[i] = true then g k (i + 1) else some bad) (hstep i hlt) ?_
      rw [List.drop_eq_getElem_cons hlt, List.all_cons]
      cases hq : q l[i]
      · simp only [Bool.false_and, Bool.false_eq_true, if_false]; exact ev_some _
      · simp only [Bool.true_and, if_true]; exact ih (i + 1) (by omega) (by omega)
  have := hgo l.length 0 (by omega) (by omega)
  rwa [List.drop_zero] at this
/-- A loop that asks each element in turn, each question with rounds of its own. -/
theorem ev_asksE {α β : Type} {g : Nat → Nat → Option β} (l : List α) (q : α → Bool) (r bad : β) (hend : l.all q = true → Ev (fun k => g k l.length) r)
    (hstep : ∀ i (h : i < l.length), (q l[i] = true → Ev (fun k => g k (i + 1)) (if (l.drop (i + 1)).all q = true then r else bad) → Ev (fun k => g k i) (if (l.drop (i + 1)).all q = true then r else bad)) ∧ (q l[i] = false → Ev (fun k => g k i) bad)) : Ev (fun k => g k 0) (if l.all q = true then r else bad) := by
  have key : ∀ d i, i ≤ l.length → l.length - i = d → (l.take i).all q = true → Ev (fun k => g k i) (if (l.drop i).all q = true then r else bad) := by
    intro d
    induction d with
    | zero =>
      intro i hi hd ht
      have e : i = l.length := by omega
      subst e
      rw [List.take_length] at ht
      rw [List.drop_length, List.all_nil, if_pos rfl]
      exact hend ht
    | succ d ih =>
      intro i hi hd ht
      have hlt : i < l.length := by omega
      rw [List.drop_eq_getElem_cons hlt, List.all_cons]
      cases hq : q l[i] with
      | false => simpa using (hstep i hlt).2 hq
      | true =>
        rw [Bool.true_and]
        refine (hstep i hlt).1 hq (ih (i + 1) (by omega) (by omega) ?_)
        rw [List.take_succ_eq_append_getElem hlt, List.all_append, ht]
        simp [hq]
  simpa using key l.length 0 (by omega) (by omega) (by simp)
/-! ### MarkT -/
theorem ev_down {α : Type} {g : Nat → Nat → Option α} {r : α} (n : Nat) (hend : Ev (fun k => g k n) r) (hstep : ∀ i, i < n → Ev (fun k => g k (i + 1)) r → Ev (fun k => g k i) r) : Ev (fun k => g k 0) r := by
  have : ∀ d i, i ≤ n → n - i = d → Ev (fun k => g k i) r := by
    intro d
    induction d with
    | zero => intro i hi hd; have e : i = n := by omega
              rw [e]; exact hend
    | succ d ih => intro i hi hd; exact hstep i (by omega) (ih (i + 1) (by omega) (by omega))
  exact this n 0 (by omega) (by omega)
/-! ### Digits -/
def dgs (n : Int) : ByteArray := ⟨(Lib.itoa n).toArray⟩
theorem dgs_small {n : Int} (h0 : 0 ≤ n) (h : n < 10) : dgs n = strOfNums [(wrap64 (48 + n)) % 256] := by
  rw [w64 (n := 48 + n) (by omega) (by omega)]
  unfold dgs Lib.itoa
  rw [if_neg (by omega), Lib.decDigits_one (by omega)]
  have e : (48 + n) % 256 = ((48 + n.toNat : Nat) : Int) := by omega
  rw [e]; rfl
theorem dgs_step {n : Int} (h : 10 ≤ n) (hn : n ≤ 1000000000000) : dgs n = dgs (n / 10) ++ strOfNums [(wrap64 (48 + (Int.tmod n 10))) % 256] := by
  have hm : Int.tmod n 10 = n % 10 := Int.tmod_eq_emod_of_nonneg (by omega)
  rw [hm, w64 (n := 48 + n % 10) (by omega) (by omega)]
  unfold dgs Lib.itoa
  rw [if_neg (by omega), if_neg (by omega)]
  have e : (48 + n % 10) % 256 = ((48 + n.toNat % 10 : Nat) : Int) := by omega
  have e2 : (n / 10).toNat = n.toNat / 10 := by omega
  rw [e, e2]
  conv => lhs; rw [Lib.decDigits, dif_neg (by omega)]
  rw [← List.append_toArray]
  apply ByteArray.ext
  rw [ByteArray.data_append]; rfl
theorem digits_ev : ∀ (d : Nat) (n : Int), 0 ≤ n → n.toNat ≤ d → n ≤ 1000000000000 → Ev (fun k => spec_l00Digits.f k n) (dgs n) ∧ (dgs n).size ≤ n.toNat + 1 := by
  intro d
  induction d with
  | zero =>
    intro n h0 hd hn
    have h := dgs_small h0 (by omega : n < 10)
    refine ⟨Ev.succ ?_, by rw [h, strOfNums_size]; simp⟩
    simp only [spec_l00Digits.f]
    exact ev_neg (by omega) (ev_neg (by omega) (ev_pos (by omega) (by rw [← h]; exact ev_some _)))
  | succ d ih =>
    intro n h0 hd hn
    by_cases c : n < 10
    · have h := dgs_small h0 c
      refine ⟨Ev.succ ?_, by rw [h, strOfNums_size]; simp⟩
      simp only [spec_l00Digits.f]
      exact ev_neg (by omega) (ev_neg (by omega) (ev_pos (by omega) (by rw [← h]; exact ev_some _)))
    · have h := dgs_step (by omega : 10 ≤ n) hn
      have hq : Int.tdiv n 10 = n / 10 := Int.tdiv_eq_ediv_of_nonneg h0
      obtain ⟨h1, h2⟩ := ih (n / 10) (by omega) (by omega) (by omega)
      have hz : (strOfNums [(wrap64 (48 + (Int.tmod n 10))) % 256]).size = 1 := by rw [strOfNums_size]; rfl
      refine ⟨Ev.succ ?_, by rw [h, ba_size_append, hz]; omega⟩
      simp only [spec_l00Digits.f, Option.bind_some]
      refine ev_neg (by omega) (ev_neg (by omega) (ev_neg (by omega) ?_))
      rw [hq, w64 (n := n / 10) (by omega) (by omega)]
      refine ev_bind h1 (ev_pos (by rw [hz]; omega) ?_)
      rw [← h]; exact ev_some _
theorem ba_assoc (a b c : ByteArray) : (a ++ b) ++ c = a ++ (b ++ c) := by
  apply ByteArray.ext
  simp [ByteArray.data_append]
def bl : ByteArray := ⟨#[32]⟩
theorem bl_size : bl.size = 1 := rfl
/-- A word, and others behind it, each with a blank ahead. -/
def jn (w : ByteArray) (r : List ByteArray) : ByteArray := r.foldl (fun o x => o ++ (bl ++ x)) w
theorem jn_cons (w x : ByteArray) (r : List ByteArray) : jn w (x :: r) = jn (w ++ (bl ++ x)) r := rfl
theorem jn_snoc (w x : ByteArray) (r : List ByteArray) : jn w (r ++ [x]) = jn w r ++ (bl ++ x) := by simp [jn]
theorem join_jn : ∀ (r : List ByteArray) (w : ByteArray), Lib.join ((w :: r).map (·.data.toList)) [32] = (jn w r).data.toList := by
  intro r
  induction r with
  | nil => intro w; simp [Lib.join, List.intercalate, jn]
  | cons x r ih =>
    intro w
    rw [jn_cons, ← ih]
    have hb : bl.data.toList = [32] := rfl
    cases r with
    | nil => simp [Lib.join, List.intercalate, ByteArray.data_append, hb]
    | cons y r => simp [Lib.join, List.intercalate, ByteArray.data_append, hb]
theorem jn_size (B : Nat) : ∀ (r : List ByteArray) (w : ByteArray), (∀ x ∈ r, x.size ≤ B) → (jn w r).size ≤ w.size + r.length * (B + 1) := by
  intro r
  induction r with
  | nil => intro w _; simp [jn]
  | cons x r ih =>
    intro w h
    rw [jn_cons]
    have h1 := ih (w ++ (bl ++ x)) (fun y hy => h y (by simp [hy]))
    have h2 := h x (by simp)
    rw [ba_size_append, ba_size_append, bl_size] at h1
    rw [List.length_cons, Nat.add_mul]
    omega
theorem Join_jn (w : ByteArray) (r : List ByteArray) (h : (jn w r).size ≤ 140737488355328) (hl : r.length ≤ 1000000000) : strings_Join.f (w :: r) (⟨#[32]⟩ : ByteArray) = some (jn w r) := by
  unfold strings_Join.f
  have e : (⟨#[32]⟩ : ByteArray).data.toList = [32] := rfl
  rw [e, join_jn, if_pos (by simp; omega), if_pos (show (jn w r).data.toList.length ≤ _ by rw [Array.length_toList]; exact h)]
theorem itoa_eq {n : Int} (h0 : 0 ≤ n) (hn : n ≤ 1000000000000) : strconv_Itoa_95.f n = some (dgs n) := by
  unfold strconv_Itoa_95.f
  rw [if_pos (by omega), if_pos (by omega)]; rfl
def okN (n : Int) : Prop := 0 ≤ n ∧ n ≤ 1000000000000
theorem ints_eq : ∀ (l : List Int) (out : List ByteArray), (∀ x ∈ l, okN x) → out.length + l.length ≤ 1000000000 → impl_said.ints out l = some (out ++ l.map dgs) := by
  intro l
  induction l with
  | nil => intro out _ _; simp [impl_said.ints]
  | cons x r ih =>
    intro out h hl
    rw [List.length_cons] at hl
    have hx := h x (by simp)
    simp only [impl_said.ints]
    rw [itoa_eq hx.1 hx.2, Option.bind_some, if_pos (by omega), ih _ (fun y hy => h y (by simp [hy])) (by simp; omega)]
    simp
/-- What a value of type any says, and whether its numbers are right. -/
def anyW : Any → List ByteArray | .n x => [dgs x] | .s x => [x] | .ss _ l => l | .ns _ l => l.map dgs | .b _ => []
def anyOK : Any → Prop | .n x => okN x | .s _ => True | .ss _ _ => True | .ns _ l => ∀ x ∈ l, okN x | .b _ => False
theorem go_eq : ∀ (l : List Any) (out : List ByteArray), (∀ x ∈ l, anyOK x) → out.length + (l.flatMap anyW).length ≤ 1000000000 → impl_said.go out l = some (out ++ l.flatMap anyW) := by
  intro l
  induction l with
  | nil => intro out _ _; simp [impl_said.go]
  | cons x r ih =>
    intro out h hl
    rw [List.flatMap_cons, List.length_append] at hl
    have hx := h x (by simp)
    have ih := fun o ho => ih o (fun y hy => h y (by simp [hy])) ho
    cases x with
    | b v => exact hx.elim
    | n v =>
      have hl' : (anyW (.n v)).length = 1 := rfl
      simp only [impl_said.go]
      rw [itoa_eq hx.1 hx.2, Option.bind_some, if_pos (by omega), ih _ (by simp only [List.length_append, List.length_singleton, List.length_map]; omega)]
      simp [anyW]
    | s v =>
      have hl' : (anyW (.s v)).length = 1 := rfl
      simp only [impl_said.go]
      rw [if_pos (by omega), ih _ (by simp only [List.length_append, List.length_singleton, List.length_map]; omega)]
      simp [anyW]
    | ss v l =>
      have hl' : (anyW (.ss v l)).length = l.length := rfl
      simp only [impl_said.go]
      rw [if_pos (by omega), ih _ (by simp only [List.length_append, List.length_singleton, List.length_map]; omega)]
      simp [anyW]
    | ns v l =>
      have hl' : (anyW (.ns v l)).length = l.length := by simp [anyW]
      simp only [impl_said.go]
      rw [ints_eq l out hx (by omega), Option.bind_some, ih _ (by simp only [List.length_append, List.length_singleton, List.length_map]; omega)]
      simp [anyW]
theorem said_eq (x : ByteArray) (r : List Any) (B : Nat) (hB : B ≤ 10000000000) (hx : x.size ≤ 1000000000) (hok : ∀ y ∈ r, anyOK y) (hl : (r.flatMap anyW).length ≤ 1000) (hs : ∀ y ∈ r.flatMap anyW, y.size ≤ B) : impl_said.f (.s x :: r) = some (jn x (r.flatMap anyW)) := by
  unfold impl_said.f
  rw [go_eq (.s x :: r) [] (by intro y hy; rcases List.mem_cons.1 hy with rfl | hy; exact trivial; exact hok y hy) (by rw [List.flatMap_cons, List.length_append, show (anyW (.s x)).length = 1 from rfl, List.length_nil]; omega), Option.bind_some]
  have e : [] ++ (Any.s x :: r).flatMap anyW = x :: r.flatMap anyW := rfl
  have h1 := jn_size B (r.flatMap anyW) x hs
  have h2 : (r.flatMap anyW).length * (B + 1) ≤ 1000 * 10000000001 := Nat.mul_le_mul hl (by omega)
  rw [e, Join_jn _ _ (by omega) (by omega)]
theorem said2_eq (x : ByteArray) (a : Any) (h : anyOK a) (hx : x.size ≤ 1000000000) (B : Nat) (hB : B ≤ 10000000000) (hl : (anyW a).length ≤ 500) (hs : ∀ y ∈ anyW a, y.size ≤ B) : impl_said.f [.s x, a] = some (jn x (anyW a)) := by
  have := said_eq x [a] B hB hx (by simpa using h) (by simpa using (by omega : (anyW a).length ≤ 1000)) (by simpa using hs)
  simpa using this
theorem said3_eq (x : ByteArray) (a b : Any) (h : anyOK a) (h' : anyOK b) (hx : x.size ≤ 1000000000) (B : Nat) (hB : B ≤ 10000000000) (hl : (anyW a).length ≤ 500) (hl' : (anyW b).length ≤ 500) (hs : ∀ y ∈ anyW a, y.size ≤ B) (hs' : ∀ y ∈ anyW b, y.size ≤ B) : impl_said.f [.s x, a, b] = some (jn x (anyW a ++ anyW b)) := by
  have := said_eq x [a, b] B hB hx (by intro y hy; simp at hy; rcases hy with rfl | rfl <;> assumption) (by simp; omega) (by intro y hy; simp at hy; rcases hy with hy | hy; exact hs y hy; exact hs' y hy)
  simpa using this
theorem dgs_le {n : Int} (h0 : 0 ≤ n) (hn : n ≤ 1000000000000) : (dgs n).size ≤ n.toNat + 1 := (digits_ev n.toNat n h0 (Nat.le_refl _) hn).2
/-! ### Compact -/
theorem compact_full (zs : List (List UInt8)) : (Lib.compact zs).length = zs.length ↔ ∀ j, j < zs.length → Lib.keeps zs.toArray j = true := by
  unfold Lib.compact Lib.compactUpTo
  rw [List.length_map]
  constructor
  · intro h j hj
    have h2 : ((List.range zs.length).filter (Lib.keeps zs.toArray)).length = (List.range zs.length).length := by rw [h, List.length_range]
    exact (List.length_filter_eq_length_iff.1 h2) j (List.mem_range.2 hj)
  · intro h
    have : ((List.range zs.length).filter (Lib.keeps zs.toArray)).length = (List.range zs.length).length := List.length_filter_eq_length_iff.2 (fun j hj => h j (List.mem_range.1 hj))
    rw [this, List.length_range]
theorem sorted_nodup (ss : List (List UInt8)) : (Lib.compact (ss.mergeSort fun x y => decide (x ≤ y))).length = ss.length ↔ ss.Nodup := by
  have hp := List.mergeSort_perm ss (fun x y => decide (x ≤ y))
  have hs : (ss.mergeSort fun x y => decide (x ≤ y)).Pairwise (fun x y => decide (x ≤ y) = true) := List.pairwise_mergeSort (fun a b c h1 h2 => by
    simp only [decide_eq_true_eq] at *; exact List.le_trans h1 h2) (fun a b => by
    simp only [Bool.or_eq_true, decide_eq_true_eq]; exact List.le_total a b) ss
  rw [← hp.nodup_iff, ← hp.length_eq, compact_full]
  generalize (ss.mergeSort fun x y => decide (x ≤ y)) = s at hs
  have hle : ∀ i j (hi : i < j) (hj : j < s.length), s[i] ≤ s[j] := fun i j hi hj => by
    have := List.pairwise_iff_getElem.1 hs i j (by omega) hj hi
    simpa using this
  constructor
  · intro h
    rw [List.nodup_iff_pairwise_ne, List.pairwise_iff_getElem]
    intro i j hi hj hij e
    have h1 := h (i + 1) (by omega)
    have h2 : s[i]'hi = s[i + 1]'(by omega) := by
      refine List.le_antisymm (hle i (i + 1) (by omega) (by omega)) ?_
      by_cases c : i + 1 = j
      · subst c; rw [e]; exact List.le_refl _
      · rw [e]; exact hle (i + 1) j (by omega) hj
    simp [Lib.keeps, h2, show i + 1 < s.length by omega, show i < s.length from hi] at h1
  · intro h j hj
    by_cases c : j = 0
    · subst c; simp [Lib.keeps]
    · have hne : s[j]'hj ≠ s[j - 1]'(by omega) := by
        intro e
        have := List.pairwise_iff_getElem.1 (List.nodup_iff_pairwise_ne.1 h) (j - 1) j (by omega) hj (by omega)
        exact this e.symm
      simp [Lib.keeps, hj, show j - 1 < s.length by omega, hne]
/-! ### SnapName -/
def nmOK (t : ByteArray) : Bool := (List.range t.size).all (fun i => inB (bt t (i : Int)) 97 122) && inB (t.size : Int) 1 6
theorem spec_Name_ev (t : ByteArray) (ht : t.size ≤ 1000000000) : Ev (fun k => spec_l10Name.f k t) (nmOK t) := by
  unfold spec_l10Name.f nmOK
  refine ev_all (g := fun k i => spec_l10Name.l0 k t (i : Int)) (List.range t.size) (fun i => inB (bt t (i : Int)) 97 122) _ ?_ ?_
  · refine Ev.step (f := fun _ => some (inB (t.size : Int) 1 6)) (fun k => ?_) (ev_some _)
    simp only [spec_l10Name.l0, l01In_eq, Option.bind_some, List.length_range]; rw [if_neg (by omega)]
  · intro i hi k
    rw [List.length_range] at hi
    simp only [spec_l10Name.l0, List.getElem_range]
    rw [if_pos (by omega), if_pos (by omega), wnext i (by omega)]
    unfold inB
    by_cases h1 : bt t (i : Int) < 97
    · rw [if_pos h1, if_neg (by simp; omega)]
    · rw [if_neg h1]
      by_cases h2 : bt t (i : Int) > 122
      · rw [if_pos h2, if_neg (by simp; omega)]
      · rw [if_neg h2, if_pos (by simp; omega)]
theorem impl_Name_ev (t : ByteArray) (ht : t.size ≤ 1000000000) : Ev (fun k => impl_snapNameOK.f k t) (nmOK t) := by
  unfold impl_snapNameOK.f nmOK
  refine ev_all (g := fun k i => impl_snapNameOK.l0 k t (t.size : Int) (i : Int)) (List.range t.size) (fun i => inB (bt t (i : Int)) 97 122) _ ?_ ?_
  · refine Ev.step (f := fun _ => some (inB (t.size : Int) 1 6)) (fun k => ?_) (ev_some _)
    simp only [impl_snapNameOK.l0, within_eq, Option.bind_some, List.length_range]; rw [if_neg (by omega)]
  · intro i hi k
    rw [List.length_range] at hi
    simp only [impl_snapNameOK.l0, List.getElem_range]
    rw [if_pos (by omega), if_pos (by omega), if_pos (by omega), wnext i (by omega)]
    unfold inB
    by_cases h1 : bt t (i : Int) < 97
    · rw [if_pos h1, if_neg (by simp; omega)]
    · rw [if_neg h1]
      by_cases h2 : bt t (i : Int) > 122
      · rw [if_pos h2, if_neg (by simp; omega)]
      · rw [if_neg h2, if_pos (by simp; omega)]
theorem ev_allO {α : Type} (p : Nat → α → Option Bool) (q : α → Bool) : ∀ l : List α, (∀ x ∈ l, Ev (fun k => p k x) (q x)) → Ev (fun k => allO (p k) l) (l.all q) := by
  intro l
  induction l with
  | nil => intro _; exact ev_some true
  | cons x xs ih =>
    intro h
    have hx := h x (by simp)
    have hxs := ih (fun y hy => h y (by simp [hy]))
    simp only [allO, List.all_cons]
    refine ev_bind hx ?_
    cases q x
    · exact ev_neg (by decide) (ev_some _)
    · exact ev_pos rfl (by simpa using hxs)
def namesOK (l : List ByteArray) : Bool := decide ((l.length : Int) ≤ 3) && (l.all nmOK && decide l.Nodup)
/-! ### Req -/
theorem toList_nil (s : ByteArray) : (s.toList == ([] : List UInt8)) = (s.toList == (⟨#[]⟩ : ByteArray).toList) := by
  have : (⟨#[]⟩ : ByteArray).toList = [] := by rw [ByteArray.toList_eq]
  rw [this]
def okE (a b c : Int) (s : ByteArray) : Bool := if a = 1 ∨ a = 3 ∨ a = 4 then (decide (c = 0) && (s.toList == ([] : List UInt8))) else if a = 2 then (s.toList == ([] : List UInt8)) else if a = 8 then (decide (b = 0) && (decide (c = 0) && (s.toList == ([] : List UInt8)))) else (decide (b = 0) && decide (c = 0))
def okQ (a b c : Int) (s : ByteArray) : Bool := inB a 1 8 && (!decide ((s.size : Int) > 65536) && okE a b c s)
theorem both_ok (a b c : Int) (s : ByteArray) (k : Nat) : spec_ReqOK.f (k + 5) a b c s = some (okQ a b c s) ∧ impl_ReqOK.f (k + 5) a b c s = some (okQ a b c s) := by
  simp only [spec_ReqOK.f, impl_ReqOK.f, l01In_eq, within_eq, Option.bind_some, impl_isLongText.f, okQ]
  by_cases h1 : inB a 1 8 = true
  · simp only [h1, if_true]
    by_cases h2 : (s.size : Int) > 65536
    · simp [h2, spec_ReqOK.j0]
    · simp only [h2, decide_false, spec_ReqOK.j0, Bool.false_eq_true, if_false]
      simp only [inB_iff] at h1
      have ha : a = 1 ∨ a = 2 ∨ a = 3 ∨ a = 4 ∨ a = 5 ∨ a = 6 ∨ a = 7 ∨ a = 8 := by omega
      rcases ha with rfl | rfl | rfl | rfl | rfl | rfl | rfl | rfl <;> (simp [okE, spec_ReqOK.j1, impl_Req_used.f, impl_Req_used.j0, toList_nil]; try (by_cases hb : b = 0 <;> by_cases hc : c = 0 <;> simp [hb, hc]))
  · have h1' : inB a 1 8 = false := by simpa using h1
    simp [h1', spec_ReqOK.j0]
def wds : List ByteArray := [(⟨#[]⟩ : ByteArray), (⟨#[114, 101, 97, 100]⟩ : ByteArray), (⟨#[119, 114, 105, 116, 101]⟩ : ByteArray), (⟨#[122, 101, 114, 111]⟩ : ByteArray), (⟨#[114, 101, 115, 105, 122, 101]⟩ : ByteArray), (⟨#[99, 114, 101, 97, 116, 101]⟩ : ByteArray), (⟨#[100, 101, 108, 101, 116, 101]⟩ : ByteArray), (⟨#[114, 101, 118, 101, 114, 116]⟩ : ByteArray), (⟨#[108, 105, 115, 116]⟩ : ByteArray)]
def wd (a : Int) : ByteArray := rdOf ByteArray.empty wds a
theorem wd_le {a : Int} (h0 : 1 ≤ a) (h1 : a ≤ 8) : (wd a).size ≤ 6 := by
  have ha : a = 1 ∨ a = 2 ∨ a = 3 ∨ a = 4 ∨ a = 5 ∨ a = 6 ∨ a = 7 ∨ a = 8 := by omega
  rcases ha with rfl | rfl | rfl | rfl | rfl | rfl | rfl | rfl <;> exact of_decide_eq_true rfl
def txt (a b c : Int) (s : ByteArray) : ByteArray := if a = 1 ∨ a = 3 ∨ a = 4 then (wd a ++ bl) ++ dgs b else if a = 2 then (((wd a ++ bl) ++ dgs b) ++ bl) ++ dgs c else if a = 8 then wd a else (wd a ++ bl) ++ s
theorem spec_txt {a b c : Int} {s : ByteArray} (h0 : 1 ≤ a) (h1 : a ≤ 8) (hb0 : 0 ≤ b) (hb : b ≤ 2147483647) (hc0 : 0 ≤ c) (hc : c ≤ 2147483647) (hs : (s.size : Int) ≤ 65536) : Ev (fun k => spec_l13Text.f k a b c s) (txt a b c s) := by
  have hw := wd_le h0 h1
  obtain ⟨d1, d2⟩ := digits_ev b.toNat b hb0 (Nat.le_refl _) (by omega)
  obtain ⟨e1, e2⟩ := digits_ev c.toNat c hc0 (Nat.le_refl _) (by omega)
  have z1 : (wd a ++ bl).size = (wd a).size + 1 := by rw [ba_size_append, bl_size]
  have z2 : ((wd a ++ bl) ++ dgs b).size = (wd a).size + 1 + (dgs b).size := by rw [ba_size_append, z1]
  have z3 : (((wd a ++ bl) ++ dgs b) ++ bl).size = (wd a).size + 1 + (dgs b).size + 1 := by rw [ba_size_append, z2, bl_size]
  unfold spec_l13Text.f
  refine ev_bind (ev_of_eq fun _ => (rfl : spec_l13Words.f = some wds)) (ev_pos (by omega) (ev_pos (by show a < (9 : Int); omega) ?_))
  show Ev (fun k => if a = 1 then spec_l13Text.j0 k (wd a) a (a == 1) a b c s else if a = 3 then spec_l13Text.j0 k (wd a) a (a == 3) a b c s else spec_l13Text.j0 k (wd a) a (a == 4) a b c s) (txt a b c s)
  have one : ∀ y : Bool, y = true → txt a b c s = (wd a ++ bl) ++ dgs b → Ev (fun k => spec_l13Text.j0 k (wd a) a y a b c s) (txt a b c s) := by
    intro y hy ht
    rw [ht]
    refine Ev.succ ?_
    simp only [spec_l13Text.j0]
    exact ev_pos hy (ev_pos (by omega) (ev_bind d1 (ev_pos (by show (wd a ++ bl).size + _ ≤ _; omega) (ev_some _))))
  by_cases a1 : a = 1
  · exact ev_pos a1 (one _ (by simp [a1]) (by simp [txt, a1]))
  · refine ev_neg a1 ?_
    by_cases a3 : a = 3
    · exact ev_pos a3 (one _ (by simp [a3]) (by simp [txt, a3]))
    · refine ev_neg a3 ?_
      by_cases a4 : a = 4
      · exact one _ (by simp [a4]) (by simp [txt, a4])
      · refine Ev.succ ?_
        simp only [spec_l13Text.j0]
        refine ev_neg (by simp [a4]) ?_
        by_cases a2 : a = 2
        · have ht : txt a b c s = (((wd a ++ bl) ++ dgs b) ++ bl) ++ dgs c := by unfold txt; rw [if_neg (by omega), if_pos a2]
          rw [ht]
          exact ev_pos a2 (ev_pos (by omega) (ev_bind d1 (ev_pos (by show (wd a ++ bl).size + _ ≤ _; omega) (ev_pos (by show ((wd a ++ bl) ++ dgs b).size + 1 ≤ _; omega) (ev_bind e1 (ev_pos (by show (((wd a ++ bl) ++ dgs b) ++ bl).size + _ ≤ _; omega) (ev_some _)))))))
        · refine ev_neg a2 ?_
          by_cases a8 : a = 8
          · have ht : txt a b c s = wd a := by unfold txt; rw [if_neg (by omega), if_neg a2, if_pos a8]
            rw [ht]
            exact ev_pos a8 (ev_some _)
          · have ht : txt a b c s = (wd a ++ bl) ++ s := by unfold txt; rw [if_neg (by omega), if_neg a2, if_neg a8]
            rw [ht]
            exact ev_neg a8 (ev_pos (by omega) (ev_pos (by show (wd a ++ bl).size + _ ≤ _; omega) (ev_some _)))
theorem impl_txt {a b c : Int} {s : ByteArray} (h0 : 1 ≤ a) (h1 : a ≤ 8) (hb0 : 0 ≤ b) (hb : b ≤ 2147483647) (hc0 : 0 ≤ c) (hc : c ≤ 2147483647) (hs : (s.size : Int) ≤ 65536) : Ev (fun k => impl_Req_text.f k a b c s) (txt a b c s) := by
  have hw := wd_le h0 h1
  obtain ⟨d1, d2⟩ := digits_ev b.toNat b hb0 (Nat.le_refl _) (by omega)
  obtain ⟨e1, e2⟩ := digits_ev c.toNat c hc0 (Nat.le_refl _) (by omega)
  unfold impl_Req_text.f
  refine ev_bind (ev_of_eq fun _ => (rfl : impl_reqWords.f = some wds)) (ev_pos (by omega) (ev_pos (by show a < (9 : Int); omega) ?_))
  show Ev (fun k => if a = 1 then impl_Req_text.j0 k (wd a) a (a == 1) a b c s else if a = 3 then impl_Req_text.j0 k (wd a) a (a == 3) a b c s else impl_Req_text.j0 k (wd a) a (a == 4) a b c s) (txt a b c s)
  have sN : Ev (fun k => impl_said.f [Any.s (wd a), Any.n b]) ((wd a ++ bl) ++ dgs b) := ev_of_eq fun _ => by rw [said2_eq (wd a) (.n b) ⟨hb0, by omega⟩ (by omega) 2147483648 (by omega) (by show 1 ≤ _; omega) (by intro y hy; rw [List.mem_singleton.1 hy]; omega)]; exact congrArg some (ba_assoc _ _ _).symm
  have sNN : Ev (fun k => impl_said.f [Any.s (wd a), Any.n b, Any.n c]) ((((wd a ++ bl) ++ dgs b) ++ bl) ++ dgs c) := ev_of_eq fun _ => by rw [said3_eq (wd a) (.n b) (.n c) ⟨hb0, by omega⟩ ⟨hc0, by omega⟩ (by omega) 2147483648 (by omega) (by show 1 ≤ _; omega) (by show 1 ≤ _; omega) (by intro y hy; rw [List.mem_singleton.1 hy]; omega) (by intro y hy; rw [List.mem_singleton.1 hy]; omega)]; show some ((wd a ++ (bl ++ dgs b)) ++ (bl ++ dgs c)) = _; simp only [ba_assoc]
  have sS : Ev (fun k => impl_said.f [Any.s (wd a), Any.s s]) ((wd a ++ bl) ++ s) := ev_of_eq fun _ => by rw [said2_eq (wd a) (.s s) trivial (by omega) 65536 (by omega) (by show 1 ≤ _; omega) (by intro y hy; rw [List.mem_singleton.1 hy]; omega)]; exact congrArg some (ba_assoc _ _ _).symm
  have one : ∀ y : Bool, y = true → txt a b c s = (wd a ++ bl) ++ dgs b → Ev (fun k => impl_Req_text.j0 k (wd a) a y a b c s) (txt a b c s) := by
    intro y hy ht
    rw [ht]
    refine Ev.succ ?_
    simp only [impl_Req_text.j0]
    exact ev_pos hy (ev_bind sN (ev_some _))
  by_cases a1 : a = 1
  · exact ev_pos a1 (one _ (by simp [a1]) (by simp [txt, a1]))
  · refine ev_neg a1 ?_
    by_cases a3 : a = 3
    · exact ev_pos a3 (one _ (by simp [a3]) (by simp [txt, a3]))
    · refine ev_neg a3 ?_
      by_cases a4 : a = 4
      · exact one _ (by simp [a4]) (by simp [txt, a4])
      · refine Ev.succ ?_
        simp only [impl_Req_text.j0]
        refine ev_neg (by simp [a4]) ?_
        by_cases a2 : a = 2
        · have ht : txt a b c s = (((wd a ++ bl) ++ dgs b) ++ bl) ++ dgs c := by unfold txt; rw [if_neg (by omega), if_pos a2]
          rw [ht]
          exact ev_pos a2 (ev_bind sNN (ev_some _))
        · refine ev_neg a2 ?_
          by_cases a8 : a = 8
          · have ht : txt a b c s = wd a := by unfold txt; rw [if_neg (by omega), if_neg a2, if_pos a8]
            rw [ht]
            exact ev_neg (by omega) (ev_neg (by omega) (ev_neg (by omega) (ev_some _)))
          · have ht : txt a b c s = (wd a ++ bl) ++ s := by unfold txt; rw [if_neg (by omega), if_neg a2, if_neg a8]
            rw [ht]
            by_cases a5 : a = 5
            · exact ev_pos a5 (ev_bind sS (ev_some _))
            · by_cases a6 : a = 6
              · exact ev_neg a5 (ev_pos a6 (ev_bind sS (ev_some _)))
              · exact ev_neg a5 (ev_neg a6 (ev_pos (by omega) (ev_bind sS (ev_some _))))
def told (a b c : Int) (s : ByteArray) : Bool := inB b 0 2147483647 && (inB c 0 2147483647 && (if inB a 5 7 = true then nmOK s else true))
def res (a b c : Int) (s : ByteArray) : ByteArray × Int := if okQ a b c s = true then (if told a b c s = true then (txt a b c s, 0) else ((⟨#[]⟩ : ByteArray), 1)) else ((⟨#[]⟩ : ByteArray), 1)
theorem okQ_facts {a b c : Int} {s : ByteArray} (h : okQ a b c s = true) : 1 ≤ a ∧ a ≤ 8 ∧ (s.size : Int) ≤ 65536 := by
  unfold okQ at h
  simp only [Bool.and_eq_true, inB_iff, Bool.not_eq_true', decide_eq_false_iff_not] at h
  omega
theorem ok_ev (a b c : Int) (s : ByteArray) : Ev (fun k => spec_ReqOK.f k a b c s) (okQ a b c s) ∧ Ev (fun k => impl_ReqOK.f k a b c s) (okQ a b c s) := by
  refine ⟨⟨5, fun k hk => ?_⟩, ⟨5, fun k hk => ?_⟩⟩
  · obtain ⟨j, rfl⟩ : ∃ j, k = j + 5 := ⟨k - 5, by omega⟩
    exact (both_ok a b c s j).1
  · obtain ⟨j, rfl⟩ : ∃ j, k = j + 5 := ⟨k - 5, by omega⟩
    exact (both_ok a b c s j).2
theorem told_facts {a b c : Int} {s : ByteArray} (h : told a b c s = true) : 0 ≤ b ∧ b ≤ 2147483647 ∧ 0 ≤ c ∧ c ≤ 2147483647 := by
  unfold told at h
  simp only [Bool.and_eq_true, inB_iff] at h
  omega
theorem spec_ev (a b c : Int) (s : ByteArray) : Ev (fun k => spec_ReqText.f k a b c s) (res a b c s) := by
  unfold spec_ReqText.f res
  refine ev_bind (ok_ev a b c s).1 ?_
  cases hk : okQ a b c s
  · exact ev_neg (by decide) (ev_some _)
  · obtain ⟨h0, h1, hs⟩ := okQ_facts hk
    have hn := spec_Name_ev s (by omega)
    have hT := fun h => (told_facts (a := a) (b := b) (c := c) (s := s) h)
    refine ev_pos rfl ?_
    simp only [spec_l02Int.f, l01In_eq, Option.bind_some, if_true]
    cases hb : inB b 0 2147483647
    · rw [show told a b c s = false by simp [told, hb]]; exact ev_neg (by decide) (ev_some _)
    · refine ev_pos rfl ?_
      cases hc : inB c 0 2147483647
      · rw [show told a b c s = false by simp [told, hc]]; exact ev_neg (by decide) (ev_some _)
      · refine ev_pos rfl ?_
        cases h5 : inB a 5 7
        · have ht : told a b c s = true := by simp [told, hb, hc, h5]
          obtain ⟨t1, t2, t3, t4⟩ := hT ht
          rw [ht]
          exact ev_neg (by decide) (ev_bind (spec_txt h0 h1 t1 t2 t3 t4 hs) (ev_some _))
        · refine ev_pos rfl (ev_bind hn ?_)
          cases h6 : nmOK s
          · rw [show told a b c s = false by simp [told, h5, h6]]; exact ev_neg (by decide) (ev_some _)
          · have ht : told a b c s = true := by simp [told, hb, hc, h5, h6]
            obtain ⟨t1, t2, t3, t4⟩ := hT ht
            rw [ht]
            exact ev_pos rfl (ev_bind (spec_txt h0 h1 t1 t2 t3 t4 hs) (ev_some _))
theorem impl_ev (a b c : Int) (s : ByteArray) : Ev (fun k => impl_ReqText.f k a b c s) (res a b c s) := by
  unfold impl_ReqText.f res
  refine ev_bind (ok_ev a b c s).2 ?_
  cases hk : okQ a b c s
  · exact ev_neg (by decide) (ev_some _)
  · obtain ⟨h0, h1, hs⟩ := okQ_facts hk
    have hn := impl_Name_ev s (by omega)
    have hI : Ev (fun k => impl_Req_isTold.f k a b c s) (told a b c s) := by
      unfold impl_Req_isTold.f told
      simp only [impl_isNumber.f, within_eq, Option.bind_some]
      cases hb : inB b 0 2147483647
      · exact ev_neg (by decide) (ev_some _)
      · refine ev_pos rfl ?_
        cases hc : inB c 0 2147483647
        · exact ev_neg (by decide) (ev_some _)
        · refine ev_pos rfl ?_
          cases h5 : inB a 5 7
          · exact ev_neg (by decide) (ev_some _)
          · exact ev_pos rfl (ev_bind hn (ev_some _))
    refine ev_pos rfl (ev_bind hI ?_)
    cases ht : told a b c s
    · exact ev_neg (by decide) (ev_some _)
    · obtain ⟨t1, t2, t3, t4⟩ := told_facts ht
      exact ev_pos rfl (ev_bind (impl_txt h0 h1 t1 t2 t3 t4 hs) (ev_some _))
end Go.Proofs.YtniceoohmhjjlaaDoor.Q
