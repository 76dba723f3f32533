/- What laws.FnExactReplyText reaches, part 4: the functions as Lean functions, the proofs that the program's functions answer so, and plain laws about them. -/
import Derived.Test.YtniceoohmhjjlaaDoorKFnExactReplyText1
import Derived.Test.YtniceoohmhjjlaaDoorKFnExactReplyText2
import Derived.Test.YtniceoohmhjjlaaDoorKFnExactReplyText3
namespace Go.Proofs.YtniceoohmhjjlaaDoor.Q
open Go.RowKit Go.Proofs.YtniceoohmhjjlaaDoor.Ext Go.Proofs.YtniceoohmhjjlaaDoorW.PrintWords Go.Proofs.YtniceoohmhjjlaaDoorW.PrintLast Go.Proofs.YtniceoohmhjjlaaDoorW.PrintMore
attribute [local go_sem] max2_int min2_int max_two min_two max_three min_three max_four min_four   -- for this text's walks alone
set_option linter.unusedVariables false
set_option linter.unusedSimpArgs false

set_option linter.unusedVariables false
set_option linter.unusedSimpArgs false
/-! ### laws_FnExactReplyText: function 6 -/
def laws_FnExactReplyText.f (k : Nat) (a0_0 : Int) (a0_1 : Int) (a0_2 : Int) (a0_3 : ByteArray) (a1_0 : Int) (a1_1 : Int) (l1_2 : List ByteArray) : Option (Bool) := (laws_szReq.f a0_0 a0_1 a0_2 a0_3 1048576).bind fun t195 => (if t195 < 0 then (some true) else ((laws_szReply.f k a1_0 a1_1 l1_2 t195).bind fun t196 => (if t196 < 0 then (some true) else ((laws_toReq.f a0_0 a0_1 a0_2 a0_3).bind fun bt197 => ((laws_toReply.f k a1_0 a1_1 l1_2).bind fun bt201 => ((spec_ReplyText.f k bt197.1 bt197.2.1 bt197.2.2.1 bt197.2.2.2 bt201.1 bt201.2.1 bt201.2.2).bind fun bt206 => ((laws_toReply.f k a1_0 a1_1 l1_2).bind fun bt208 => ((laws_toReq.f a0_0 a0_1 a0_2 a0_3).bind fun bt214 => ((impl_ReplyText.f k bt214.1 bt214.2.1 bt214.2.2.1 bt214.2.2.2 bt208.1 bt208.2.1 bt208.2.2).bind fun bt218 => (if bt218.1.toList = bt206.1.toList then (if bt218.2 = bt206.2 then ((laws_toReply.f k a1_0 a1_1 l1_2).bind fun bt220 => ((laws_eqReply.f k bt208.1 bt208.2.1 bt208.2.2 bt220.1 bt220.2.1 bt220.2.2).bind fun t225 => (if t225 = true then (some true) else (some false)))) else (some false)) else (some false)))))))))))
theorem laws_FnExactReplyText.mono : ∀ a0 a1 a2 a3 a4 a5 a6 k, LeO (laws_FnExactReplyText.f k a0 a1 a2 a3 a4 a5 a6) (laws_FnExactReplyText.f (k + 1) a0 a1 a2 a3 a4 a5 a6) := by
  intro a0 a1 a2 a3 a4 a5 a6 k
  unfold laws_FnExactReplyText.f
  repeat' first
      | (with_reducible exact impl_ReplyText.mono _ _ _ _ _ _ _ _)
      | (with_reducible exact laws_eqReply.mono _ _ _ _ _ _ _)
      | (with_reducible exact laws_szReply.mono _ _ _ _ _)
      | (with_reducible exact laws_toReply.mono _ _ _ _)
      | (with_reducible exact spec_ReplyText.mono _ _ _ _ _ _ _ _)
      | (with_reducible exact LeO.refl _)
      | (with_reducible exact LeO.none _)
      | (with_reducible refine LeO.ite ?_ ?_)
      | (with_reducible refine LeO.bind ?_ (fun _ => ?_))
      | exact impl_ReplyText.mono _ _ _ _ _ _ _ _
      | exact laws_eqReply.mono _ _ _ _ _ _ _
      | exact laws_szReply.mono _ _ _ _ _
      | exact laws_toReply.mono _ _ _ _
      | exact spec_ReplyText.mono _ _ _ _ _ _ _ _
      | exact LeO.none _
      | refine LeO.ite ?_ ?_
      | refine LeO.bind ?_ (fun _ => ?_)
def laws_FnExactReplyText.T8 : Bool × List (List Nat × List Nat) := (true, [([], []), ([0], [0]), ([], []), ([2, 1], [2]), ([1, 3, 3], [1, 3]), ([4], [4]), ([5], [5]), ([5], [5]), ([6, 4, 0, 1, 2, 3, 4, 5, 6], [6]), ([7, 8, 0, 1, 2, 3, 4, 5, 6, 7, 8], [7])])
def laws_FnExactReplyText.B8 : List Nat := [0, 1, 0, 7, 15, 31, 63, 63, 127, 511]
theorem laws_FnExactReplyText.tab8 : rtab .any (opsOf Tryd.f6 8) = laws_FnExactReplyText.T8 := by kernel_rfl
theorem laws_FnExactReplyText.bits8 : waitsOk laws_FnExactReplyText.T8.2 laws_FnExactReplyText.B8 = true := by kernel_rfl
def laws_FnExactReplyText.T10 : Bool × List (List Nat × List Nat) := (true, [([], []), ([0], [0]), ([], []), ([1, 2, 1], [1, 2]), ([3], [3]), ([4], [4]), ([4], [4]), ([5, 3, 0, 1, 2, 3, 4, 5], [5]), ([6, 7, 0, 1, 2, 3, 4, 5, 6, 7], [6])])
def laws_FnExactReplyText.B10 : List Nat := [0, 1, 0, 7, 15, 31, 31, 63, 255]
theorem laws_FnExactReplyText.tab10 : rtab .any (opsOf Tryd.f6 10) = laws_FnExactReplyText.T10 := by kernel_rfl
theorem laws_FnExactReplyText.bits10 : waitsOk laws_FnExactReplyText.T10.2 laws_FnExactReplyText.B10 = true := by kernel_rfl
set_option maxHeartbeats 8000000 in
set_option maxRecDepth 100000 in
theorem laws_FnExactReplyText.calls (k : Nat) (a0_0 : Int) (a0_1 : Int) (a0_2 : Int) (a0_3 : ByteArray) (a1_0 : Int) (a1_1 : Int) (A1_2 : Option Addr) (c1_2 : Nat) (l1_2 : List ByteArray) (r : Bool) (w : World) (hr1_2 : Kd.C Kd.string w A1_2 l1_2.length l1_2) (hc1_2 : l1_2.length ≤ c1_2) (h : laws_FnExactReplyText.f k a0_0 a0_1 a0_2 a0_3 a1_0 a1_1 l1_2 = some r) (hr_ : Aside0 (r = true)) (HTB_ : TrydTab w := by first | exact HTB_ | exact TrydTab.to HTB_ HB.out | exact TrydTab.to HTB_ (by repeat (first | exact HB.out | apply below_alloc | apply pw_below_drewN | apply below_drew1))) :
    Calls Tryd.prog 6 #[.agg #[.int .i64 a0_0, .int .i64 a0_1, .int .i64 a0_2, .string a0_3], .agg #[.int .i64 a1_0, .int .i64 a1_1, .slice A1_2 l1_2.length c1_2]] w fun e w' => e = .returned (.bool r) ∧ Below w.heap.size w w' := by
 have hu33 := Tryd.underlying33
 have hu39 := Tryd.underlying39
 have hu42 := Tryd.underlying42
 have Zn := zm hr1_2
 have Zo := zm hc1_2
 clear hr1_2 hc1_2
 have HB := zm (Below.refl w.heap.size w)
 have H : ((laws_szReq.f a0_0 a0_1 a0_2 a0_3 1048576).bind fun t195 => (if t195 < 0 then (some true) else ((laws_szReply.f k a1_0 a1_1 l1_2 t195).bind fun t196 => (if t196 < 0 then (some true) else ((laws_toReq.f a0_0 a0_1 a0_2 a0_3).bind fun bt197 => ((laws_toReply.f k a1_0 a1_1 l1_2).bind fun bt201 => ((spec_ReplyText.f k bt197.1 bt197.2.1 bt197.2.2.1 bt197.2.2.2 bt201.1 bt201.2.1 bt201.2.2).bind fun bt206 => ((laws_toReply.f k a1_0 a1_1 l1_2).bind fun bt208 => ((laws_toReq.f a0_0 a0_1 a0_2 a0_3).bind fun bt214 => ((impl_ReplyText.f k bt214.1 bt214.2.1 bt214.2.2.1 bt214.2.2.2 bt208.1 bt208.2.1 bt208.2.2).bind fun bt218 => (if bt218.1.toList = bt206.1.toList then (if bt218.2 = bt206.2 then ((laws_toReply.f k a1_0 a1_1 l1_2).bind fun bt220 => ((laws_eqReply.f k bt208.1 bt208.2.1 bt208.2.2 bt220.1 bt220.2.1 bt220.2.2).bind fun t225 => (if t225 = true then (some true) else (some false)))) else (some false)) else (some false)))))))))))) = some r := h
 clear h
 replace H := Option.bind_eq_some_iff.mp H
 obtain ⟨t195, A30, H⟩ := H
 replace H : (if t195 < 0 then (some true) else ((laws_szReply.f k a1_0 a1_1 l1_2 t195).bind fun t196 => (if t196 < 0 then (some true) else ((laws_toReq.f a0_0 a0_1 a0_2 a0_3).bind fun bt197 => ((laws_toReply.f k a1_0 a1_1 l1_2).bind fun bt201 => ((spec_ReplyText.f k bt197.1 bt197.2.1 bt197.2.2.1 bt197.2.2.2 bt201.1 bt201.2.1 bt201.2.2).bind fun bt206 => ((laws_toReply.f k a1_0 a1_1 l1_2).bind fun bt208 => ((laws_toReq.f a0_0 a0_1 a0_2 a0_3).bind fun bt214 => ((impl_ReplyText.f k bt214.1 bt214.2.1 bt214.2.2.1 bt214.2.2.2 bt208.1 bt208.2.1 bt208.2.2).bind fun bt218 => (if bt218.1.toList = bt206.1.toList then (if bt218.2 = bt206.2 then ((laws_toReply.f k a1_0 a1_1 l1_2).bind fun bt220 => ((laws_eqReply.f k bt208.1 bt208.2.1 bt208.2.2 bt220.1 bt220.2.1 bt220.2.2).bind fun t225 => (if t225 = true then (some true) else (some false)))) else (some false)) else (some false))))))))))) = some r := H
 have A3 := zm A30
 clear A30
 by_cases c4 : t195 < 0
 ·rw [if_pos c4] at H
  have c4b0 : decide (t195 < 0) = true := decide_eq_true c4
  clear c4
  obtain rfl := Option.some.inj H
  go_enter Tryd.func6, Tryd.ntmps6
  go_wp2_with (first | ((with_reducible refine gate_dst (N := 2) rfl ?_); refine box_event ?hg (N := 2) ?hd (cs := #[.int .i64 a0_0, .int .i64 a0_1, .int .i64 a0_2, .string a0_3]) (t := 33) ?hr ?_; (case hd => rfl); (case hg => rfl); (case hr => first | (go_simp; done) | (go_simp; rfl)); intro gb193 hg w5 hbox hb; have n0_ := zm (below_step (zg_0 HB.out) hb); have n1_ := zm (hbox); have n2_ := zm ((by rw [hg]; exact (below_size (zg_0 HB.out)) : w.heap.size ≤ gb193)); have n3_ := zm ((by rw [hg]; exact (below_size (zg_0 HB.out)) : w.heap.size ≤ gb193)); clear HB; have HB := n0_; have Za := n1_; have Zr := n2_; have Zd := n3_; clear n0_ n1_ n2_ n3_; clear hb hbox hg) | ((with_reducible refine gate_dst (N := 3) rfl ?_); refine box_event ?hg (N := 3) ?hd (cs := #[.int .i64 a1_0, .int .i64 a1_1, .slice A1_2 l1_2.length c1_2]) (t := 39) ?hr ?_; (case hd => rfl); (case hg => rfl); (case hr => first | (go_simp; done) | (go_simp; rfl)); intro gb194 hg w6 hbox hb; have n0_ := zm (blk_below (g := gb193) (o := .cells #[.int .i64 a0_0, .int .i64 a0_1, .int .i64 a0_2, .string a0_3] 33 (0, 0)) (zg_1 Za.out) hb); have n1_ := zm (below_step (zg_2 HB.out Zd.out) hb); have n2_ := zm (hbox); have n3_ := zm ((by rw [hg]; exact (below_size (zg_2 HB.out Zd.out)) : w.heap.size ≤ gb194)); have n4_ := zm ((by rw [hg]; exact (below_size (zg_2 HB.out Zd.out)) : w.heap.size ≤ gb194)); have n5_ := zm ((by rw [hg]; exact Nat.ne_of_lt (blk_lt (g := gb193) (o := .cells #[.int .i64 a0_0, .int .i64 a0_1, .int .i64 a0_2, .string a0_3] 33 (0, 0)) (zg_1 Za.out)) : gb193 ≠ gb194)); have n6_ := zm ((by rw [hg]; exact Nat.ne_of_gt (blk_lt (g := gb193) (o := .cells #[.int .i64 a0_0, .int .i64 a0_1, .int .i64 a0_2, .string a0_3] 33 (0, 0)) (zg_1 Za.out)) : gb194 ≠ gb193)); clear Za; clear HB; have Za := n0_; have HB := n1_; have Zb := n2_; have Zs := n3_; have Zf := n4_; have Zg := n5_; have Zh := n6_; clear n0_ n1_ n2_ n3_ n4_ n5_ n6_; clear hb hbox hg; have hnb7 := Zg.out; have hnc7 := Zh.out; have hcz8_0 : w6.cell? ⟨gb193, 0, none⟩ = some (.int .i64 a0_0) := (blk_cell Za.out 0).trans rfl; have hcz8_1 : w6.cell? ⟨gb193, 1, none⟩ = some (.int .i64 a0_1) := (blk_cell Za.out 1).trans rfl; have hcz8_2 : w6.cell? ⟨gb193, 2, none⟩ = some (.int .i64 a0_2) := (blk_cell Za.out 2).trans rfl; have hcz8_3 : w6.cell? ⟨gb193, 3, none⟩ = some (.string a0_3) := (blk_cell Za.out 3).trans rfl; have hfz8_0 := blk_frozen Za.out 0; have hfz8_1 := blk_frozen Za.out 1; have hfz8_2 := blk_frozen Za.out 2; have hfz8_3 := blk_frozen Za.out 3) | ((with_reducible refine gate_callee (f := 14) rfl ?_); refine goesL_ (some 13) rfl rfl Tryd.func14 (by kernel_rfl) rfl #[.agg #[.int .i64 a0_0, .int .i64 a0_1, .int .i64 a0_2, .string a0_3], .int .i64 1048576] rfl zq ?_; (with_reducible refine (laws_szReq.calls a0_0 a0_1 a0_2 a0_3 1048576 t195 _ A3.out).mono ?_); rintro e w9 ⟨rfl, hb⟩; refine ⟨_, rfl, ?_⟩; have n0_ := zm (blk_below (g := gb193) (o := .cells #[.int .i64 a0_0, .int .i64 a0_1, .int .i64 a0_2, .string a0_3] 33 (0, 0)) (zg_1 Za.out) hb); have n1_ := zm (blk_below (g := gb194) (o := .cells #[.int .i64 a1_0, .int .i64 a1_1, .slice A1_2 l1_2.length c1_2] 39 (0, 0)) (zg_1 Zb.out) hb); have n2_ := zm (below_step (zg_3 HB.out Zd.out Zf.out) hb); clear Za; clear Zb; clear HB; have Za := n0_; have Zb := n1_; have HB := n2_; clear n0_ n1_ n2_; (try clear hb); (try clear hb2); (try clear hk); (try clear hi)))
  go_ret
  exact ⟨by first | rfl | (simp [errW_none, errW_some] <;> rfl) | (simp [*, errW_none, errW_some] <;> rfl), zg_3 HB.out Zd.out Zf.out⟩
 ·rw [if_neg c4] at H
  have c4b0 : decide (t195 < 0) = false := decide_eq_false c4
  clear c4
  replace H := Option.bind_eq_some_iff.mp H
  obtain ⟨t196, A100, H⟩ := H
  replace H : (if t196 < 0 then (some true) else ((laws_toReq.f a0_0 a0_1 a0_2 a0_3).bind fun bt197 => ((laws_toReply.f k a1_0 a1_1 l1_2).bind fun bt201 => ((spec_ReplyText.f k bt197.1 bt197.2.1 bt197.2.2.1 bt197.2.2.2 bt201.1 bt201.2.1 bt201.2.2).bind fun bt206 => ((laws_toReply.f k a1_0 a1_1 l1_2).bind fun bt208 => ((laws_toReq.f a0_0 a0_1 a0_2 a0_3).bind fun bt214 => ((impl_ReplyText.f k bt214.1 bt214.2.1 bt214.2.2.1 bt214.2.2.2 bt208.1 bt208.2.1 bt208.2.2).bind fun bt218 => (if bt218.1.toList = bt206.1.toList then (if bt218.2 = bt206.2 then ((laws_toReply.f k a1_0 a1_1 l1_2).bind fun bt220 => ((laws_eqReply.f k bt208.1 bt208.2.1 bt208.2.2 bt220.1 bt220.2.1 bt220.2.2).bind fun t225 => (if t225 = true then (some true) else (some false)))) else (some false)) else (some false))))))))) = some r := H
  have A10 := zm A100
  clear A100
  by_cases c11 : t196 < 0
  ·rw [if_pos c11] at H
   have c11b0 : decide (t196 < 0) = true := decide_eq_true c11
   clear c11
   obtain rfl := Option.some.inj H
   go_enter Tryd.func6, Tryd.ntmps6
   go_wp2_with (first | ((with_reducible refine gate_dst (N := 2) rfl ?_); refine box_event ?hg (N := 2) ?hd (cs := #[.int .i64 a0_0, .int .i64 a0_1, .int .i64 a0_2, .string a0_3]) (t := 33) ?hr ?_; (case hd => rfl); (case hg => rfl); (case hr => first | (go_simp; done) | (go_simp; rfl)); intro gb193 hg w12 hbox hb; have n0_ := zm (below_step (zg_0 HB.out) hb); have n1_ := zm (hbox); have n2_ := zm ((by rw [hg]; exact (below_size (zg_0 HB.out)) : w.heap.size ≤ gb193)); have n3_ := zm ((by rw [hg]; exact (below_size (zg_0 HB.out)) : w.heap.size ≤ gb193)); clear HB; have HB := n0_; have Za := n1_; have Zr := n2_; have Zd := n3_; clear n0_ n1_ n2_ n3_; clear hb hbox hg) | ((with_reducible refine gate_dst (N := 3) rfl ?_); refine box_event ?hg (N := 3) ?hd (cs := #[.int .i64 a1_0, .int .i64 a1_1, .slice A1_2 l1_2.length c1_2]) (t := 39) ?hr ?_; (case hd => rfl); (case hg => rfl); (case hr => first | (go_simp; done) | (go_simp; rfl)); intro gb194 hg w13 hbox hb; have n0_ := zm (blk_below (g := gb193) (o := .cells #[.int .i64 a0_0, .int .i64 a0_1, .int .i64 a0_2, .string a0_3] 33 (0, 0)) (zg_1 Za.out) hb); have n1_ := zm (below_step (zg_2 HB.out Zd.out) hb); have n2_ := zm (hbox); have n3_ := zm ((by rw [hg]; exact (below_size (zg_2 HB.out Zd.out)) : w.heap.size ≤ gb194)); have n4_ := zm ((by rw [hg]; exact (below_size (zg_2 HB.out Zd.out)) : w.heap.size ≤ gb194)); have n5_ := zm ((by rw [hg]; exact Nat.ne_of_lt (blk_lt (g := gb193) (o := .cells #[.int .i64 a0_0, .int .i64 a0_1, .int .i64 a0_2, .string a0_3] 33 (0, 0)) (zg_1 Za.out)) : gb193 ≠ gb194)); have n6_ := zm ((by rw [hg]; exact Nat.ne_of_gt (blk_lt (g := gb193) (o := .cells #[.int .i64 a0_0, .int .i64 a0_1, .int .i64 a0_2, .string a0_3] 33 (0, 0)) (zg_1 Za.out)) : gb194 ≠ gb193)); clear Za; clear HB; have Za := n0_; have HB := n1_; have Zb := n2_; have Zs := n3_; have Zf := n4_; have Zg := n5_; have Zh := n6_; clear n0_ n1_ n2_ n3_ n4_ n5_ n6_; clear hb hbox hg; have hnb14 := Zg.out; have hnc14 := Zh.out; have hcz15_0 : w13.cell? ⟨gb193, 0, none⟩ = some (.int .i64 a0_0) := (blk_cell Za.out 0).trans rfl; have hcz15_1 : w13.cell? ⟨gb193, 1, none⟩ = some (.int .i64 a0_1) := (blk_cell Za.out 1).trans rfl; have hcz15_2 : w13.cell? ⟨gb193, 2, none⟩ = some (.int .i64 a0_2) := (blk_cell Za.out 2).trans rfl; have hcz15_3 : w13.cell? ⟨gb193, 3, none⟩ = some (.string a0_3) := (blk_cell Za.out 3).trans rfl; have hfz15_0 := blk_frozen Za.out 0; have hfz15_1 := blk_frozen Za.out 1; have hfz15_2 := blk_frozen Za.out 2; have hfz15_3 := blk_frozen Za.out 3) | ((with_reducible refine gate_callee (f := 14) rfl ?_); refine goesL_ (some 13) rfl rfl Tryd.func14 (by kernel_rfl) rfl #[.agg #[.int .i64 a0_0, .int .i64 a0_1, .int .i64 a0_2, .string a0_3], .int .i64 1048576] rfl zq ?_; (with_reducible refine (laws_szReq.calls a0_0 a0_1 a0_2 a0_3 1048576 t195 _ A3.out).mono ?_); rintro e w16 ⟨rfl, hb⟩; refine ⟨_, rfl, ?_⟩; have n0_ := zm (blk_below (g := gb193) (o := .cells #[.int .i64 a0_0, .int .i64 a0_1, .int .i64 a0_2, .string a0_3] 33 (0, 0)) (zg_1 Za.out) hb); have n1_ := zm (blk_below (g := gb194) (o := .cells #[.int .i64 a1_0, .int .i64 a1_1, .slice A1_2 l1_2.length c1_2] 39 (0, 0)) (zg_1 Zb.out) hb); have n2_ := zm (below_step (zg_3 HB.out Zd.out Zf.out) hb); clear Za; clear Zb; clear HB; have Za := n0_; have Zb := n1_; have HB := n2_; clear n0_ n1_ n2_; (try clear hb); (try clear hb2); (try clear hk); (try clear hi); have hcz17_0 : w16.cell? ⟨gb194, 0, none⟩ = some (.int .i64 a1_0) := (blk_cell Zb.out 0).trans rfl; have hcz17_1 : w16.cell? ⟨gb194, 1, none⟩ = some (.int .i64 a1_1) := (blk_cell Zb.out 1).trans rfl; have hcz17_2 : w16.cell? ⟨gb194, 2, none⟩ = some (.slice A1_2 l1_2.length c1_2) := (blk_cell Zb.out 2).trans rfl; have hfz17_0 := blk_frozen Zb.out 0; have hfz17_1 := blk_frozen Zb.out 1; have hfz17_2 := blk_frozen Zb.out 2) | ((with_reducible refine gate_callee (f := 16) rfl ?_); refine goesL_ (some 18) rfl rfl Tryd.func16 (by kernel_rfl) rfl #[.agg #[.int .i64 a1_0, .int .i64 a1_1, .slice A1_2 l1_2.length c1_2], .int .i64 t195] rfl zq ?_; (with_reducible refine (laws_szReply.calls k a1_0 a1_1 _ _ l1_2 t195 t196 _ ?side1 ?side2 A10.out).mono ?_); (case side1 => exact zC (Kd.C_below Zn.out HB.out)); (case side2 => exact Zo.out); rintro e w18 ⟨rfl, hb⟩; refine ⟨_, rfl, ?_⟩; have n0_ := zm (blk_below (g := gb193) (o := .cells #[.int .i64 a0_0, .int .i64 a0_1, .int .i64 a0_2, .string a0_3] 33 (0, 0)) (zg_1 Za.out) hb); have n1_ := zm (blk_below (g := gb194) (o := .cells #[.int .i64 a1_0, .int .i64 a1_1, .slice A1_2 l1_2.length c1_2] 39 (0, 0)) (zg_1 Zb.out) hb); have n2_ := zm (below_step (zg_3 HB.out Zd.out Zf.out) hb); clear Za; clear Zb; clear HB; have Za := n0_; have Zb := n1_; have HB := n2_; clear n0_ n1_ n2_; (try clear hb); (try clear hb2); (try clear hk); (try clear hi)))
   go_ret
   exact ⟨by first | rfl | (simp [errW_none, errW_some] <;> rfl) | (simp [*, errW_none, errW_some] <;> rfl), zg_3 HB.out Zd.out Zf.out⟩
  ·rw [if_neg c11] at H
   have c11b0 : decide (t196 < 0) = false := decide_eq_false c11
   clear c11
   replace H := Option.bind_eq_some_iff.mp H
   obtain ⟨⟨t197, t198, t199, t200⟩, A190, H⟩ := H
   replace H : ((laws_toReply.f k a1_0 a1_1 l1_2).bind fun bt201 => ((spec_ReplyText.f k t197 t198 t199 t200 bt201.1 bt201.2.1 bt201.2.2).bind fun bt206 => ((laws_toReply.f k a1_0 a1_1 l1_2).bind fun bt208 => ((laws_toReq.f a0_0 a0_1 a0_2 a0_3).bind fun bt214 => ((impl_ReplyText.f k bt214.1 bt214.2.1 bt214.2.2.1 bt214.2.2.2 bt208.1 bt208.2.1 bt208.2.2).bind fun bt218 => (if bt218.1.toList = bt206.1.toList then (if bt218.2 = bt206.2 then ((laws_toReply.f k a1_0 a1_1 l1_2).bind fun bt220 => ((laws_eqReply.f k bt208.1 bt208.2.1 bt208.2.2 bt220.1 bt220.2.1 bt220.2.2).bind fun t225 => (if t225 = true then (some true) else (some false)))) else (some false)) else (some false))))))) = some r := H
   have A19 := zm A190
   clear A190
   replace H := Option.bind_eq_some_iff.mp H
   obtain ⟨⟨t201, t202, t203⟩, A200, H⟩ := H
   replace H : ((spec_ReplyText.f k t197 t198 t199 t200 t201 t202 t203).bind fun bt206 => ((laws_toReply.f k a1_0 a1_1 l1_2).bind fun bt208 => ((laws_toReq.f a0_0 a0_1 a0_2 a0_3).bind fun bt214 => ((impl_ReplyText.f k bt214.1 bt214.2.1 bt214.2.2.1 bt214.2.2.2 bt208.1 bt208.2.1 bt208.2.2).bind fun bt218 => (if bt218.1.toList = bt206.1.toList then (if bt218.2 = bt206.2 then ((laws_toReply.f k a1_0 a1_1 l1_2).bind fun bt220 => ((laws_eqReply.f k bt208.1 bt208.2.1 bt208.2.2 bt220.1 bt220.2.1 bt220.2.2).bind fun t225 => (if t225 = true then (some true) else (some false)))) else (some false)) else (some false)))))) = some r := H
   have A20 := zm A200
   clear A200
   replace H := Option.bind_eq_some_iff.mp H
   obtain ⟨⟨t206, t207⟩, A210, H⟩ := H
   replace H : ((laws_toReply.f k a1_0 a1_1 l1_2).bind fun bt208 => ((laws_toReq.f a0_0 a0_1 a0_2 a0_3).bind fun bt214 => ((impl_ReplyText.f k bt214.1 bt214.2.1 bt214.2.2.1 bt214.2.2.2 bt208.1 bt208.2.1 bt208.2.2).bind fun bt218 => (if bt218.1.toList = t206.toList then (if bt218.2 = t207 then ((laws_toReply.f k a1_0 a1_1 l1_2).bind fun bt220 => ((laws_eqReply.f k bt208.1 bt208.2.1 bt208.2.2 bt220.1 bt220.2.1 bt220.2.2).bind fun t225 => (if t225 = true then (some true) else (some false)))) else (some false)) else (some false))))) = some r := H
   have A21 := zm A210
   clear A210
   replace H := Option.bind_eq_some_iff.mp H
   obtain ⟨⟨t208, t209, t210⟩, A220, H⟩ := H
   replace H : ((laws_toReq.f a0_0 a0_1 a0_2 a0_3).bind fun bt214 => ((impl_ReplyText.f k bt214.1 bt214.2.1 bt214.2.2.1 bt214.2.2.2 t208 t209 t210).bind fun bt218 => (if bt218.1.toList = t206.toList then (if bt218.2 = t207 then ((laws_toReply.f k a1_0 a1_1 l1_2).bind fun bt220 => ((laws_eqReply.f k t208 t209 t210 bt220.1 bt220.2.1 bt220.2.2).bind fun t225 => (if t225 = true then (some true) else (some false)))) else (some false)) else (some false)))) = some r := H
   have A22 := zm A220
   clear A220
   replace H := Option.bind_eq_some_iff.mp H
   obtain ⟨⟨t214, t215, t216, t217⟩, A230, H⟩ := H
   replace H : ((impl_ReplyText.f k t214 t215 t216 t217 t208 t209 t210).bind fun bt218 => (if bt218.1.toList = t206.toList then (if bt218.2 = t207 then ((laws_toReply.f k a1_0 a1_1 l1_2).bind fun bt220 => ((laws_eqReply.f k t208 t209 t210 bt220.1 bt220.2.1 bt220.2.2).bind fun t225 => (if t225 = true then (some true) else (some false)))) else (some false)) else (some false))) = some r := H
   have A23 := zm A230
   clear A230
   replace H := Option.bind_eq_some_iff.mp H
   obtain ⟨⟨t218, t219⟩, A240, H⟩ := H
   replace H : (if t218.toList = t206.toList then (if t219 = t207 then ((laws_toReply.f k a1_0 a1_1 l1_2).bind fun bt220 => ((laws_eqReply.f k t208 t209 t210 bt220.1 bt220.2.1 bt220.2.2).bind fun t225 => (if t225 = true then (some true) else (some false)))) else (some false)) else (some false)) = some r := H
   have A24 := zm A240
   clear A240
   by_cases c25 : t218.toList = t206.toList
   ·rw [if_pos c25] at H
    have c25b0 : (t218.toList == t206.toList) = true := beq_iff_eq.mpr c25
    have c25b1 : (t218.toList != t206.toList) = false := bne_eq_false_iff_eq.mpr c25
    clear c25
    by_cases c26 : t219 = t207
    ·rw [if_pos c26] at H
     have c26b0 : (t219 == t207) = true := beq_iff_eq.mpr c26
     have c26b1 : (t219 != t207) = false := bne_eq_false_iff_eq.mpr c26
     clear c26
     replace H := Option.bind_eq_some_iff.mp H
     obtain ⟨⟨t220, t221, t222⟩, A270, H⟩ := H
     replace H : ((laws_eqReply.f k t208 t209 t210 t220 t221 t222).bind fun t225 => (if t225 = true then (some true) else (some false))) = some r := H
     have A27 := zm A270
     clear A270
     replace H := Option.bind_eq_some_iff.mp H
     obtain ⟨t225, A280, H⟩ := H
     replace H : (if t225 = true then (some true) else (some false)) = some r := H
     have A28 := zm A280
     clear A280
     by_cases c29 : t225 = true
     ·subst c29
      have H1 : (some true) = some r := by rw [if_pos rfl] at H; exact H
      clear H
      have H := H1
      clear H1
      obtain rfl := Option.some.inj H
      go_enter Tryd.func6, Tryd.ntmps6
      try go_wp2_with (first | ((with_reducible refine gate_dst (N := 2) rfl ?_); refine box_event ?hg (N := 2) ?hd (cs := #[.int .i64 a0_0, .int .i64 a0_1, .int .i64 a0_2, .string a0_3]) (t := 33) ?hr ?_; (case hd => rfl); (case hg => rfl); (case hr => first | (go_simp; done) | (go_simp; rfl)); intro gb193 hg w30 hbox hb; have n0_ := zm (below_step (zg_0 HB.out) hb); have n1_ := zm (hbox); have n2_ := zm ((by rw [hg]; exact (below_size (zg_0 HB.out)) : w.heap.size ≤ gb193)); have n3_ := zm ((by rw [hg]; exact (below_size (zg_0 HB.out)) : w.heap.size ≤ gb193)); clear HB; have HB := n0_; have Za := n1_; have Zr := n2_; have Zd := n3_; clear n0_ n1_ n2_ n3_; clear hb hbox hg) | ((with_reducible refine gate_dst (N := 3) rfl ?_); refine box_event ?hg (N := 3) ?hd (cs := #[.int .i64 a1_0, .int .i64 a1_1, .slice A1_2 l1_2.length c1_2]) (t := 39) ?hr ?_; (case hd => rfl); (case hg => rfl); (case hr => first | (go_simp; done) | (go_simp; rfl)); intro gb194 hg w31 hbox hb; have n0_ := zm (blk_below (g := gb193) (o := .cells #[.int .i64 a0_0, .int .i64 a0_1, .int .i64 a0_2, .string a0_3] 33 (0, 0)) (zg_1 Za.out) hb); have n1_ := zm (below_step (zg_2 HB.out Zd.out) hb); have n2_ := zm (hbox); have n3_ := zm ((by rw [hg]; exact (below_size (zg_2 HB.out Zd.out)) : w.heap.size ≤ gb194)); have n4_ := zm ((by rw [hg]; exact (below_size (zg_2 HB.out Zd.out)) : w.heap.size ≤ gb194)); have n5_ := zm ((by rw [hg]; exact Nat.ne_of_lt (blk_lt (g := gb193) (o := .cells #[.int .i64 a0_0, .int .i64 a0_1, .int .i64 a0_2, .string a0_3] 33 (0, 0)) (zg_1 Za.out)) : gb193 ≠ gb194)); have n6_ := zm ((by rw [hg]; exact Nat.ne_of_gt (blk_lt (g := gb193) (o := .cells #[.int .i64 a0_0, .int .i64 a0_1, .int .i64 a0_2, .string a0_3] 33 (0, 0)) (zg_1 Za.out)) : gb194 ≠ gb193)); clear Za; clear HB; have Za := n0_; have HB := n1_; have Zb := n2_; have Zs := n3_; have Zf := n4_; have Zg := n5_; have Zh := n6_; clear n0_ n1_ n2_ n3_ n4_ n5_ n6_; clear hb hbox hg; have hnb32 := Zg.out; have hnc32 := Zh.out; have hcz33_0 : w31.cell? ⟨gb193, 0, none⟩ = some (.int .i64 a0_0) := (blk_cell Za.out 0).trans rfl; have hcz33_1 : w31.cell? ⟨gb193, 1, none⟩ = some (.int .i64 a0_1) := (blk_cell Za.out 1).trans rfl; have hcz33_2 : w31.cell? ⟨gb193, 2, none⟩ = some (.int .i64 a0_2) := (blk_cell Za.out 2).trans rfl; have hcz33_3 : w31.cell? ⟨gb193, 3, none⟩ = some (.string a0_3) := (blk_cell Za.out 3).trans rfl; have hfz33_0 := blk_frozen Za.out 0; have hfz33_1 := blk_frozen Za.out 1; have hfz33_2 := blk_frozen Za.out 2; have hfz33_3 := blk_frozen Za.out 3) | ((with_reducible refine gate_callee (f := 14) rfl ?_); refine goesL_ (some 13) rfl rfl Tryd.func14 (by kernel_rfl) rfl #[.agg #[.int .i64 a0_0, .int .i64 a0_1, .int .i64 a0_2, .string a0_3], .int .i64 1048576] rfl zq ?_; (with_reducible refine (laws_szReq.calls a0_0 a0_1 a0_2 a0_3 1048576 t195 _ A3.out).mono ?_); rintro e w34 ⟨rfl, hb⟩; refine ⟨_, rfl, ?_⟩; have n0_ := zm (blk_below (g := gb193) (o := .cells #[.int .i64 a0_0, .int .i64 a0_1, .int .i64 a0_2, .string a0_3] 33 (0, 0)) (zg_1 Za.out) hb); have n1_ := zm (blk_below (g := gb194) (o := .cells #[.int .i64 a1_0, .int .i64 a1_1, .slice A1_2 l1_2.length c1_2] 39 (0, 0)) (zg_1 Zb.out) hb); have n2_ := zm (below_step (zg_3 HB.out Zd.out Zf.out) hb); clear Za; clear Zb; clear HB; have Za := n0_; have Zb := n1_; have HB := n2_; clear n0_ n1_ n2_; (try clear hb); (try clear hb2); (try clear hk); (try clear hi); have hcz35_0 : w34.cell? ⟨gb194, 0, none⟩ = some (.int .i64 a1_0) := (blk_cell Zb.out 0).trans rfl; have hcz35_1 : w34.cell? ⟨gb194, 1, none⟩ = some (.int .i64 a1_1) := (blk_cell Zb.out 1).trans rfl; have hcz35_2 : w34.cell? ⟨gb194, 2, none⟩ = some (.slice A1_2 l1_2.length c1_2) := (blk_cell Zb.out 2).trans rfl; have hfz35_0 := blk_frozen Zb.out 0; have hfz35_1 := blk_frozen Zb.out 1; have hfz35_2 := blk_frozen Zb.out 2) | ((with_reducible refine gate_callee (f := 16) rfl ?_); refine goesL_ (some 18) rfl rfl Tryd.func16 (by kernel_rfl) rfl #[.agg #[.int .i64 a1_0, .int .i64 a1_1, .slice A1_2 l1_2.length c1_2], .int .i64 t195] rfl zq ?_; (with_reducible refine (laws_szReply.calls k a1_0 a1_1 _ _ l1_2 t195 t196 _ ?side1 ?side2 A10.out).mono ?_); (case side1 => exact zC (Kd.C_below Zn.out HB.out)); (case side2 => exact Zo.out); rintro e w36 ⟨rfl, hb⟩; refine ⟨_, rfl, ?_⟩; have n0_ := zm (blk_below (g := gb193) (o := .cells #[.int .i64 a0_0, .int .i64 a0_1, .int .i64 a0_2, .string a0_3] 33 (0, 0)) (zg_1 Za.out) hb); have n1_ := zm (blk_below (g := gb194) (o := .cells #[.int .i64 a1_0, .int .i64 a1_1, .slice A1_2 l1_2.length c1_2] 39 (0, 0)) (zg_1 Zb.out) hb); have n2_ := zm (below_step (zg_3 HB.out Zd.out Zf.out) hb); clear Za; clear Zb; clear HB; have Za := n0_; have Zb := n1_; have HB := n2_; clear n0_ n1_ n2_; (try clear hb); (try clear hb2); (try clear hk); (try clear hi)))
      have n0_ := zm (blk_drew Za.out)
      have n1_ := zm (blk_drew Zb.out)
      have n2_ := zm (below_drew1 HB.out)
      clear Za
      clear Zb
      clear HB
      have Za := n0_
      have Zb := n1_
      have HB := n2_
      clear n0_ n1_ n2_
      refine start_ (n := 10) (S := fun w' => w'.cell? ⟨gb193, 0, none⟩ = some (.int .i64 a0_0) ∧ w'.cell? ⟨gb193, 1, none⟩ = some (.int .i64 a0_1) ∧ w'.cell? ⟨gb193, 2, none⟩ = some (.int .i64 a0_2) ∧ w'.cell? ⟨gb193, 3, none⟩ = some (.string a0_3) ∧ w'.cell? ⟨gb194, 0, none⟩ = some (.int .i64 a1_0) ∧ w'.cell? ⟨gb194, 1, none⟩ = some (.int .i64 a1_1) ∧ w'.cell? ⟨gb194, 2, none⟩ = some (.slice A1_2 l1_2.length c1_2)) (ds := []) #[false, false, false, false, false, false, false, false, false, false] (by kernel_rfl) rfl rfl ⟨(blk_cell Za.out 0).trans rfl, (blk_cell Za.out 1).trans rfl, (blk_cell Za.out 2).trans rfl, (blk_cell Za.out 3).trans rfl, (blk_cell Zb.out 0).trans rfl, (blk_cell Zb.out 1).trans rfl, (blk_cell Zb.out 2).trans rfl⟩ (fun hHeld => ?_); refine with_tabW laws_FnExactReplyText.tab8 laws_FnExactReplyText.bits8 (fun HT_ HW_ => ?_)
      generalize w36.drew = w37 at Za Zb HB hHeld ⊢
      refine take_ (i := 0) (N := some 22) (v := ?_) (a' := ?_) #[true, false, false, false, false, false, false, false, false, false] rfl rfl (take_ofW HT_.out HW_.out (by kernel_rfl)) (fun _ _ _ h => h) (Or.inl ⟨by rfl, ?_⟩) hHeld ?_ ?_
      rotate_left
      ·rintro w' ⟨s0, s1, s2, s3, s4, s5, s6⟩
       go_simp
       with_reducible rfl
      rotate_left
      ·simp only [Act.put, zs, zz, zt, i64_w, i32_w]
       rfl
      refine take_ (i := 2) (N := some 24) (v := ?_) (a' := ?_) #[true, false, true, false, false, false, false, false, false, false] rfl rfl (take_ofW HT_.out HW_.out (by kernel_rfl)) (fun _ _ _ h => h) (Or.inl ⟨by rfl, ?_⟩) hHeld ?_ ?_
      rotate_left
      ·rintro w' ⟨s0, s1, s2, s3, s4, s5, s6⟩
       go_simp
       with_reducible rfl
      rotate_left
      ·simp only [Act.put, zs, zz, zt, i64_w, i32_w]
       rfl
      refine one_ (i := 1) (N := some 23) #[true, true, true, false, false, false, false, false, false, false] rfl rfl (one_of HT_.out (by kernel_rfl)) (by decide) (fun K hK => ?_)
      refine goes_ Tryd.func15 (by kernel_rfl) rfl #[.agg #[.int .i64 a0_0, .int .i64 a0_1, .int .i64 a0_2, .string a0_3]] (by rfl) rfl rfl zq ?_
      with_reducible refine (laws_toReq.calls a0_0 a0_1 a0_2 a0_3 t197 t198 t199 t200 _ A19.out).mono ?_
      rintro e w38 ⟨rfl, hb⟩
      refine ⟨_, rfl, ?_⟩
      have n0_ := zm (blk_below (g := gb193) (o := .cells #[.int .i64 a0_0, .int .i64 a0_1, .int .i64 a0_2, .string a0_3] 33 (0, 0)) (zg_1 Za.out) hb)
      have n1_ := zm (blk_below (g := gb194) (o := .cells #[.int .i64 a1_0, .int .i64 a1_1, .slice A1_2 l1_2.length c1_2] 39 (0, 0)) (zg_1 Zb.out) hb)
      have n2_ := zm (below_step (zg_3 HB.out Zd.out Zf.out) hb)
      clear Za
      clear Zb
      clear HB
      have Za := n0_
      have Zb := n1_
      have HB := n2_
      clear n0_ n1_ n2_
      (try clear hb)
      (try clear hb2)
      (try clear hk)
      (try clear hi)
      refine hK.out _ _ ⟨(blk_cell Za.out 0).trans rfl, (blk_cell Za.out 1).trans rfl, (blk_cell Za.out 2).trans rfl, (blk_cell Za.out 3).trans rfl, (blk_cell Zb.out 0).trans rfl, (blk_cell Zb.out 1).trans rfl, (blk_cell Zb.out 2).trans rfl⟩ (fun hHeld => ?_)
      clear hK K
      refine norm_ (a' := ?_) ?_ ?_
      rotate_left
      ·show Act.put _ (some 23) _ = _
       simp only [Act.put, zs, zz, zt, i64_w, i32_w]
       rfl
      refine one_ (i := 3) (N := some 25) #[true, true, true, true, false, false, false, false, false, false] rfl rfl (one_of HT_.out (by kernel_rfl)) (by decide) (fun K hK => ?_)
      refine goes_ Tryd.func18 (by kernel_rfl) rfl #[.agg #[.int .i64 a1_0, .int .i64 a1_1, .slice A1_2 l1_2.length c1_2]] (by rfl) rfl rfl zq ?_
      with_reducible refine (laws_toReply.calls k a1_0 a1_1 _ _ l1_2 t201 t202 t203 _ ?side1 ?side2 A20.out).mono ?_
      (case side1 => exact zC (Kd.C_below Zn.out HB.out))
      (case side2 => exact Zo.out)
      rintro e w39 ⟨v204, rfl, ho0, hb⟩
      refine ⟨_, rfl, ?_⟩
      have n0_ := zm (Kd.R_lower ho0 (below_size (zg_3 HB.out Zd.out Zf.out)))
      have n1_ := zm (blk_below (g := gb193) (o := .cells #[.int .i64 a0_0, .int .i64 a0_1, .int .i64 a0_2, .string a0_3] 33 (0, 0)) (zg_1 Za.out) hb)
      have n2_ := zm (blk_below (g := gb194) (o := .cells #[.int .i64 a1_0, .int .i64 a1_1, .slice A1_2 l1_2.length c1_2] 39 (0, 0)) (zg_1 Zb.out) hb)
      have n3_ := zm (below_step (zg_3 HB.out Zd.out Zf.out) hb)
      clear Za
      clear Zb
      clear HB
      have Zk := n0_
      have Za := n1_
      have Zb := n2_
      have HB := n3_
      clear n0_ n1_ n2_ n3_
      (try clear hb)
      (try clear hb2)
      (try clear hk)
      (try clear hi)
      (try clear ho0)
      obtain ⟨Ao40, co40, eo40⟩ := Kd.R_slice Zk.out
      (first | subst eo40 | (injection eo40 with f1_ f2_ f3_; have f4_ := f1_.symm; have f5_ := f3_.symm; clear f1_ f2_ f3_; subst f4_; subst f5_))
      refine hK.out _ _ ⟨(blk_cell Za.out 0).trans rfl, (blk_cell Za.out 1).trans rfl, (blk_cell Za.out 2).trans rfl, (blk_cell Za.out 3).trans rfl, (blk_cell Zb.out 0).trans rfl, (blk_cell Zb.out 1).trans rfl, (blk_cell Zb.out 2).trans rfl⟩ (fun hHeld => ?_)
      clear hK K
      refine norm_ (a' := ?_) ?_ ?_
      rotate_left
      ·show Act.put _ (some 25) _ = _
       simp only [Act.put, zs, zz, zt, i64_w, i32_w]
       rfl
      refine one_ (i := 4) (N := some 26) #[true, true, true, true, true, false, false, false, false, false] rfl rfl (one_of HT_.out (by kernel_rfl)) (by decide) (fun K hK => ?_)
      refine goes_ Tryd.func17 (by kernel_rfl) rfl #[.agg #[.int .i64 t197, .int .i64 t198, .int .i64 t199, .string t200], .agg #[.int .i64 t201, .int .i64 t202, .slice Ao40 t203.length co40]] (by rfl) rfl rfl zq ?_
      with_reducible refine (spec_ReplyText.calls k t197 t198 t199 t200 t201 t202 _ _ t203 t206 t207 _ ?side1 ?side2 A21.out).mono ?_
      (case side1 => exact zC ((Kd.R_reads' Zk.out).2.2))
      (case side2 => exact (Kd.R_reads' Zk.out).2.1)
      rintro e w41 ⟨rfl, hb⟩
      refine ⟨_, rfl, ?_⟩
      have n0_ := zm (Kd.R_below (zg_4 Zk.out) hb)
      have n1_ := zm (blk_below (g := gb193) (o := .cells #[.int .i64 a0_0, .int .i64 a0_1, .int .i64 a0_2, .string a0_3] 33 (0, 0)) (zg_1 Za.out) hb)
      have n2_ := zm (blk_below (g := gb194) (o := .cells #[.int .i64 a1_0, .int .i64 a1_1, .slice A1_2 l1_2.length c1_2] 39 (0, 0)) (zg_1 Zb.out) hb)
      have n3_ := zm (below_step (zg_3 HB.out Zd.out Zf.out) hb)
      clear Zk
      clear Za
      clear Zb
      clear HB
      have Zk := n0_
      have Za := n1_
      have Zb := n2_
      have HB := n3_
      clear n0_ n1_ n2_ n3_
      (try clear hb)
      (try clear hb2)
      (try clear hk)
      (try clear hi)
      refine hK.out _ _ ⟨(blk_cell Za.out 0).trans rfl, (blk_cell Za.out 1).trans rfl, (blk_cell Za.out 2).trans rfl, (blk_cell Za.out 3).trans rfl, (blk_cell Zb.out 0).trans rfl, (blk_cell Zb.out 1).trans rfl, (blk_cell Zb.out 2).trans rfl⟩ (fun hHeld => ?_)
      clear hK K
      refine norm_ (a' := ?_) ?_ ?_
      rotate_left
      ·show Act.put _ (some 26) _ = _
       simp only [Act.put, zs, zz, zt, i64_w, i32_w]
       rfl
      refine pure_ (i := 5) (N := some 21) (v := ?_) (a' := ?_) #[true, true, true, true, true, true, false, false, false, false] rfl rfl (any_of HT_.out (by kernel_rfl)) (fun _ _ _ h => h) (Or.inl ⟨by rfl, ?_⟩) ?_ ?_
      rotate_left
      ·intro w'
       go_simp
       with_reducible rfl
      rotate_left
      ·simp only [Act.put, zs, zz, zt, i64_w, i32_w]
       rfl
      refine pure_ (i := 6) (N := some 27) (v := ?_) (a' := ?_) #[true, true, true, true, true, true, true, false, false, false] rfl rfl (any_of HT_.out (by kernel_rfl)) (fun _ _ _ h => h) (Or.inl ⟨by rfl, ?_⟩) ?_ ?_
      rotate_left
      ·intro w'
       go_simp
       with_reducible rfl
      rotate_left
      ·simp only [Act.put, zs, zz, zt, i64_w, i32_w]
       rfl
      refine pure_ (i := 7) (N := some 28) (v := ?_) (a' := ?_) #[true, true, true, true, true, true, true, true, false, false] rfl rfl (any_of HT_.out (by kernel_rfl)) (fun _ _ _ h => h) (Or.inl ⟨by rfl, ?_⟩) ?_ ?_
      rotate_left
      ·intro w'
       go_simp
       with_reducible rfl
      rotate_left
      ·simp only [Act.put, zs, zz, zt, i64_w, i32_w]
       rfl
      refine pure_ (i := 8) (N := some 6) (v := ?_) (a' := ?_) #[true, true, true, true, true, true, true, true, true, false] rfl rfl (any_of HT_.out (by kernel_rfl)) (fun _ _ _ h => h) (Or.inl ⟨by rfl, ?_⟩) ?_ ?_
      rotate_left
      ·intro w'
       go_simp
       with_reducible rfl
      rotate_left
      ·simp only [Act.put, zs, zz, zt, i64_w, i32_w]
       rfl
      refine pure_ (i := 9) (N := some 7) (v := ?_) (a' := ?_) #[true, true, true, true, true, true, true, true, true, true] rfl rfl (any_of HT_.out (by kernel_rfl)) (fun _ _ _ h => h) (Or.inl ⟨by rfl, ?_⟩) ?_ ?_
      rotate_left
      ·intro w'
       go_simp
       with_reducible rfl
      rotate_left
      ·simp only [Act.put, zs, zz, zt, i64_w, i32_w]
       rfl
      refine done_ (done_of HT_.out (by kernel_rfl)) ?_
      have hcz42_0 : w41.cell? ⟨gb194, 0, none⟩ = some (.int .i64 a1_0) := (blk_cell Zb.out 0).trans rfl
      have hcz42_1 : w41.cell? ⟨gb194, 1, none⟩ = some (.int .i64 a1_1) := (blk_cell Zb.out 1).trans rfl
      have hcz42_2 : w41.cell? ⟨gb194, 2, none⟩ = some (.slice A1_2 l1_2.length c1_2) := (blk_cell Zb.out 2).trans rfl
      have hfz42_0 := blk_frozen Zb.out 0
      have hfz42_1 := blk_frozen Zb.out 1
      have hfz42_2 := blk_frozen Zb.out 2
      clear Zk
      try go_wp2_with (first | ((with_reducible refine gate_callee (f := 18) rfl ?_); refine goesL_ (some 30) rfl rfl Tryd.func18 (by kernel_rfl) rfl #[.agg #[.int .i64 a1_0, .int .i64 a1_1, .slice A1_2 l1_2.length c1_2]] rfl zq ?_; (with_reducible refine (laws_toReply.calls k a1_0 a1_1 _ _ l1_2 t208 t209 t210 _ ?side1 ?side2 A22.out).mono ?_); (case side1 => exact zC (Kd.C_below Zn.out HB.out)); (case side2 => exact Zo.out); rintro e w43 ⟨v211, rfl, ho0, hb⟩; refine ⟨_, rfl, ?_⟩; have n0_ := zm (Kd.R_lower ho0 (below_size (zg_3 HB.out Zd.out Zf.out))); have n1_ := zm (blk_below (g := gb193) (o := .cells #[.int .i64 a0_0, .int .i64 a0_1, .int .i64 a0_2, .string a0_3] 33 (0, 0)) (zg_1 Za.out) hb); have n2_ := zm (blk_below (g := gb194) (o := .cells #[.int .i64 a1_0, .int .i64 a1_1, .slice A1_2 l1_2.length c1_2] 39 (0, 0)) (zg_1 Zb.out) hb); have n3_ := zm (below_step (zg_3 HB.out Zd.out Zf.out) hb); clear Za; clear Zb; clear HB; have Ze := n0_; have Za := n1_; have Zb := n2_; have HB := n3_; clear n0_ n1_ n2_ n3_; (try clear hb); (try clear hb2); (try clear hk); (try clear hi); (try clear ho0)) | ((with_reducible refine gate_dst (N := 8) rfl ?_); refine box_event ?hg (N := 8) ?hd (cs := #[.int .i64 0, .int .i64 0, .slice none 0 0]) (t := 42) ?hr ?_; (case hd => rfl); (case hg => rfl); (case hr => first | (go_simp; done) | (go_simp; rfl)); intro gb213 hg w44 hbox hb; have n0_ := zm (Kd.R_below (zg_4 Ze.out) hb); have n1_ := zm (blk_below (g := gb193) (o := .cells #[.int .i64 a0_0, .int .i64 a0_1, .int .i64 a0_2, .string a0_3] 33 (0, 0)) (zg_1 Za.out) hb); have n2_ := zm (blk_below (g := gb194) (o := .cells #[.int .i64 a1_0, .int .i64 a1_1, .slice A1_2 l1_2.length c1_2] 39 (0, 0)) (zg_1 Zb.out) hb); have n3_ := zm (below_step (zg_3 HB.out Zd.out Zf.out) hb); have n4_ := zm (hbox); have n5_ := zm ((by rw [hg]; exact (below_size (zg_3 HB.out Zd.out Zf.out)) : w.heap.size ≤ gb213)); have n6_ := zm ((by rw [hg]; exact (below_size (zg_3 HB.out Zd.out Zf.out)) : w.heap.size ≤ gb213)); have n7_ := zm ((by rw [hg]; exact Nat.ne_of_lt (blk_lt (g := gb193) (o := .cells #[.int .i64 a0_0, .int .i64 a0_1, .int .i64 a0_2, .string a0_3] 33 (0, 0)) (zg_1 Za.out)) : gb193 ≠ gb213)); have n8_ := zm ((by rw [hg]; exact Nat.ne_of_gt (blk_lt (g := gb193) (o := .cells #[.int .i64 a0_0, .int .i64 a0_1, .int .i64 a0_2, .string a0_3] 33 (0, 0)) (zg_1 Za.out)) : gb213 ≠ gb193)); have n9_ := zm ((by rw [hg]; exact Nat.ne_of_lt (blk_lt (g := gb194) (o := .cells #[.int .i64 a1_0, .int .i64 a1_1, .slice A1_2 l1_2.length c1_2] 39 (0, 0)) (zg_1 Zb.out)) : gb194 ≠ gb213)); have n10_ := zm ((by rw [hg]; exact Nat.ne_of_gt (blk_lt (g := gb194) (o := .cells #[.int .i64 a1_0, .int .i64 a1_1, .slice A1_2 l1_2.length c1_2] 39 (0, 0)) (zg_1 Zb.out)) : gb213 ≠ gb194)); clear Ze; clear Za; clear Zb; clear HB; have Ze := n0_; have Za := n1_; have Zb := n2_; have HB := n3_; have Zc := n4_; have Zt := n5_; have Zl := n6_; have Zi := n7_; have Zp := n8_; have Zj := n9_; have Zq := n10_; clear n0_ n1_ n2_ n3_ n4_ n5_ n6_ n7_ n8_ n9_ n10_; clear hb hbox hg; have hnb45 := Zp.out; have hnc45 := Zi.out; have hnb46 := Zq.out; have hnc46 := Zj.out; have hcz47_0 : w44.cell? ⟨gb213, 0, none⟩ = some (.int .i64 0) := (blk_cell Zc.out 0).trans rfl; have hcz47_1 : w44.cell? ⟨gb213, 1, none⟩ = some (.int .i64 0) := (blk_cell Zc.out 1).trans rfl; have hcz47_2 : w44.cell? ⟨gb213, 2, none⟩ = some (.slice none 0 0) := (blk_cell Zc.out 2).trans rfl; have hfz47_0 := blk_frozen Zc.out 0; have hfz47_1 := blk_frozen Zc.out 1; have hfz47_2 := blk_frozen Zc.out 2; obtain ⟨Ao48, co48, eo48⟩ := Kd.R_slice Ze.out; subst eo48))
      have n0_ : Aside0 (Kd.R Kd.string 9 (((w44.setCell ⟨gb213, 0, none⟩ (.int .i64 t208)).setCell ⟨gb213, 1, none⟩ (.int .i64 t209)).setCell ⟨gb213, 2, none⟩ (.slice Ao48 t210.length co48)) w.heap.size (fun _ => True) (.slice Ao48 t210.length co48) t210) := ⟨by (with_reducible repeat (first | apply Kd.R_alloc | apply Kd.R_drewN | apply Kd.R_drew)); exact Kd.R_mono (Kd.R_far (p := ⟨gb213, 2, none⟩) (Kd.R_far (p := ⟨gb213, 1, none⟩) (Kd.R_far (p := ⟨gb213, 0, none⟩) (Kd.R_types Ze.out Zc.out (by decide)) (fun _ hk => hk.2) (.int .i64 t208)) (fun _ hk => hk.2) (.int .i64 t209)) (fun _ hk => hk.2) (.slice Ao48 t210.length co48)) (fun _ hk => trivial)⟩
      have n1_ : Aside0 ((((w44.setCell ⟨gb213, 0, none⟩ (.int .i64 t208)).setCell ⟨gb213, 1, none⟩ (.int .i64 t209)).setCell ⟨gb213, 2, none⟩ (.slice Ao48 t210.length co48)).heap[gb193]? = some (.cells #[.int .i64 a0_0, .int .i64 a0_1, .int .i64 a0_2, .string a0_3] 33 (0, 0))) := ⟨by (with_reducible repeat (first | refine blk_drewN ?_ _ | refine blk_drew ?_ | refine blk_alloc ?_ _)); refine blk_far ?_ Zi.out _; (with_reducible repeat (first | refine blk_drewN ?_ _ | refine blk_drew ?_ | refine blk_alloc ?_ _)); refine blk_far ?_ Zi.out _; (with_reducible repeat (first | refine blk_drewN ?_ _ | refine blk_drew ?_ | refine blk_alloc ?_ _)); refine blk_far ?_ Zi.out _; (with_reducible repeat (first | refine blk_drewN ?_ _ | refine blk_drew ?_ | refine blk_alloc ?_ _)); exact Za.out⟩
      have n2_ : Aside0 ((((w44.setCell ⟨gb213, 0, none⟩ (.int .i64 t208)).setCell ⟨gb213, 1, none⟩ (.int .i64 t209)).setCell ⟨gb213, 2, none⟩ (.slice Ao48 t210.length co48)).heap[gb194]? = some (.cells #[.int .i64 a1_0, .int .i64 a1_1, .slice A1_2 l1_2.length c1_2] 39 (0, 0))) := ⟨by (with_reducible repeat (first | refine blk_drewN ?_ _ | refine blk_drew ?_ | refine blk_alloc ?_ _)); refine blk_far ?_ Zj.out _; (with_reducible repeat (first | refine blk_drewN ?_ _ | refine blk_drew ?_ | refine blk_alloc ?_ _)); refine blk_far ?_ Zj.out _; (with_reducible repeat (first | refine blk_drewN ?_ _ | refine blk_drew ?_ | refine blk_alloc ?_ _)); refine blk_far ?_ Zj.out _; (with_reducible repeat (first | refine blk_drewN ?_ _ | refine blk_drew ?_ | refine blk_alloc ?_ _)); exact Zb.out⟩
      have n3_ : Aside0 ((((w44.setCell ⟨gb213, 0, none⟩ (.int .i64 t208)).setCell ⟨gb213, 1, none⟩ (.int .i64 t209)).setCell ⟨gb213, 2, none⟩ (.slice Ao48 t210.length co48)).heap[gb213]? = some (.cells #[.int .i64 t208, .int .i64 t209, .slice Ao48 t210.length co48] 42 (0, 0))) := ⟨by (with_reducible repeat (first | refine blk_drewN ?_ _ | refine blk_drew ?_ | refine blk_alloc ?_ _)); refine blk_put (cs := #[.int .i64 t208, .int .i64 t209, .slice none 0 0]) ?_ 2 _ rfl; (with_reducible repeat (first | refine blk_drewN ?_ _ | refine blk_drew ?_ | refine blk_alloc ?_ _)); refine blk_put (cs := #[.int .i64 t208, .int .i64 0, .slice none 0 0]) ?_ 1 _ rfl; (with_reducible repeat (first | refine blk_drewN ?_ _ | refine blk_drew ?_ | refine blk_alloc ?_ _)); refine blk_put (cs := #[.int .i64 0, .int .i64 0, .slice none 0 0]) ?_ 0 _ rfl; (with_reducible repeat (first | refine blk_drewN ?_ _ | refine blk_drew ?_ | refine blk_alloc ?_ _)); exact Zc.out⟩
      have n4_ : Aside0 (Below w.heap.size w (((w44.setCell ⟨gb213, 0, none⟩ (.int .i64 t208)).setCell ⟨gb213, 1, none⟩ (.int .i64 t209)).setCell ⟨gb213, 2, none⟩ (.slice Ao48 t210.length co48))) := ⟨zg_5 HB.out Zd.out Zf.out Zl.out⟩
      (try clear Ze)
      (try clear Za)
      (try clear Zb)
      (try clear Zc)
      (try clear HB)
      generalize (((w44.setCell ⟨gb213, 0, none⟩ (.int .i64 t208)).setCell ⟨gb213, 1, none⟩ (.int .i64 t209)).setCell ⟨gb213, 2, none⟩ (.slice Ao48 t210.length co48)) = w49 at n0_ n1_ n2_ n3_ n4_ ⊢
      have Ze := n0_
      have Za := n1_
      have Zb := n2_
      have Zc := n3_
      have HB := n4_
      clear n0_ n1_ n2_ n3_ n4_
      have n0_ := zm (Kd.R_drew Ze.out)
      have n1_ := zm (blk_drew Za.out)
      have n2_ := zm (blk_drew Zb.out)
      have n3_ := zm (blk_drew Zc.out)
      have n4_ := zm (below_drew1 HB.out)
      clear Ze
      clear Za
      clear Zb
      clear Zc
      clear HB
      have Ze := n0_
      have Za := n1_
      have Zb := n2_
      have Zc := n3_
      have HB := n4_
      clear n0_ n1_ n2_ n3_ n4_
      refine start_ (n := 9) (S := fun w' => w'.cell? ⟨gb193, 0, none⟩ = some (.int .i64 a0_0) ∧ w'.cell? ⟨gb193, 1, none⟩ = some (.int .i64 a0_1) ∧ w'.cell? ⟨gb193, 2, none⟩ = some (.int .i64 a0_2) ∧ w'.cell? ⟨gb193, 3, none⟩ = some (.string a0_3) ∧ w'.cell? ⟨gb213, 0, none⟩ = some (.int .i64 t208) ∧ w'.cell? ⟨gb213, 1, none⟩ = some (.int .i64 t209) ∧ w'.cell? ⟨gb213, 2, none⟩ = some (.slice Ao48 t210.length co48)) (ds := []) #[false, false, false, false, false, false, false, false, false] (by kernel_rfl) rfl rfl ⟨(blk_cell Za.out 0).trans rfl, (blk_cell Za.out 1).trans rfl, (blk_cell Za.out 2).trans rfl, (blk_cell Za.out 3).trans rfl, (blk_cell Zc.out 0).trans rfl, (blk_cell Zc.out 1).trans rfl, (blk_cell Zc.out 2).trans rfl⟩ (fun hHeld => ?_); refine with_tabW laws_FnExactReplyText.tab10 laws_FnExactReplyText.bits10 (fun HT_ HW_ => ?_)
      generalize w49.drew = w50 at Ze Za Zb Zc HB hHeld ⊢
      refine take_ (i := 0) (N := some 32) (v := ?_) (a' := ?_) #[true, false, false, false, false, false, false, false, false] rfl rfl (take_ofW HT_.out HW_.out (by kernel_rfl)) (fun _ _ _ h => h) (Or.inl ⟨by rfl, ?_⟩) hHeld ?_ ?_
      rotate_left
      ·rintro w' ⟨s0, s1, s2, s3, s4, s5, s6⟩
       go_simp
       with_reducible rfl
      rotate_left
      ·simp only [Act.put, zs, zz, zt, i64_w, i32_w]
       rfl
      refine take_ (i := 2) (N := some 34) (v := ?_) (a' := ?_) #[true, false, true, false, false, false, false, false, false] rfl rfl (take_ofW HT_.out HW_.out (by kernel_rfl)) (fun _ _ _ h => h) (Or.inl ⟨by rfl, ?_⟩) hHeld ?_ ?_
      rotate_left
      ·rintro w' ⟨s0, s1, s2, s3, s4, s5, s6⟩
       go_simp
       with_reducible rfl
      rotate_left
      ·simp only [Act.put, zs, zz, zt, i64_w, i32_w]
       rfl
      refine one_ (i := 1) (N := some 33) #[true, true, true, false, false, false, false, false, false] rfl rfl (one_of HT_.out (by kernel_rfl)) (by decide) (fun K hK => ?_)
      refine goes_ Tryd.func15 (by kernel_rfl) rfl #[.agg #[.int .i64 a0_0, .int .i64 a0_1, .int .i64 a0_2, .string a0_3]] (by rfl) rfl rfl zq ?_
      with_reducible refine (laws_toReq.calls a0_0 a0_1 a0_2 a0_3 t214 t215 t216 t217 _ A23.out).mono ?_
      rintro e w51 ⟨rfl, hb⟩
      refine ⟨_, rfl, ?_⟩
      have n0_ := zm (Kd.R_below (zg_4 Ze.out) hb)
      have n1_ := zm (blk_below (g := gb193) (o := .cells #[.int .i64 a0_0, .int .i64 a0_1, .int .i64 a0_2, .string a0_3] 33 (0, 0)) (zg_1 Za.out) hb)
      have n2_ := zm (blk_below (g := gb194) (o := .cells #[.int .i64 a1_0, .int .i64 a1_1, .slice A1_2 l1_2.length c1_2] 39 (0, 0)) (zg_1 Zb.out) hb)
      have n3_ := zm (blk_below (g := gb213) (o := .cells #[.int .i64 t208, .int .i64 t209, .slice Ao48 t210.length co48] 42 (0, 0)) (zg_1 Zc.out) hb)
      have n4_ := zm (below_step (zg_5 HB.out Zd.out Zf.out Zl.out) hb)
      clear Ze
      clear Za
      clear Zb
      clear Zc
      clear HB
      have Ze := n0_
      have Za := n1_
      have Zb := n2_
      have Zc := n3_
      have HB := n4_
      clear n0_ n1_ n2_ n3_ n4_
      (try clear hb)
      (try clear hb2)
      (try clear hk)
      (try clear hi)
      refine hK.out _ _ ⟨(blk_cell Za.out 0).trans rfl, (blk_cell Za.out 1).trans rfl, (blk_cell Za.out 2).trans rfl, (blk_cell Za.out 3).trans rfl, (blk_cell Zc.out 0).trans rfl, (blk_cell Zc.out 1).trans rfl, (blk_cell Zc.out 2).trans rfl⟩ (fun hHeld => ?_)
      clear hK K
      refine norm_ (a' := ?_) ?_ ?_
      rotate_left
      ·show Act.put _ (some 33) _ = _
       simp only [Act.put, zs, zz, zt, i64_w, i32_w]
       rfl
      refine one_ (i := 3) (N := some 35) #[true, true, true, true, false, false, false, false, false] rfl rfl (one_of HT_.out (by kernel_rfl)) (by decide) (fun K hK => ?_)
      refine goes_ Tryd.func19 (by kernel_rfl) rfl #[.agg #[.int .i64 t214, .int .i64 t215, .int .i64 t216, .string t217], .agg #[.int .i64 t208, .int .i64 t209, .slice Ao48 t210.length co48]] (by rfl) rfl rfl zq ?_
      with_reducible refine (impl_ReplyText.calls k t214 t215 t216 t217 t208 t209 _ _ t210 t218 t219 _ ?side1 ?side2 A24.out).mono ?_
      (case side1 => exact zC ((Kd.R_reads' Ze.out).2.2))
      (case side2 => exact (Kd.R_reads' Ze.out).2.1)
      rintro e w52 ⟨rfl, hb⟩
      refine ⟨_, rfl, ?_⟩
      have n0_ := zm (Kd.R_below (zg_4 Ze.out) hb)
      have n1_ := zm (blk_below (g := gb193) (o := .cells #[.int .i64 a0_0, .int .i64 a0_1, .int .i64 a0_2, .string a0_3] 33 (0, 0)) (zg_1 Za.out) hb)
      have n2_ := zm (blk_below (g := gb194) (o := .cells #[.int .i64 a1_0, .int .i64 a1_1, .slice A1_2 l1_2.length c1_2] 39 (0, 0)) (zg_1 Zb.out) hb)
      have n3_ := zm (blk_below (g := gb213) (o := .cells #[.int .i64 t208, .int .i64 t209, .slice Ao48 t210.length co48] 42 (0, 0)) (zg_1 Zc.out) hb)
      have n4_ := zm (below_step (zg_5 HB.out Zd.out Zf.out Zl.out) hb)
      clear Ze
      clear Za
      clear Zb
      clear Zc
      clear HB
      have Ze := n0_
      have Za := n1_
      have Zb := n2_
      have Zc := n3_
      have HB := n4_
      clear n0_ n1_ n2_ n3_ n4_
      (try clear hb)
      (try clear hb2)
      (try clear hk)
      (try clear hi)
      refine hK.out _ _ ⟨(blk_cell Za.out 0).trans rfl, (blk_cell Za.out 1).trans rfl, (blk_cell Za.out 2).trans rfl, (blk_cell Za.out 3).trans rfl, (blk_cell Zc.out 0).trans rfl, (blk_cell Zc.out 1).trans rfl, (blk_cell Zc.out 2).trans rfl⟩ (fun hHeld => ?_)
      clear hK K
      refine norm_ (a' := ?_) ?_ ?_
      rotate_left
      ·show Act.put _ (some 35) _ = _
       simp only [Act.put, zs, zz, zt, i64_w, i32_w]
       rfl
      refine pure_ (i := 4) (N := some 31) (v := ?_) (a' := ?_) #[true, true, true, true, true, false, false, false, false] rfl rfl (any_of HT_.out (by kernel_rfl)) (fun _ _ _ h => h) (Or.inl ⟨by rfl, ?_⟩) ?_ ?_
      rotate_left
      ·intro w'
       go_simp
       with_reducible rfl
      rotate_left
      ·simp only [Act.put, zs, zz, zt, i64_w, i32_w]
       rfl
      refine pure_ (i := 5) (N := some 36) (v := ?_) (a' := ?_) #[true, true, true, true, true, true, false, false, false] rfl rfl (any_of HT_.out (by kernel_rfl)) (fun _ _ _ h => h) (Or.inl ⟨by rfl, ?_⟩) ?_ ?_
      rotate_left
      ·intro w'
       go_simp
       with_reducible rfl
      rotate_left
      ·simp only [Act.put, zs, zz, zt, i64_w, i32_w]
       rfl
      refine pure_ (i := 6) (N := some 37) (v := ?_) (a' := ?_) #[true, true, true, true, true, true, true, false, false] rfl rfl (any_of HT_.out (by kernel_rfl)) (fun _ _ _ h => h) (Or.inl ⟨by rfl, ?_⟩) ?_ ?_
      rotate_left
      ·intro w'
       go_simp
       with_reducible rfl
      rotate_left
      ·simp only [Act.put, zs, zz, zt, i64_w, i32_w]
       rfl
      refine pure_ (i := 7) (N := some 9) (v := ?_) (a' := ?_) #[true, true, true, true, true, true, true, true, false] rfl rfl (any_of HT_.out (by kernel_rfl)) (fun _ _ _ h => h) (Or.inl ⟨by rfl, ?_⟩) ?_ ?_
      rotate_left
      ·intro w'
       go_simp
       with_reducible rfl
      rotate_left
      ·simp only [Act.put, zs, zz, zt, i64_w, i32_w]
       rfl
      refine pure_ (i := 8) (N := some 10) (v := ?_) (a' := ?_) #[true, true, true, true, true, true, true, true, true] rfl rfl (any_of HT_.out (by kernel_rfl)) (fun _ _ _ h => h) (Or.inl ⟨by rfl, ?_⟩) ?_ ?_
      rotate_left
      ·intro w'
       go_simp
       with_reducible rfl
      rotate_left
      ·simp only [Act.put, zs, zz, zt, i64_w, i32_w]
       rfl
      refine done_ (done_of HT_.out (by kernel_rfl)) ?_
      try go_wp2
      have n0_ := zm (Kd.R_drew Ze.out)
      have n1_ := zm (blk_drew Za.out)
      have n2_ := zm (blk_drew Zb.out)
      have n3_ := zm (blk_drew Zc.out)
      have n4_ := zm (below_drew1 HB.out)
      clear Ze
      clear Za
      clear Zb
      clear Zc
      clear HB
      have Ze := n0_
      have Za := n1_
      have Zb := n2_
      have Zc := n3_
      have HB := n4_
      clear n0_ n1_ n2_ n3_ n4_
      refine start_ (n := 5) (S := fun w' => w'.cell? ⟨gb213, 0, none⟩ = some (.int .i64 t208) ∧ w'.cell? ⟨gb213, 1, none⟩ = some (.int .i64 t209) ∧ w'.cell? ⟨gb213, 2, none⟩ = some (.slice Ao48 t210.length co48) ∧ w'.cell? ⟨gb194, 0, none⟩ = some (.int .i64 a1_0) ∧ w'.cell? ⟨gb194, 1, none⟩ = some (.int .i64 a1_1) ∧ w'.cell? ⟨gb194, 2, none⟩ = some (.slice A1_2 l1_2.length c1_2)) (ds := []) #[false, false, false, false, false] (by kernel_rfl) rfl rfl ⟨(blk_cell Zc.out 0).trans rfl, (blk_cell Zc.out 1).trans rfl, (blk_cell Zc.out 2).trans rfl, (blk_cell Zb.out 0).trans rfl, (blk_cell Zb.out 1).trans rfl, (blk_cell Zb.out 2).trans rfl⟩ (fun hHeld => ?_)
      generalize w52.drew = w53 at Ze Za Zb Zc HB hHeld ⊢
      refine take_ (i := 0) (N := some 46) (v := ?_) (a' := ?_) #[true, false, false, false, false] rfl rfl (by kernel_rfl) (fun _ _ _ h => h) (Or.inl ⟨by rfl, ?_⟩) hHeld ?_ ?_
      rotate_left
      ·rintro w' ⟨s0, s1, s2, s3, s4, s5⟩
       go_simp
       with_reducible rfl
      rotate_left
      ·simp only [Act.put, zs, zz, zt, i64_w, i32_w]
       rfl
      refine take_ (i := 1) (N := some 47) (v := ?_) (a' := ?_) #[true, true, false, false, false] rfl rfl (by kernel_rfl) (fun _ _ _ h => h) (Or.inl ⟨by rfl, ?_⟩) hHeld ?_ ?_
      rotate_left
      ·rintro w' ⟨s0, s1, s2, s3, s4, s5⟩
       go_simp
       with_reducible rfl
      rotate_left
      ·simp only [Act.put, zs, zz, zt, i64_w, i32_w]
       rfl
      refine one_ (i := 2) (N := some 48) #[true, true, true, false, false] rfl rfl (by kernel_rfl) (by decide) (fun K hK => ?_)
      refine goes_ Tryd.func18 (by kernel_rfl) rfl #[.agg #[.int .i64 a1_0, .int .i64 a1_1, .slice A1_2 l1_2.length c1_2]] (by rfl) rfl rfl zq ?_
      with_reducible refine (laws_toReply.calls k a1_0 a1_1 _ _ l1_2 t220 t221 t222 _ ?side1 ?side2 A27.out).mono ?_
      (case side1 => exact zC (Kd.C_below Zn.out HB.out))
      (case side2 => exact Zo.out)
      rintro e w54 ⟨v223, rfl, ho0, hb⟩
      refine ⟨_, rfl, ?_⟩
      have n0_ := zm (Kd.R_elder' (zg_4 Ze.out) (Kd.R_base ho0) hb)
      have n1_ := zm (Kd.R_lower (Kd.R_new' ho0 (Kd.R_lt (zg_4 Ze.out))) (below_size (zg_5 HB.out Zd.out Zf.out Zl.out)))
      have n2_ := zm (blk_below (g := gb193) (o := .cells #[.int .i64 a0_0, .int .i64 a0_1, .int .i64 a0_2, .string a0_3] 33 (0, 0)) (zg_1 Za.out) hb)
      have n3_ := zm (blk_below (g := gb194) (o := .cells #[.int .i64 a1_0, .int .i64 a1_1, .slice A1_2 l1_2.length c1_2] 39 (0, 0)) (zg_1 Zb.out) hb)
      have n4_ := zm (blk_below (g := gb213) (o := .cells #[.int .i64 t208, .int .i64 t209, .slice Ao48 t210.length co48] 42 (0, 0)) (zg_1 Zc.out) hb)
      have n5_ := zm (below_step (zg_5 HB.out Zd.out Zf.out Zl.out) hb)
      clear Ze
      clear Za
      clear Zb
      clear Zc
      clear HB
      have Ze := n0_
      have Zm := n1_
      have Za := n2_
      have Zb := n3_
      have Zc := n4_
      have HB := n5_
      clear n0_ n1_ n2_ n3_ n4_ n5_
      (try clear hb)
      (try clear hb2)
      (try clear hk)
      (try clear hi)
      (try clear ho0)
      obtain ⟨Ao55, co55, eo55⟩ := Kd.R_slice Zm.out
      (first | subst eo55 | (injection eo55 with f1_ f2_ f3_; have f4_ := f1_.symm; have f5_ := f3_.symm; clear f1_ f2_ f3_; subst f4_; subst f5_))
      refine hK.out _ _ ⟨(blk_cell Zc.out 0).trans rfl, (blk_cell Zc.out 1).trans rfl, (blk_cell Zc.out 2).trans rfl, (blk_cell Zb.out 0).trans rfl, (blk_cell Zb.out 1).trans rfl, (blk_cell Zb.out 2).trans rfl⟩ (fun hHeld => ?_)
      clear hK K
      refine norm_ (a' := ?_) ?_ ?_
      rotate_left
      ·show Act.put _ (some 48) _ = _
       simp only [Act.put, zs, zz, zt, i64_w, i32_w]
       rfl
      refine one_ (i := 3) (N := some 49) #[true, true, true, true, false] rfl rfl (by kernel_rfl) (by decide) (fun K hK => ?_)
      refine goes_ Tryd.func20 (by kernel_rfl) rfl #[.agg #[.int .i64 t208, .int .i64 t209, .slice Ao48 t210.length co48], .agg #[.int .i64 t220, .int .i64 t221, .slice Ao55 t222.length co55]] (by rfl) rfl rfl zq ?_
      with_reducible refine (laws_eqReply.calls k t208 t209 _ _ t210 t220 t221 _ _ t222 true _ ?side1 ?side2 ?side3 ?side4 A28.out).mono ?_
      (case side1 => exact zC ((Kd.R_reads' Ze.out).2.2))
      (case side2 => exact (Kd.R_reads' Ze.out).2.1)
      (case side3 => exact zC ((Kd.R_reads' Zm.out).2.2))
      (case side4 => exact (Kd.R_reads' Zm.out).2.1)
      rintro e w56 ⟨rfl, hb⟩
      refine ⟨_, rfl, ?_⟩
      have n0_ := zm (Kd.R_below (zg_4 Ze.out) hb)
      have n1_ := zm (Kd.R_below (zg_4 Zm.out) hb)
      have n2_ := zm (blk_below (g := gb193) (o := .cells #[.int .i64 a0_0, .int .i64 a0_1, .int .i64 a0_2, .string a0_3] 33 (0, 0)) (zg_1 Za.out) hb)
      have n3_ := zm (blk_below (g := gb194) (o := .cells #[.int .i64 a1_0, .int .i64 a1_1, .slice A1_2 l1_2.length c1_2] 39 (0, 0)) (zg_1 Zb.out) hb)
      have n4_ := zm (blk_below (g := gb213) (o := .cells #[.int .i64 t208, .int .i64 t209, .slice Ao48 t210.length co48] 42 (0, 0)) (zg_1 Zc.out) hb)
      have n5_ := zm (below_step (zg_5 HB.out Zd.out Zf.out Zl.out) hb)
      clear Ze
      clear Zm
      clear Za
      clear Zb
      clear Zc
      clear HB
      have Ze := n0_
      have Zm := n1_
      have Za := n2_
      have Zb := n3_
      have Zc := n4_
      have HB := n5_
      clear n0_ n1_ n2_ n3_ n4_ n5_
      (try clear hb)
      (try clear hb2)
      (try clear hk)
      (try clear hi)
      refine hK.out _ _ ⟨(blk_cell Zc.out 0).trans rfl, (blk_cell Zc.out 1).trans rfl, (blk_cell Zc.out 2).trans rfl, (blk_cell Zb.out 0).trans rfl, (blk_cell Zb.out 1).trans rfl, (blk_cell Zb.out 2).trans rfl⟩ (fun hHeld => ?_)
      clear hK K
      refine norm_ (a' := ?_) ?_ ?_
      rotate_left
      ·show Act.put _ (some 49) _ = _
       simp only [Act.put, zs, zz, zt, i64_w, i32_w]
       rfl
      refine pure_ (i := 4) (N := some 50) (v := ?_) (a' := ?_) #[true, true, true, true, true] rfl rfl (by kernel_rfl) (fun _ _ _ h => h) (Or.inl ⟨by rfl, ?_⟩) ?_ ?_
      rotate_left
      ·intro w'
       go_simp
       with_reducible rfl
      rotate_left
      ·simp only [Act.put, zs, zz, zt, i64_w, i32_w]
       rfl
      refine done_ (by kernel_rfl) ?_
      try go_wp2
      go_ret
      exact ⟨by first | rfl | (simp [errW_none, errW_some] <;> rfl) | (simp [*, errW_none, errW_some] <;> rfl), zg_5 HB.out Zd.out Zf.out Zl.out⟩
     ·replace c29 := Bool.eq_false_iff.mpr c29
      subst c29
      have H1 : (some false) = some r := by rw [if_neg (show ¬ (false = true) by decide)] at H; exact H
      clear H
      have H := H1
      clear H1
      exact absurd hr_.out (by rw [← Option.some.inj H]; decide)
    ·rw [if_neg c26] at H
     have c26b0 : (t219 == t207) = false := beq_eq_false_iff_ne.mpr c26
     have c26b1 : (t219 != t207) = true := bne_iff_ne.mpr c26
     exact absurd hr_.out (by rw [← Option.some.inj H]; decide)
   ·rw [if_neg c25] at H
    have c25b0 : (t218.toList == t206.toList) = false := beq_eq_false_iff_ne.mpr c25
    have c25b1 : (t218.toList != t206.toList) = true := bne_iff_ne.mpr c25
    exact absurd hr_.out (by rw [← Option.some.inj H]; decide)
/-! ### Base -/
def okI (x : Int) : Prop := (Lit.int .i64 x).wf = true
def okU8 (x : Int) : Prop := (Lit.int .u8 x).wf = true
def okB (_ : Bool) : Prop := True
def okS (x : ByteArray) : Prop := x.size ≤ maxLen
theorem w64 {n : Int} (h0 : -9223372036854775808 ≤ n) (h1 : n ≤ 9223372036854775807) : wrap64 n = n := by unfold wrap64; omega
theorem okI_iff {n : Int} (h : (Lit.int .i64 n).wf = true) : -9223372036854775808 ≤ n ∧ n ≤ 9223372036854775807 := by
  simp [Lit.wf, IntKind.min, IntKind.max, IntKind.signed, IntKind.bits] at h
  omega
theorem Ev.k {α : Type} {g : Nat → Option α} {r : α} (K : Nat) (h : ∀ k, K ≤ k → g k = some r) : Ev g r := ⟨K, h⟩
theorem ev_some {α : Type} (r : α) : Ev (fun _ => some r) r := ⟨0, fun _ _ => rfl⟩
theorem ev_of_eq {α : Type} {g : Nat → Option α} {r : α} (h : ∀ k, g k = some r) : Ev g r := ⟨0, fun k _ => h k⟩
theorem ev_bind {α β : Type} {g : Nat → Option α} {f : Nat → α → Option β} {a : α} {r : β} (h : Ev g a) (k : Ev (fun n => f n a) r) : Ev (fun n => (g n).bind (f n)) r := Ev.bind h k
theorem ev_if {α : Type} {c : Prop} [Decidable c] {g f : Nat → Option α} {r : α} (h : c → Ev g r) (h' : ¬ c → Ev f r) : Ev (fun n => if c then g n else f n) r := by
  by_cases hc : c
  · simp only [if_pos hc]; exact h hc
  · simp only [if_neg hc]; exact h' hc
theorem ev_pos {α : Type} {c : Prop} [Decidable c] {g f : Nat → Option α} {r : α} (hc : c) (h : Ev g r) : Ev (fun n => if c then g n else f n) r := by
  simp only [if_pos hc]; exact h
theorem ev_neg {α : Type} {c : Prop} [Decidable c] {g f : Nat → Option α} {r : α} (hc : ¬ c) (h : Ev f r) : Ev (fun n => if c then g n else f n) r := by
  simp only [if_neg hc]; exact h
theorem strOfNums_size (l : List Int) : (strOfNums l).size = l.length := by show (List.map _ l).toArray.size = _; simp
theorem ba_size_append (a b : ByteArray) : (a ++ b).size = a.size + b.size := by simp
theorem toList_inj {a b : ByteArray} : a.toList = b.toList ↔ a = b := by
  constructor
  · intro h
    have h1 : a.data.toList = b.data.toList := by simpa [ByteArray.toList_eq] using h
    have : a.data = b.data := Array.toList_inj.1 h1
    cases a; cases b; simp_all
  · rintro rfl; rfl
/-! ### In -/
def inB (n a b : Int) : Bool := decide (a ≤ n) && decide (n ≤ b)
theorem inB_iff {n a b : Int} : inB n a b = true ↔ a ≤ n ∧ n ≤ b := by simp [inB]
theorem inB_no {n a b : Int} : inB n a b = false ↔ ¬ (a ≤ n ∧ n ≤ b) := by rw [← inB_iff]; simp
theorem l01In_eq (n a b : Int) : spec_l01In.f n a b = some (inB n a b) := by
  unfold spec_l01In.f inB; by_cases h : a ≤ n <;> simp [h]
theorem within_eq (n a b : Int) : impl_within.f n a b = some (inB n a b) := by
  unfold impl_within.f inB; by_cases h : a ≤ n <;> simp [h]
theorem and_opt {b : Bool} {c : Option Bool} {c' : Bool} (h : c = some c') : (if b = true then c else some false) = some (b && c') := by
  cases b <;> simp [h]
/-! ### Mark -/
theorem ev_loop {α : Type} {g : Nat → Nat → Option α} {r : α} (n : Nat) (hend : Ev (fun k => g k n) r) (hstep : ∀ i, i < n → ∃ c, ∀ k, g (k + c) i = g k (i + 1) ∧ 1 ≤ c) : ∀ d i, i ≤ n → n - i = d → Ev (fun k => g k i) r := by
  intro d
  induction d with
  | zero =>
    intro i hi hd
    have e : i = n := by omega
    rw [e]; exact hend
  | succ d ih =>
    intro i hi hd
    obtain ⟨K, hK⟩ := ih (i + 1) (by omega) (by omega)
    obtain ⟨c, hc⟩ := hstep i (by omega)
    refine ⟨K + c, fun k hk => ?_⟩
    obtain ⟨m, rfl⟩ : ∃ m, k = m + c := ⟨k - c, by omega⟩
    show g (m + c) i = _
    rw [(hc m).1]; exact hK m (by omega)
theorem rdn (l : List Int) (i : Nat) (h : i < l.length) : rd l (i : Int) = l[i] := by simp [rd, h]
theorem wnext (i : Nat) (h : i < 1000000000000000000) : wrap64 ((i : Int) + 1) = ((i + 1 : Nat) : Int) := by rw [w64 (by omega) (by omega)]; omega
def countUp (a : Int) (n : Nat) : List Int := (List.range n).map (fun j : Nat => a + (j : Int))
theorem countUp_length (a : Int) (n : Nat) : (countUp a n).length = n := by simp [countUp]
theorem countUp_get (a : Int) (n i : Nat) (h : i < n) : (countUp a n)[i]'(by rw [countUp_length]; exact h) = a + (i : Int) := by simp [countUp]
theorem set_mid {α : Type} (l m : List α) (hlm : m.length = l.length) (i : Nat) (h : i < l.length) (x : α) (hx : m[i]'(by omega) = x) : (m.take i ++ l.drop i).set i x = m.take (i + 1) ++ l.drop (i + 1) := by
  subst hx
  rw [List.drop_eq_getElem_cons h, List.set_append_right _ _ (by rw [List.length_take]; omega)]
  have : i - (m.take i).length = 0 := by rw [List.length_take]; omega
  rw [this, List.set_cons_zero, List.take_succ_eq_append_getElem (by omega), List.append_assoc]
  rfl
/-! ### Ev -/
theorem Ev.succ {α : Type} {g : Nat → Option α} {r : α} (h : Ev (fun k => g (k + 1)) r) : Ev g r := Ev.step (f := fun k => g (k + 1)) (fun _ => rfl) h
theorem ev_all {α : Type} {g : Nat → Nat → Option Bool} (l : List α) (q : α → Bool) (r : Bool) (hend : Ev (fun k => g k l.length) r) (hstep : ∀ i (h : i < l.length) k, g (k + 1) i = if q l[i] = true then g k (i + 1) else some false) : Ev (fun k => g k 0) (l.all q && r) := by
  have hgo : ∀ d i, i ≤ l.length → l.length - i = d → Ev (fun k => g k i) ((l.drop i).all q && r) := by
    intro d
    induction d with
    | zero =>
      intro i hi hd
      have e : i = l.length := by omega
      subst e
      rw [List.drop_of_length_le (by omega)]; simp only [List.all_nil, Bool.true_and]; exact hend
    | succ d ih =>
      intro i hi hd
      have hlt : i < l.length := by omega
      refine Ev.step (f := fun k => if q l[i] = true then g k (i + 1) else some false) (hstep i hlt) ?_
      rw [List.drop_eq_getElem_cons hlt, List.all_cons]
      cases hq : q l[i]
      · simp only [Bool.false_and, Bool.false_eq_true, if_false]; exact ev_some _
      · simp only [Bool.true_and, if_true]; exact ih (i + 1) (by omega) (by omega)
  have := hgo l.length 0 (by omega) (by omega)
  rwa [List.drop_zero] at this
theorem ev_asks {α β : Type} {g : Nat → Nat → Option β} (l : List α) (q : α → Bool) (r bad : β) (hend : Ev (fun k => g k l.length) r) (hstep : ∀ i (h : i < l.length) k, g (k + 1) i = if q l[i] = true then g k (i + 1) else some bad) : Ev (fun k => g k 0) (if l.all q = true then r else bad) := by
  have hgo : ∀ d i, i ≤ l.length → l.length - i = d → Ev (fun k => g k i) (if (l.drop i).all q = true then r else bad) := by
    intro d
    induction d with
    | zero =>
      intro i hi hd
      have e : i = l.length := by omega
      subst e
      rw [List.drop_of_length_le (by omega)]; simp only [List.all_nil, if_true]; exact hend
    | succ d ih =>
      intro i hi hd
      have hlt : i < l.length := by omega
      refine Ev.step (f := fun k => if q l[i] = true then g k (i + 1) else some bad) (hstep i hlt) ?_
      rw [List.drop_eq_getElem_cons hlt, List.all_cons]
      cases hq : q l[i]
      · simp only [Bool.false_and, Bool.false_eq_true, if_false]; exact ev_some _
      · simp only [Bool.true_and, if_true]; exact ih (i + 1) (by omega) (by omega)
  have := hgo l.length 0 (by omega) (by omega)
  rwa [List.drop_zero] at this
/-- A loop that asks each element in turn, each question with rounds of its own. -/
theorem ev_asksE {α β : Type} {g : Nat → Nat → Option β} (l : List α) (q : α → Bool) (r bad : β) (hend : l.all q = true → Ev (fun k => g k l.length) r)
    (hstep : ∀ i (h : i < l.length), (q l[i] = true → Ev (fun k => g k (i + 1)) (if (l.drop (i + 1)).all q = true then r else bad) → Ev (fun k => g k i) (if (l.drop (i + 1)).all q = true then r else bad)) ∧ (q l[i] = false → Ev (fun k => g k i) bad)) : Ev (fun k => g k 0) (if l.all q = true then r else bad) := by
  have key : ∀ d i, i ≤ l.length → l.length - i = d → (l.take i).all q = true → Ev (fun k => g k i) (if (l.drop i).all q = true then r else bad) := by
    intro d
    induction d with
    | zero =>
      intro i hi hd ht
      have e : i = l.length := by omega
      subst e
      rw [List.take_length] at ht
      rw [List.drop_length, List.all_nil, if_pos rfl]
      exact hend ht
    | succ d ih =>
      intro i hi hd ht
      have hlt : i < l.length := by omega
      rw [List.drop_eq_getElem_cons hlt, List.all_cons]
      cases hq : q l[i] with
      | false => simpa using (hstep i hlt).2 hq
      | true =>
        rw [Bool.true_and]
        refine (hstep i hlt).1 hq (ih (i + 1) (by omega) (by omega) ?_)
        rw [List.take_succ_eq_append_getElem hlt, List.all_append, ht]
        simp [hq]
  simpa using key l.length 0 (by omega) (by omega) (by simp)
/-! ### MarkT -/
theorem ev_down {α : Type} {g : Nat → Nat → Option α} {r : α} (n : Nat) (hend : Ev (fun k => g k n) r) (hstep : ∀ i, i < n → Ev (fun k => g k (i + 1)) r → Ev (fun k => g k i) r) : Ev (fun k => g k 0) r := by
  have : ∀ d i, i ≤ n → n - i = d → Ev (fun k => g k i) r := by
    intro d
    induction d with
    | zero => intro i hi hd; have e : i = n := by omega
              rw [e]; exact hend
    | succ d ih => intro i hi hd; exact hstep i (by omega) (ih (i + 1) (by omega) (by omega))
  exact this n 0 (by omega) (by omega)
/-! ### Digits -/
def dgs (n : Int) : ByteArray := ⟨(Lib.itoa n).toArray⟩
theorem dgs_small {n : Int} (h0 : 0 ≤ n) (h : n < 10) : dgs n = strOfNums [(wrap64 (48 + n)) % 256] := by
  rw [w64 (n := 48 + n) (by omega) (by omega)]
  unfold dgs Lib.itoa
  rw [if_neg (by omega), Lib.decDigits_one (by omega)]
  have e : (48 + n) % 256 = ((48 + n.toNat : Nat) : Int) := by omega
  rw [e]; rfl
theorem dgs_step {n : Int} (h : 10 ≤ n) (hn : n ≤ 1000000000000) : dgs n = dgs (n / 10) ++ strOfNums [(wrap64 (48 + (Int.tmod n 10))) % 256] := by
  have hm : Int.tmod n 10 = n % 10 := Int.tmod_eq_emod_of_nonneg (by omega)
  rw [hm, w64 (n := 48 + n % 10) (by omega) (by omega)]
  unfold dgs Lib.itoa
  rw [if_neg (by omega), if_neg (by omega)]
  have e : (48 + n % 10) % 256 = ((48 + n.toNat % 10 : Nat) : Int) := by omega
  have e2 : (n / 10).toNat = n.toNat / 10 := by omega
  rw [e, e2]
  conv => lhs; rw [Lib.decDigits, dif_neg (by omega)]
  rw [← List.append_toArray]
  apply ByteArray.ext
  rw [ByteArray.data_append]; rfl
theorem digits_ev : ∀ (d : Nat) (n : Int), 0 ≤ n → n.toNat ≤ d → n ≤ 1000000000000 → Ev (fun k => spec_l00Digits.f k n) (dgs n) ∧ (dgs n).size ≤ n.toNat + 1 := by
  intro d
  induction d with
  | zero =>
    intro n h0 hd hn
    have h := dgs_small h0 (by omega : n < 10)
    refine ⟨Ev.succ ?_, by rw [h, strOfNums_size]; simp⟩
    simp only [spec_l00Digits.f]
    exact ev_neg (by omega) (ev_neg (by omega) (ev_pos (by omega) (by rw [← h]; exact ev_some _)))
  | succ d ih =>
    intro n h0 hd hn
    by_cases c : n < 10
    · have h := dgs_small h0 c
      refine ⟨Ev.succ ?_, by rw [h, strOfNums_size]; simp⟩
      simp only [spec_l00Digits.f]
      exact ev_neg (by omega) (ev_neg (by omega) (ev_pos (by omega) (by rw [← h]; exact ev_some _)))
    · have h := dgs_step (by omega : 10 ≤ n) hn
      have hq : Int.tdiv n 10 = n / 10 := Int.tdiv_eq_ediv_of_nonneg h0
      obtain ⟨h1, h2⟩ := ih (n / 10) (by omega) (by omega) (by omega)
      have hz : (strOfNums [(wrap64 (48 + (Int.tmod n 10))) % 256]).size = 1 := by rw [strOfNums_size]; rfl
      refine ⟨Ev.succ ?_, by rw [h, ba_size_append, hz]; omega⟩
      simp only [spec_l00Digits.f, Option.bind_some]
      refine ev_neg (by omega) (ev_neg (by omega) (ev_neg (by omega) ?_))
      rw [hq, w64 (n := n / 10) (by omega) (by omega)]
      refine ev_bind h1 (ev_pos (by rw [hz]; omega) ?_)
      rw [← h]; exact ev_some _
theorem ba_assoc (a b c : ByteArray) : (a ++ b) ++ c = a ++ (b ++ c) := by
  apply ByteArray.ext
  simp [ByteArray.data_append]
def bl : ByteArray := ⟨#[32]⟩
theorem bl_size : bl.size = 1 := rfl
/-- A word, and others behind it, each with a blank ahead. -/
def jn (w : ByteArray) (r : List ByteArray) : ByteArray := r.foldl (fun o x => o ++ (bl ++ x)) w
theorem jn_cons (w x : ByteArray) (r : List ByteArray) : jn w (x :: r) = jn (w ++ (bl ++ x)) r := rfl
theorem jn_snoc (w x : ByteArray) (r : List ByteArray) : jn w (r ++ [x]) = jn w r ++ (bl ++ x) := by simp [jn]
theorem join_jn : ∀ (r : List ByteArray) (w : ByteArray), Lib.join ((w :: r).map (·.data.toList)) [32] = (jn w r).data.toList := by
  intro r
  induction r with
  | nil => intro w; simp [Lib.join, List.intercalate, jn]
  | cons x r ih =>
    intro w
    rw [jn_cons, ← ih]
    have hb : bl.data.toList = [32] := rfl
    cases r with
    | nil => simp [Lib.join, List.intercalate, ByteArray.data_append, hb]
    | cons y r => simp [Lib.join, List.intercalate, ByteArray.data_append, hb]
theorem jn_size (B : Nat) : ∀ (r : List ByteArray) (w : ByteArray), (∀ x ∈ r, x.size ≤ B) → (jn w r).size ≤ w.size + r.length * (B + 1) := by
  intro r
  induction r with
  | nil => intro w _; simp [jn]
  | cons x r ih =>
    intro w h
    rw [jn_cons]
    have h1 := ih (w ++ (bl ++ x)) (fun y hy => h y (by simp [hy]))
    have h2 := h x (by simp)
    rw [ba_size_append, ba_size_append, bl_size] at h1
    rw [List.length_cons, Nat.add_mul]
    omega
theorem Join_jn (w : ByteArray) (r : List ByteArray) (h : (jn w r).size ≤ 140737488355328) (hl : r.length ≤ 1000000000) : strings_Join.f (w :: r) (⟨#[32]⟩ : ByteArray) = some (jn w r) := by
  unfold strings_Join.f
  have e : (⟨#[32]⟩ : ByteArray).data.toList = [32] := rfl
  rw [e, join_jn, if_pos (by simp; omega), if_pos (show (jn w r).data.toList.length ≤ _ by rw [Array.length_toList]; exact h)]
theorem itoa_eq {n : Int} (h0 : 0 ≤ n) (hn : n ≤ 1000000000000) : strconv_Itoa_95.f n = some (dgs n) := by
  unfold strconv_Itoa_95.f
  rw [if_pos (by omega), if_pos (by omega)]; rfl
def okN (n : Int) : Prop := 0 ≤ n ∧ n ≤ 1000000000000
theorem ints_eq : ∀ (l : List Int) (out : List ByteArray), (∀ x ∈ l, okN x) → out.length + l.length ≤ 1000000000 → impl_said.ints out l = some (out ++ l.map dgs) := by
  intro l
  induction l with
  | nil => intro out _ _; simp [impl_said.ints]
  | cons x r ih =>
    intro out h hl
    rw [List.length_cons] at hl
    have hx := h x (by simp)
    simp only [impl_said.ints]
    rw [itoa_eq hx.1 hx.2, Option.bind_some, if_pos (by omega), ih _ (fun y hy => h y (by simp [hy])) (by simp; omega)]
    simp
/-- What a value of type any says, and whether its numbers are right. -/
def anyW : Any → List ByteArray | .n x => [dgs x] | .s x => [x] | .ss _ l => l | .ns _ l => l.map dgs | .b _ => []
def anyOK : Any → Prop | .n x => okN x | .s _ => True | .ss _ _ => True | .ns _ l => ∀ x ∈ l, okN x | .b _ => False
theorem go_eq : ∀ (l : List Any) (out : List ByteArray), (∀ x ∈ l, anyOK x) → out.length + (l.flatMap anyW).length ≤ 1000000000 → impl_said.go out l = some (out ++ l.flatMap anyW) := by
  intro l
  induction l with
  | nil => intro out _ _; simp [impl_said.go]
  | cons x r ih =>
    intro out h hl
    rw [List.flatMap_cons, List.length_append] at hl
    have hx := h x (by simp)
    have ih := fun o ho => ih o (fun y hy => h y (by simp [hy])) ho
    cases x with
    | b v => exact hx.elim
    | n v =>
      have hl' : (anyW (.n v)).length = 1 := rfl
      simp only [impl_said.go]
      rw [itoa_eq hx.1 hx.2, Option.bind_some, if_pos (by omega), ih _ (by simp only [List.length_append, List.length_singleton, List.length_map]; omega)]
      simp [anyW]
    | s v =>
      have hl' : (anyW (.s v)).length = 1 := rfl
      simp only [impl_said.go]
      rw [if_pos (by omega), ih _ (by simp only [List.length_append, List.length_singleton, List.length_map]; omega)]
      simp [anyW]
    | ss v l =>
      have hl' : (anyW (.ss v l)).length = l.length := rfl
      simp only [impl_said.go]
      rw [if_pos (by omega), ih _ (by simp only [List.length_append, List.length_singleton, List.length_map]; omega)]
      simp [anyW]
    | ns v l =>
      have hl' : (anyW (.ns v l)).length = l.length := by simp [anyW]
      simp only [impl_said.go]
      rw [ints_eq l out hx (by omega), Option.bind_some, ih _ (by simp only [List.length_append, List.length_singleton, List.length_map]; omega)]
      simp [anyW]
theorem said_eq (x : ByteArray) (r : List Any) (B : Nat) (hB : B ≤ 10000000000) (hx : x.size ≤ 1000000000) (hok : ∀ y ∈ r, anyOK y) (hl : (r.flatMap anyW).length ≤ 1000) (hs : ∀ y ∈ r.flatMap anyW, y.size ≤ B) : impl_said.f (.s x :: r) = some (jn x (r.flatMap anyW)) := by
  unfold impl_said.f
  rw [go_eq (.s x :: r) [] (by intro y hy; rcases List.mem_cons.1 hy with rfl | hy; exact trivial; exact hok y hy) (by rw [List.flatMap_cons, List.length_append, show (anyW (.s x)).length = 1 from rfl, List.length_nil]; omega), Option.bind_some]
  have e : [] ++ (Any.s x :: r).flatMap anyW = x :: r.flatMap anyW := rfl
  have h1 := jn_size B (r.flatMap anyW) x hs
  have h2 : (r.flatMap anyW).length * (B + 1) ≤ 1000 * 10000000001 := Nat.mul_le_mul hl (by omega)
  rw [e, Join_jn _ _ (by omega) (by omega)]
theorem said2_eq (x : ByteArray) (a : Any) (h : anyOK a) (hx : x.size ≤ 1000000000) (B : Nat) (hB : B ≤ 10000000000) (hl : (anyW a).length ≤ 500) (hs : ∀ y ∈ anyW a, y.size ≤ B) : impl_said.f [.s x, a] = some (jn x (anyW a)) := by
  have := said_eq x [a] B hB hx (by simpa using h) (by simpa using (by omega : (anyW a).length ≤ 1000)) (by simpa using hs)
  simpa using this
theorem said3_eq (x : ByteArray) (a b : Any) (h : anyOK a) (h' : anyOK b) (hx : x.size ≤ 1000000000) (B : Nat) (hB : B ≤ 10000000000) (hl : (anyW a).length ≤ 500) (hl' : (anyW b).length ≤ 500) (hs : ∀ y ∈ anyW a, y.size ≤ B) (hs' : ∀ y ∈ anyW b, y.size ≤ B) : impl_said.f [.s x, a, b] = some (jn x (anyW a ++ anyW b)) := by
  have := said_eq x [a, b] B hB hx (by intro y hy; simp at hy; rcases hy with rfl | rfl <;> assumption) (by simp; omega) (by intro y hy; simp at hy; rcases hy with hy | hy; exact hs y hy; exact hs' y hy)
  simpa using this
theorem dgs_le {n : Int} (h0 : 0 ≤ n) (hn : n ≤ 1000000000000) : (dgs n).size ≤ n.toNat + 1 := (digits_ev n.toNat n h0 (Nat.le_refl _) hn).2
/-! ### Compact -/
theorem compact_full (zs : List (List UInt8)) : (Lib.compact zs).length = zs.length ↔ ∀ j, j < zs.length → Lib.keeps zs.toArray j = true := by
  unfold Lib.compact Lib.compactUpTo
  rw [List.length_map]
  constructor
  · intro h j hj
    have h2 : ((List.range zs.length).filter (Lib.keeps zs.toArray)).length = (List.range zs.length).length := by rw [h, List.length_range]
    exact (List.length_filter_eq_length_iff.1 h2) j (List.mem_range.2 hj)
  · intro h
    have : ((List.range zs.length).filter (Lib.keeps zs.toArray)).length = (List.range zs.length).length := List.length_filter_eq_length_iff.2 (fun j hj => h j (List.mem_range.1 hj))
    rw [this, List.length_range]
theorem sorted_nodup (ss : List (List UInt8)) : (Lib.compact (ss.mergeSort fun x y => decide (x ≤ y))).length = ss.length ↔ ss.Nodup := by
  have hp := List.mergeSort_perm ss (fun x y => decide (x ≤ y))
  have hs : (ss.mergeSort fun x y => decide (x ≤ y)).Pairwise (fun x y => decide (x ≤ y) = true) := List.pairwise_mergeSort (fun a b c h1 h2 => by
    simp only [decide_eq_true_eq] at *; exact List.le_trans h1 h2) (fun a b => by
    simp only [Bool.or_eq_true, decide_eq_true_eq]; exact List.le_total a b) ss
  rw [← hp.nodup_iff, ← hp.length_eq, compact_full]
  generalize (ss.mergeSort fun x y => decide (x ≤ y)) = s at hs
  have hle : ∀ i j (hi : i < j) (hj : j < s.length), s[i] ≤ s[j] := fun i j hi hj => by
    have := List.pairwise_iff_getElem.1 hs i j (by omega) hj hi
    simpa using this
  constructor
  · intro h
    rw [List.nodup_iff_pairwise_ne, List.pairwise_iff_getElem]
    intro i j hi hj hij e
    have h1 := h (i + 1) (by omega)
    have h2 : s[i]'hi = s[i + 1]'(by omega) := by
      refine List.le_antisymm (hle i (i + 1) (by omega) (by omega)) ?_
      by_cases c : i + 1 = j
      · subst c; rw [e]; exact List.le_refl _
      · rw [e]; exact hle (i + 1) j (by omega) hj
    simp [Lib.keeps, h2, show i + 1 < s.length by omega, show i < s.length from hi] at h1
  · intro h j hj
    by_cases c : j = 0
    · subst c; simp [Lib.keeps]
    · have hne : s[j]'hj ≠ s[j - 1]'(by omega) := by
        intro e
        have := List.pairwise_iff_getElem.1 (List.nodup_iff_pairwise_ne.1 h) (j - 1) j (by omega) hj (by omega)
        exact this e.symm
      simp [Lib.keeps, hj, show j - 1 < s.length by omega, hne]
/-! ### SnapName -/
def nmOK (t : ByteArray) : Bool := (List.range t.size).all (fun i => inB (bt t (i : Int)) 97 122) && inB (t.size : Int) 1 6
theorem spec_Name_ev (t : ByteArray) (ht : t.size ≤ 1000000000) : Ev (fun k => spec_l10Name.f k t) (nmOK t) := by
  unfold spec_l10Name.f nmOK
  refine ev_all (g := fun k i => spec_l10Name.l0 k t (i : Int)) (List.range t.size) (fun i => inB (bt t (i : Int)) 97 122) _ ?_ ?_
  · refine Ev.step (f := fun _ => some (inB (t.size : Int) 1 6)) (fun k => ?_) (ev_some _)
    simp only [spec_l10Name.l0, l01In_eq, Option.bind_some, List.length_range]; rw [if_neg (by omega)]
  · intro i hi k
    rw [List.length_range] at hi
    simp only [spec_l10Name.l0, List.getElem_range]
    rw [if_pos (by omega), if_pos (by omega), wnext i (by omega)]
    unfold inB
    by_cases h1 : bt t (i : Int) < 97
    · rw [if_pos h1, if_neg (by simp; omega)]
    · rw [if_neg h1]
      by_cases h2 : bt t (i : Int) > 122
      · rw [if_pos h2, if_neg (by simp; omega)]
      · rw [if_neg h2, if_pos (by simp; omega)]
theorem impl_Name_ev (t : ByteArray) (ht : t.size ≤ 1000000000) : Ev (fun k => impl_snapNameOK.f k t) (nmOK t) := by
  unfold impl_snapNameOK.f nmOK
  refine ev_all (g := fun k i => impl_snapNameOK.l0 k t (t.size : Int) (i : Int)) (List.range t.size) (fun i => inB (bt t (i : Int)) 97 122) _ ?_ ?_
  · refine Ev.step (f := fun _ => some (inB (t.size : Int) 1 6)) (fun k => ?_) (ev_some _)
    simp only [impl_snapNameOK.l0, within_eq, Option.bind_some, List.length_range]; rw [if_neg (by omega)]
  · intro i hi k
    rw [List.length_range] at hi
    simp only [impl_snapNameOK.l0, List.getElem_range]
    rw [if_pos (by omega), if_pos (by omega), if_pos (by omega), wnext i (by omega)]
    unfold inB
    by_cases h1 : bt t (i : Int) < 97
    · rw [if_pos h1, if_neg (by simp; omega)]
    · rw [if_neg h1]
      by_cases h2 : bt t (i : Int) > 122
      · rw [if_pos h2, if_neg (by simp; omega)]
      · rw [if_neg h2, if_pos (by simp; omega)]
theorem ev_allO {α : Type} (p : Nat → α → Option Bool) (q : α → Bool) : ∀ l : List α, (∀ x ∈ l, Ev (fun k => p k x) (q x)) → Ev (fun k => allO (p k) l) (l.all q) := by
  intro l
  induction l with
  | nil => intro _; exact ev_some true
  | cons x xs ih =>
    intro h
    have hx := h x (by simp)
    have hxs := ih (fun y hy => h y (by simp [hy]))
    simp only [allO, List.all_cons]
    refine ev_bind hx ?_
    cases q x
    · exact ev_neg (by decide) (ev_some _)
    · exact ev_pos rfl (by simpa using hxs)
def namesOK (l : List ByteArray) : Bool := decide ((l.length : Int) ≤ 3) && (l.all nmOK && decide l.Nodup)
/-! ### Req -/
theorem toList_nil (s : ByteArray) : (s.toList == ([] : List UInt8)) = (s.toList == (⟨#[]⟩ : ByteArray).toList) := by
  have : (⟨#[]⟩ : ByteArray).toList = [] := by rw [ByteArray.toList_eq]
  rw [this]
def okE (a b c : Int) (s : ByteArray) : Bool := if a = 1 ∨ a = 3 ∨ a = 4 then (decide (c = 0) && (s.toList == ([] : List UInt8))) else if a = 2 then (s.toList == ([] : List UInt8)) else if a = 8 then (decide (b = 0) && (decide (c = 0) && (s.toList == ([] : List UInt8)))) else (decide (b = 0) && decide (c = 0))
def okQ (a b c : Int) (s : ByteArray) : Bool := inB a 1 8 && (!decide ((s.size : Int) > 65536) && okE a b c s)
theorem both_ok (a b c : Int) (s : ByteArray) (k : Nat) : spec_ReqOK.f (k + 5) a b c s = some (okQ a b c s) ∧ impl_ReqOK.f (k + 5) a b c s = some (okQ a b c s) := by
  simp only [spec_ReqOK.f, impl_ReqOK.f, l01In_eq, within_eq, Option.bind_some, impl_isLongText.f, okQ]
  by_cases h1 : inB a 1 8 = true
  · simp only [h1, if_true]
    by_cases h2 : (s.size : Int) > 65536
    · simp [h2, spec_ReqOK.j0]
    · simp only [h2, decide_false, spec_ReqOK.j0, Bool.false_eq_true, if_false]
      simp only [inB_iff] at h1
      have ha : a = 1 ∨ a = 2 ∨ a = 3 ∨ a = 4 ∨ a = 5 ∨ a = 6 ∨ a = 7 ∨ a = 8 := by omega
      rcases ha with rfl | rfl | rfl | rfl | rfl | rfl | rfl | rfl <;> (simp [okE, spec_ReqOK.j1, impl_Req_used.f, impl_Req_used.j0, toList_nil]; try (by_cases hb : b = 0 <;> by_cases hc : c = 0 <;> simp [hb, hc]))
  · have h1' : inB a 1 8 = false := by simpa using h1
    simp [h1', spec_ReqOK.j0]
def wds : List ByteArray := [(⟨#[]⟩ : ByteArray), (⟨#[114, 101, 97, 100]⟩ : ByteArray), (⟨#[119, 114, 105, 116, 101]⟩ : ByteArray), (⟨#[122, 101, 114, 111]⟩ : ByteArray), (⟨#[114, 101, 115, 105, 122, 101]⟩ : ByteArray), (⟨#[99, 114, 101, 97, 116, 101]⟩ : ByteArray), (⟨#[100, 101, 108, 101, 116, 101]⟩ : ByteArray), (⟨#[114, 101, 118, 101, 114, 116]⟩ : ByteArray), (⟨#[108, 105, 115, 116]⟩ : ByteArray)]
def wd (a : Int) : ByteArray := rdOf ByteArray.empty wds a
theorem wd_le {a : Int} (h0 : 1 ≤ a) (h1 : a ≤ 8) : (wd a).size ≤ 6 := by
  have ha : a = 1 ∨ a = 2 ∨ a = 3 ∨ a = 4 ∨ a = 5 ∨ a = 6 ∨ a = 7 ∨ a = 8 := by omega
  rcases ha with rfl | rfl | rfl | rfl | rfl | rfl | rfl | rfl <;> exact of_decide_eq_true rfl
def txt (a b c : Int) (s : ByteArray) : ByteArray := if a = 1 ∨ a = 3 ∨ a = 4 then (wd a ++ bl) ++ dgs b else if a = 2 then (((wd a ++ bl) ++ dgs b) ++ bl) ++ dgs c else if a = 8 then wd a else (wd a ++ bl) ++ s
def told (a b c : Int) (s : ByteArray) : Bool := inB b 0 2147483647 && (inB c 0 2147483647 && (if inB a 5 7 = true then nmOK s else true))
def res (a b c : Int) (s : ByteArray) : ByteArray × Int := if okQ a b c s = true then (if told a b c s = true then (txt a b c s, 0) else ((⟨#[]⟩ : ByteArray), 1)) else ((⟨#[]⟩ : ByteArray), 1)
theorem okQ_facts {a b c : Int} {s : ByteArray} (h : okQ a b c s = true) : 1 ≤ a ∧ a ≤ 8 ∧ (s.size : Int) ≤ 65536 := by
  unfold okQ at h
  simp only [Bool.and_eq_true, inB_iff, Bool.not_eq_true', decide_eq_false_iff_not] at h
  omega
theorem ok_ev (a b c : Int) (s : ByteArray) : Ev (fun k => spec_ReqOK.f k a b c s) (okQ a b c s) ∧ Ev (fun k => impl_ReqOK.f k a b c s) (okQ a b c s) := by
  refine ⟨⟨5, fun k hk => ?_⟩, ⟨5, fun k hk => ?_⟩⟩
  · obtain ⟨j, rfl⟩ : ∃ j, k = j + 5 := ⟨k - 5, by omega⟩
    exact (both_ok a b c s j).1
  · obtain ⟨j, rfl⟩ : ∃ j, k = j + 5 := ⟨k - 5, by omega⟩
    exact (both_ok a b c s j).2
theorem told_facts {a b c : Int} {s : ByteArray} (h : told a b c s = true) : 0 ≤ b ∧ b ≤ 2147483647 ∧ 0 ≤ c ∧ c ≤ 2147483647 := by
  unfold told at h
  simp only [Bool.and_eq_true, inB_iff] at h
  omega
/-! ### PString -/
theorem rdE_String (l : List ByteArray) (i : Nat) (h : i < l.length) : rdOf ByteArray.empty l (i : Int) = l[i] := by simp [rdOf, h]
theorem rdset_String (l : List ByteArray) (i : Nat) (v : ByteArray) (h : i < l.length) : rdOf ByteArray.empty (l.set i v) (i : Int) = v := by simp [rdOf, h]
theorem szStringS_from (l : List ByteArray) (hs : ∀ x ∈ l, x.size ≤ maxLen) (hl : l.length ≤ 1048576) : ∀ d i (x : Int), 0 ≤ x → x ≤ 1048576 → i ≤ l.length → l.length - i = d → ∃ s, Ev (fun k => laws_szStringS.l0 k l x (i : Int)) s ∧ (s < 0 ∨ (s ≤ x ∧ 0 ≤ s ∧ ∀ j (h : j < l.length), i ≤ j → ((l[j].size : Nat) : Int) ≤ x)) := by
  intro d
  induction d with
  | zero =>
    intro i x h0 hx hi hd
    refine ⟨x, Ev.step (f := fun _ => some x) (fun k => ?_) (ev_some _), Or.inr ⟨by omega, h0, fun j hj hij => absurd hj (by omega)⟩⟩
    simp only [laws_szStringS.l0]; rw [if_neg (by omega)]
  | succ d ih =>
    intro i x h0 hx hi hd
    have hlt : i < l.length := by omega
    have hz := hs l[i] (List.getElem_mem hlt)
    have hM : maxLen = 9223372036854775807 := rfl
    have hz0 : ((l[i].size : Nat) : Int) ≤ 9223372036854775807 := by omega
    by_cases hc : x - ((l[i].size : Nat) : Int) < 0
    · refine ⟨-1, Ev.step (f := fun _ => some (-1)) (fun k => ?_) (ev_some _), Or.inl (by omega)⟩
      simp only [laws_szStringS.l0]
      rw [if_pos (by omega), if_pos (by omega), rdE_String l i hlt, w64 (by omega) (by omega), if_pos hc]
    · obtain ⟨s, h1, h2⟩ := ih (i + 1) (x - ((l[i].size : Nat) : Int)) (by omega) (by omega) (by omega) (by omega)
      refine ⟨s, Ev.step (f := fun k => laws_szStringS.l0 k l (x - ((l[i].size : Nat) : Int)) ((i + 1 : Nat) : Int)) (fun k => ?_) h1, ?_⟩
      · simp only [laws_szStringS.l0]
        rw [if_pos (by omega), if_pos (by omega), rdE_String l i hlt, w64 (by omega) (by omega), if_neg hc, wnext i (by omega)]
      · rcases h2 with h2 | ⟨h2, h3, h4⟩
        · exact Or.inl h2
        · refine Or.inr ⟨by omega, h3, fun j hj hij => ?_⟩
          rcases Nat.eq_or_lt_of_le hij with e | e
          · subst e; omega
          · have := h4 j hj e; omega
theorem szStringS_ev (l : List ByteArray) (hs : ∀ x ∈ l, x.size ≤ maxLen) (hm : l.length ≤ maxLen) (a : Int) (h0 : 0 ≤ a) (ha : a ≤ 1048576) : ∃ s, Ev (fun k => laws_szStringS.f k l a) s ∧ (s < 0 ∨ (s ≤ a ∧ 0 ≤ s ∧ (l.length : Int) ≤ a ∧ ∀ x ∈ l, ((x.size : Nat) : Int) ≤ a)) := by
  have hM : maxLen = 9223372036854775807 := rfl
  unfold laws_szStringS.f
  rw [w64 (n := a - (l.length : Int)) (by omega) (by omega)]
  by_cases hc : a - (l.length : Int) < 0
  · exact ⟨-1, ev_pos hc (ev_some _), Or.inl (by omega)⟩
  · obtain ⟨s, h1, h2⟩ := szStringS_from l hs (by omega) l.length 0 (a - (l.length : Int)) (by omega) (by omega) (by omega) (by omega)
    refine ⟨s, ev_neg hc h1, ?_⟩
    rcases h2 with h2 | ⟨h2, h3, h4⟩
    · exact Or.inl h2
    · refine Or.inr ⟨by omega, h3, by omega, fun x hx => ?_⟩
      obtain ⟨j, hj, rfl⟩ := List.getElem_of_mem hx
      have := h4 j hj (by omega); omega
def cvString (x : ByteArray) : ByteArray := x
theorem toStringS_ev (l : List ByteArray) (hl : l.length ≤ 1048576) : Ev (fun k => laws_toStringS.f k l) (l.map cvString) := by
  unfold laws_toStringS.f
  refine ev_pos (by omega) (ev_pos (by omega) ?_)
  rw [Int.toNat_natCast]
  have hc : (l.map cvString).length = (List.replicate l.length (⟨#[]⟩ : ByteArray)).length := by simp
  have h := ev_loop (g := fun k i => laws_toStringS.l0 k l ((l.map cvString).take i ++ (List.replicate l.length (⟨#[]⟩ : ByteArray)).drop i) (i : Int)) (r := l.map cvString) l.length ?_ ?_ l.length 0 (by omega) (by omega)
  · simpa using h
  · refine Ev.step (f := fun _ => some (l.map cvString)) (fun k => ?_) (ev_some _)
    simp only [laws_toStringS.l0]
    rw [if_neg (by omega), List.drop_of_length_le (by simp), List.take_of_length_le (by simp)]; simp
  · intro i hi
    refine ⟨1, fun k => ⟨?_, by omega⟩⟩
    simp only [laws_toStringS.l0]
    have hlen : ((l.map cvString).take i ++ (List.replicate l.length (⟨#[]⟩ : ByteArray)).drop i).length = l.length := by simp; omega
    rw [if_pos (by omega), if_pos (by omega), if_pos (by rw [hlen]; omega), rdE_String l i hi, Int.toNat_natCast, set_mid _ _ hc i (by simpa using hi) _ (by simp [cvString]), wnext i (by omega)]
theorem eqStringS_ev (l : List ByteArray) (hl : l.length ≤ 1000000000) : Ev (fun k => laws_eqStringS.f k l l) true := by
  unfold laws_eqStringS.f
  refine ev_pos rfl ?_
  refine ev_loop (g := fun k i => laws_eqStringS.l0 k l l (i : Int)) l.length ?_ ?_ l.length 0 (by omega) (by omega)
  · refine Ev.step (f := fun _ => some true) (fun k => ?_) (ev_some _)
    simp only [laws_eqStringS.l0]; rw [if_neg (by omega)]
  · intro i hi
    refine ⟨1, fun k => ⟨?_, by omega⟩⟩
    simp only [laws_eqStringS.l0]
    rw [if_pos (by omega), if_pos (by omega), if_pos (by omega), wnext i (by omega)]
    simp only [if_true, Option.bind_some]
/-! ### Reply -/
def cwds : List ByteArray := [(⟨#[111, 107]⟩ : ByteArray), (⟨#[98, 97, 100]⟩ : ByteArray), (⟨#[108, 111, 110, 103]⟩ : ByteArray), (⟨#[102, 111, 114, 109]⟩ : ByteArray), (⟨#[114, 97, 110, 103, 101]⟩ : ByteArray), (⟨#[110, 111, 110, 101]⟩ : ByteArray), (⟨#[109, 97, 110, 121]⟩ : ByteArray), (⟨#[102, 117, 108, 108]⟩ : ByteArray), (⟨#[116, 119, 105, 99, 101]⟩ : ByteArray), (⟨#[104, 101, 108, 100]⟩ : ByteArray), (⟨#[102, 101, 110, 99, 101, 100]⟩ : ByteArray), (⟨#[97, 108, 105, 118, 101]⟩ : ByteArray), (⟨#[110, 97, 109, 101]⟩ : ByteArray), (⟨#[115, 116, 97, 108, 101]⟩ : ByteArray), (⟨#[112, 108, 97, 99, 101]⟩ : ByteArray), (⟨#[99, 108, 111, 115, 101, 100]⟩ : ByteArray), (⟨#[111, 112, 101, 110]⟩ : ByteArray), (⟨#[111, 114, 100, 101, 114]⟩ : ByteArray), (⟨#[98, 114, 111, 107, 101, 110]⟩ : ByteArray), (⟨#[97, 98, 111, 114, 116]⟩ : ByteArray)]
def cw (c : Int) : ByteArray := if inB c 0 19 = true then rdOf ByteArray.empty cwds c else ByteArray.empty
theorem cw_facts {c : Int} (h : inB c 0 19 = true) : (cw c).toList ≠ [] ∧ (cw c).size ≤ 6 := by
  have hb := inB_iff.1 h
  unfold cw
  rw [if_pos h]
  have hc : c = 0 ∨ c = 1 ∨ c = 2 ∨ c = 3 ∨ c = 4 ∨ c = 5 ∨ c = 6 ∨ c = 7 ∨ c = 8 ∨ c = 9 ∨ c = 10 ∨ c = 11 ∨ c = 12 ∨ c = 13 ∨ c = 14 ∨ c = 15 ∨ c = 16 ∨ c = 17 ∨ c = 18 ∨ c = 19 := by omega
  have key : ∀ (n : Nat), n < 20 → (rdOf ByteArray.empty cwds (n : Int)).toList ≠ [] ∧ (rdOf ByteArray.empty cwds (n : Int)).size ≤ 6 := by
    intro n hn
    have e : ∀ x : ByteArray, x.toList ≠ [] ↔ x.size ≠ 0 := by
      intro x
      rw [ByteArray.toList_eq]
      constructor
      · intro h h0; apply h; exact List.eq_nil_of_length_eq_zero (by rw [Array.length_toList]; exact h0)
      · intro h h0; apply h; have := congrArg List.length h0; rw [Array.length_toList] at this; exact this
    rw [e]
    have : ∀ m : Fin 20, (rdOf ByteArray.empty cwds ((m : Nat) : Int)).size ≠ 0 ∧ (rdOf ByteArray.empty cwds ((m : Nat) : Int)).size ≤ 6 := by decide
    exact this ⟨n, hn⟩
  have := key c.toNat (by omega)
  rwa [show ((c.toNat : Nat) : Int) = c by omega] at this
theorem impl_cw (c : Int) : impl_CodeWord.f c = some (cw c) := by
  unfold impl_CodeWord.f cw
  simp only [within_eq, Option.bind_some, show impl_codeWords.f = some cwds from rfl]
  cases h : inB c 0 19
  · rfl
  · have := inB_iff.1 h
    simp only [if_true]
    rw [if_pos (by omega), if_pos (by show c < (20 : Int); omega)]
theorem spec_cw (c : Int) : spec_CodeWord.f c = some (cw c) := by
  unfold spec_CodeWord.f cw
  show (if c < 0 then _ else if c ≥ ((cwds.length : Nat) : Int) then _ else if 0 ≤ c then (if c < ((cwds.length : Nat) : Int) then some (rdOf ByteArray.empty cwds c) else none) else none) = _
  have hl : ((cwds.length : Nat) : Int) = 20 := rfl
  rw [hl]
  by_cases h0 : c < 0
  · rw [if_pos h0, if_neg (by rw [inB_iff]; omega)]; rfl
  · rw [if_neg h0]
    by_cases h1 : c ≥ 20
    · rw [if_pos h1, if_neg (by rw [inB_iff]; omega)]; rfl
    · rw [if_neg h1, if_pos (by omega), if_pos (by omega), if_pos (inB_iff.2 ⟨by omega, by omega⟩)]
theorem dist (l : List ByteArray) : ∀ x ∈ l, x.size ≤ (l.map (·.size)).sum := by
  intro x hx
  induction l with
  | nil => cases hx
  | cons y r ih =>
    simp only [List.map_cons, List.sum_cons]
    rcases List.mem_cons.1 hx with rfl | hx
    · omega
    · have := ih hx; omega
def rtext (q v c : Int) (l : List ByteArray) : ByteArray := if c = 0 then (if q = 1 ∨ q = 8 then jn (cw c) (dgs v :: l) else jn (cw c) l) else cw c
theorem nm_size {t : ByteArray} (h : nmOK t = true) : t.size ≤ 6 := by
  unfold nmOK at h
  simp only [Bool.and_eq_true, inB_iff] at h
  omega
theorem spec_names (c v : Int) (l : List ByteArray) (hl : l.length ≤ 3) (hn : ∀ x ∈ l, x.size ≤ 6) (w : ByteArray) (hw : w.size ≤ 10000000000) (a b : Int) : Ev (fun k => spec_l13Reply.l0 k w 0 a b l) (jn w l) := by
  have key : ∀ d i, i ≤ l.length → l.length - i = d → Ev (fun k => spec_l13Reply.l0 k (jn w (l.take i)) (i : Int) a b l) (jn w l) := by
    intro d
    induction d with
    | zero =>
      intro i hi hd
      refine Ev.succ ?_
      simp only [spec_l13Reply.l0]
      refine ev_neg (by omega) ?_
      rw [List.take_of_length_le (by omega)]
      exact ev_some _
    | succ d ih =>
      intro i hi hd
      have hlt : i < l.length := by omega
      have hz := hn _ (List.getElem_mem hlt)
      have hj := jn_size 6 (l.take i) w (fun x hx => hn x (List.mem_of_mem_take hx))
      have hj2 : (l.take i).length * (6 + 1) ≤ 3 * 7 := Nat.mul_le_mul (by rw [List.length_take]; omega) (by omega)
      refine Ev.succ ?_
      simp only [spec_l13Reply.l0, rdE_String l i hlt, wnext i (show i < 1000000000000000000 by omega)]
      have hs : ((⟨#[32]⟩ : ByteArray) ++ l[i]).size = 1 + l[i].size := by rw [ba_size_append]; rfl
      refine ev_pos (by omega) (ev_pos (by omega) (ev_pos (by omega) (ev_pos (by rw [hs]; omega) ?_)))
      have := ih (i + 1) (by omega) (by omega)
      rw [List.take_succ_eq_append_getElem hlt, jn_snoc] at this
      exact this
  exact key l.length 0 (by omega) (by omega)
theorem spec_rtext (q b c0 : Int) (s : ByteArray) (c v : Int) (l : List ByteArray) (hc : inB c 0 19 = true) (hv0 : 0 ≤ v) (hv : v ≤ 2147483647) (hl : l.length ≤ 3) (hn : ∀ x ∈ l, x.size ≤ 6) : Ev (fun k => spec_l13Reply.f k q b c0 s c v l) (rtext q v c l) := by
  obtain ⟨w1, w2⟩ := cw_facts hc
  unfold spec_l13Reply.f rtext
  simp only [spec_cw, Option.bind_some]
  by_cases h0 : c = 0
  · rw [if_pos h0]
    refine ev_pos h0 ?_
    obtain ⟨d1, d2⟩ := digits_ev v.toNat v hv0 (Nat.le_refl _) (by omega)
    have hT : Ev (fun k => spec_l13Reply.j0 k (cw c) true c v l) (jn (cw c) (dgs v :: l)) := by
      refine Ev.succ ?_
      simp only [spec_l13Reply.j0, if_true]
      have hz : ((⟨#[32]⟩ : ByteArray) ++ dgs v).size = 1 + (dgs v).size := by rw [ba_size_append]; rfl
      refine ev_bind d1 (ev_pos (by omega) (ev_pos (by rw [hz]; omega) (Ev.succ ?_)))
      simp only [spec_l13Reply.j1]
      exact spec_names c v l hl hn _ (by show (cw c ++ ((⟨#[32]⟩ : ByteArray) ++ dgs v)).size ≤ _; rw [ba_size_append, hz]; omega) c v
    have hF : Ev (fun k => spec_l13Reply.j0 k (cw c) false c v l) (jn (cw c) l) := by
      refine Ev.succ ?_
      simp only [spec_l13Reply.j0, Bool.false_eq_true, if_false]
      refine Ev.succ ?_
      simp only [spec_l13Reply.j1]
      exact spec_names c v l hl hn _ (by omega) c v
    by_cases h1 : q = 1
    · rw [if_pos (Or.inl h1)]; exact ev_pos h1 hT
    · refine ev_neg h1 ?_
      by_cases h8 : q = 8
      · rw [if_pos (Or.inr h8), show (q == 8) = true by simp [h8]]; exact hT
      · rw [if_neg (by omega), show (q == 8) = false by simp [h8]]; exact hF
  · rw [if_neg h0]
    exact ev_neg h0 (ev_some _)
theorem impl_rtext (q b c0 : Int) (s : ByteArray) (c v : Int) (l : List ByteArray) (hc : inB c 0 19 = true) (hv0 : 0 ≤ v) (hv : v ≤ 2147483647) (hl : l.length ≤ 3) (hn : ∀ x ∈ l, x.size ≤ 6) : Ev (fun k => impl_replyText.f k q b c0 s c v l) (rtext q v c l) := by
  obtain ⟨w1, w2⟩ := cw_facts hc
  have d2 := dgs_le (n := v) hv0 (by omega)
  unfold impl_replyText.f rtext
  simp only [impl_cw, Option.bind_some]
  by_cases h0 : c = 0
  · rw [if_pos h0]
    refine ev_pos h0 ?_
    have hT : Ev (fun k => impl_replyText.j0 k (cw c) true c v l) (jn (cw c) (dgs v :: l)) := by
      refine Ev.succ ?_
      simp only [impl_replyText.j0, if_true]
      rw [said3_eq (cw c) (.n v) (.ss (.bool false) l) ⟨hv0, by omega⟩ trivial (by omega) 2147483648 (by omega) (by show 1 ≤ _; omega) (by show l.length ≤ _; omega) (by intro y hy; rw [List.mem_singleton.1 hy]; omega) (by intro y hy; have := hn y hy; omega), Option.bind_some]
      exact ev_some _
    have hF : Ev (fun k => impl_replyText.j0 k (cw c) false c v l) (jn (cw c) l) := by
      refine Ev.succ ?_
      simp only [impl_replyText.j0, Bool.false_eq_true, if_false]
      rw [said2_eq (cw c) (.ss (.bool false) l) trivial (by omega) 6 (by omega) (by show l.length ≤ _; omega) (fun y hy => hn y hy), Option.bind_some]
      exact ev_some _
    by_cases h1 : q = 1
    · rw [if_pos (Or.inl h1)]; exact ev_pos h1 hT
    · refine ev_neg h1 ?_
      by_cases h8 : q = 8
      · rw [if_pos (Or.inr h8), show (q == 8) = true by simp [h8]]; exact hT
      · rw [if_neg (by omega), show (q == 8) = false by simp [h8]]; exact hF
  · rw [if_neg h0]
    exact ev_neg h0 (ev_some _)
def rep (a b c0 : Int) (s : ByteArray) (c v : Int) (l : List ByteArray) : ByteArray × Int :=
  if okQ a b c0 s = true then (if inB c 0 19 = true then (if inB v 0 2147483647 = true then (if (l.length : Int) > 3 then ((⟨#[]⟩ : ByteArray), 1) else if l.all nmOK = true then (rtext a v c l, 0) else ((⟨#[]⟩ : ByteArray), 1)) else ((⟨#[]⟩ : ByteArray), 1)) else ((⟨#[]⟩ : ByteArray), 1)) else ((⟨#[]⟩ : ByteArray), 1)
theorem spec_rep (a b c0 : Int) (s : ByteArray) (c v : Int) (l : List ByteArray) (hs : ∀ x ∈ l, x.size ≤ 1000000000) (hl : l.length ≤ 1000000000) : Ev (fun k => spec_ReplyText.f k a b c0 s c v l) (rep a b c0 s c v l) := by
  have bad : Ev (fun k => spec_ReplyText.j0 k true a b c0 s c v l) ((⟨#[]⟩ : ByteArray), 1) := by
    refine Ev.succ ?_
    simp only [spec_ReplyText.j0, if_true]
    exact ev_some _
  unfold spec_ReplyText.f rep
  refine ev_bind (ok_ev a b c0 s).1 ?_
  cases hk : okQ a b c0 s
  · exact ev_neg (by decide) bad
  · refine ev_pos rfl ?_
    simp only [l01In_eq, spec_l02Int.f, Option.bind_some, if_true]
    cases hc : inB c 0 19
    · exact ev_neg (by decide) bad
    · refine ev_pos rfl ?_
      cases hv : inB v 0 2147483647
      · exact ev_neg (by decide) bad
      · refine ev_pos rfl ?_
        simp only [if_true]
        by_cases h3 : (l.length : Int) > 3
        · rw [decide_eq_true h3, if_pos h3]; exact bad
        · rw [decide_eq_false h3, if_neg h3]
          refine Ev.succ ?_
          simp only [spec_ReplyText.j0, Bool.false_eq_true, if_false]
          have hv2 := inB_iff.1 hv
          refine ev_asksE (g := fun k i => spec_ReplyText.l0 k (i : Int) a b c0 s c v l) l nmOK (rtext a v c l, 0) ((⟨#[]⟩ : ByteArray), 1) ?_ ?_
          · intro hall
            refine Ev.succ ?_
            simp only [spec_ReplyText.l0]
            refine ev_neg (by omega) (ev_bind (spec_rtext a b c0 s c v l hc hv2.1 hv2.2 (by omega) (fun x hx => nm_size (List.all_eq_true.1 hall x hx))) (ev_some _))
          · intro i hi
            have e : ∀ k, spec_ReplyText.l0 (k + 1) (i : Int) a b c0 s c v l = ((spec_l10Name.f k l[i]).bind fun t139 => (if t139 = true then spec_ReplyText.l0 k ((i + 1 : Nat) : Int) a b c0 s c v l else some ((⟨#[]⟩ : ByteArray), 1))) := by
              intro k
              simp only [spec_ReplyText.l0, rdE_String l i hi, wnext i (show i < 1000000000000000000 by omega)]
              rw [if_pos (by omega), if_pos (by omega)]
            have hN := spec_Name_ev l[i] (hs _ (List.getElem_mem hi))
            refine ⟨fun h hn => Ev.succ ?_, fun h => Ev.succ ?_⟩
            · simp only [e]
              rw [h] at hN
              exact ev_bind hN (ev_pos rfl hn)
            · simp only [e]
              rw [h] at hN
              exact ev_bind hN (ev_neg (by decide) (ev_some _))
theorem impl_rep (a b c0 : Int) (s : ByteArray) (c v : Int) (l : List ByteArray) (hs : ∀ x ∈ l, x.size ≤ 1000000000) (hl : l.length ≤ 1000000000) : Ev (fun k => impl_ReplyText.f k a b c0 s c v l) (rep a b c0 s c v l) := by
  unfold impl_ReplyText.f rep
  refine ev_bind (ok_ev a b c0 s).2 ?_
  cases hk : okQ a b c0 s
  · exact ev_neg (by decide) (ev_some _)
  · refine ev_pos rfl ?_
    simp only [impl_cw, impl_isNumber.f, within_eq, Option.bind_some, if_true]
    cases hc : inB c 0 19
    · have e : cw c = ByteArray.empty := by unfold cw; rw [if_neg (by rw [hc]; decide)]
      refine ev_pos (by rw [e, ByteArray.toList_eq]; rfl) (ev_some _)
    · refine ev_neg (cw_facts hc).1 ?_
      cases hv : inB v 0 2147483647
      · exact ev_neg (by decide) (ev_some _)
      · refine ev_pos rfl ?_
        simp only [if_true]
        have hv2 := inB_iff.1 hv
        by_cases h3 : (l.length : Int) > 3
        · rw [if_pos h3]; exact ev_pos h3 (ev_some _)
        · rw [if_neg h3]
          refine ev_neg h3 (ev_bind (a := l.all nmOK) (by unfold all49_impl_snapNameOK.f; exact ev_allO _ _ l (fun x hx => impl_Name_ev x (hs x hx))) ?_)
          cases hall : l.all nmOK
          · exact ev_neg (by decide) (ev_some _)
          · exact ev_pos rfl (ev_bind (impl_rtext a b c0 s c v l hc hv2.1 hv2.2 (by omega) (fun x hx => nm_size (List.all_eq_true.1 hall x hx))) (ev_some _))
end Go.Proofs.YtniceoohmhjjlaaDoor.Q
