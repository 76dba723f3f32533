/- What laws.FnReqText reaches, part 3: the functions as Lean functions, the proofs that the program's functions answer so, and plain laws about them. -/
import Derived.Test.YtniceoohmhjjlaaDoorKFnReqText1
import Derived.Test.YtniceoohmhjjlaaDoorKFnReqText2
namespace Go.Proofs.YtniceoohmhjjlaaDoor.Q
open Go.RowKit Go.Proofs.YtniceoohmhjjlaaDoor.Ext Go.Proofs.YtniceoohmhjjlaaDoorW.PrintWords Go.Proofs.YtniceoohmhjjlaaDoorW.PrintLast Go.Proofs.YtniceoohmhjjlaaDoorW.PrintMore
attribute [local go_sem] max2_int min2_int max_two min_two max_three min_three max_four min_four   -- for this text's walks alone
set_option linter.unusedVariables false
set_option linter.unusedSimpArgs false

set_option linter.unusedVariables false
set_option linter.unusedSimpArgs false
/-! ### impl_reqOf: function 32 -/
mutual
def impl_reqOf.l0 : Nat → List ByteArray → List ByteArray → Int → Int → Option (Int × Int × Int × ByteArray × Bool)
  | 0, _, _, _, _ => none
  | k + 1, x0, x14, x15, x16 => if x16 < x15 then (if 0 ≤ x16 then (if x16 < (x14.length : Int) then (if x16 = 0 then (impl_reqOf.j1 k x0 x16 x14 x15 x16 true) else (if 0 < (x0.length : Int) then (impl_reqOf.j1 k x0 x16 x14 x15 x16 ((rdOf ByteArray.empty x14 x16).toList != (rdOf ByteArray.empty x0 0).toList)) else (none))) else (none)) else (none)) else (some (0, 0, 0, (⟨#[]⟩ : ByteArray), false))
def impl_reqOf.j1 : Nat → List ByteArray → Int → List ByteArray → Int → Int → Bool → Option (Int × Int × Int × ByteArray × Bool)
  | 0, _, _, _, _, _, _ => none
  | k + 1, x0, x4, x14, x15, x16, x29 => if x29 = true then (impl_reqOf.l0 k x0 x14 x15 (wrap64 (x16 + 1))) else (if 1 ≤ (x0.length : Int) then (if x4 ≤ 4 then (impl_reqOf.j2 k x0 x4 x0.tail true true (decide ((x0.tail.length : Int) > 0)) x4 0 0 (⟨#[]⟩ : ByteArray)) else (impl_reqOf.j2 k x0 x4 x0.tail true true false x4 0 0 (⟨#[]⟩ : ByteArray))) else (none))
def impl_reqOf.j3 : Nat → List ByteArray → Bool → Bool → Int → Int → Int → ByteArray → Option (Int × Int × Int × ByteArray × Bool)
  | 0, _, _, _, _, _, _, _ => none
  | k + 1, x0, x8, x9, x204000, x204001, x204002, x204003 => if x8 = true then (if x9 = true then ((impl_ReqOK.f k x204000 x204001 x204002 x204003).bind fun t211 => (if t211 = true then ((impl_Req_isTold.f k x204000 x204001 x204002 x204003).bind fun t212 => (if t212 = true then ((impl_Req_text.f k x204000 x204001 x204002 x204003).bind fun t213 => ((impl_said.f (([Any.ss (.bool false) x0] : List Any))).bind fun t217 => (some (x204000, x204001, x204002, x204003, (t213.toList == t217.toList))))) else (some (x204000, x204001, x204002, x204003, false)))) else (some (x204000, x204001, x204002, x204003, false)))) else (some (x204000, x204001, x204002, x204003, false))) else (some (x204000, x204001, x204002, x204003, false))
def impl_reqOf.j2 : Nat → List ByteArray → Int → List ByteArray → Bool → Bool → Bool → Int → Int → Int → ByteArray → Option (Int × Int × Int × ByteArray × Bool)
  | 0, _, _, _, _, _, _, _, _, _, _ => none
  | k + 1, x0, x4, x7, x8, x9, x34, x204000, x204001, x204002, x204003 => if x34 = true then (if 0 < (x7.length : Int) then ((impl_readNumber.f (rdOf ByteArray.empty x7 0)).bind fun bt205 => (if x4 = 2 then (if (x7.length : Int) > 1 then (if 1 < (x7.length : Int) then ((impl_readNumber.f (rdOf ByteArray.empty x7 1)).bind fun bt208 => (impl_reqOf.j3 k x0 bt205.2 bt208.2 x204000 bt205.1 bt208.1 x204003)) else (none)) else (impl_reqOf.j3 k x0 bt205.2 x9 x204000 bt205.1 x204002 x204003)) else (impl_reqOf.j3 k x0 bt205.2 x9 x204000 bt205.1 x204002 x204003))) else (none)) else (if x4 = 8 then (impl_reqOf.j3 k x0 x8 x9 x204000 x204001 x204002 x204003) else (if (x7.length : Int) > 0 then (if 0 < (x7.length : Int) then (impl_reqOf.j3 k x0 x8 x9 x204000 x204001 x204002 (rdOf ByteArray.empty x7 0)) else (none)) else (impl_reqOf.j3 k x0 x8 x9 x204000 x204001 x204002 x204003)))
end
def impl_reqOf.f (k : Nat) (l0 : List ByteArray) : Option (Int × Int × Int × ByteArray × Bool) := if (l0.length : Int) = 0 then (some (0, 0, 0, (⟨#[]⟩ : ByteArray), false)) else ((impl_reqWords.f).bind fun t197 => (impl_reqOf.l0 k l0 t197 (t197.length : Int) 0))
theorem impl_reqOf.mono_l : ∀ k, (∀ y0 y1 y2 y3, LeO (impl_reqOf.l0 k y0 y1 y2 y3) (impl_reqOf.l0 (k + 1) y0 y1 y2 y3)) ∧ (∀ y0 y1 y2 y3 y4 y5, LeO (impl_reqOf.j1 k y0 y1 y2 y3 y4 y5) (impl_reqOf.j1 (k + 1) y0 y1 y2 y3 y4 y5)) ∧ (∀ y0 y1 y2 y3 y4 y5 y6, LeO (impl_reqOf.j3 k y0 y1 y2 y3 y4 y5 y6) (impl_reqOf.j3 (k + 1) y0 y1 y2 y3 y4 y5 y6)) ∧ (∀ y0 y1 y2 y3 y4 y5 y6 y7 y8 y9, LeO (impl_reqOf.j2 k y0 y1 y2 y3 y4 y5 y6 y7 y8 y9) (impl_reqOf.j2 (k + 1) y0 y1 y2 y3 y4 y5 y6 y7 y8 y9))
  | 0 => ⟨fun _ _ _ _ r h => by simp [impl_reqOf.l0] at h, fun _ _ _ _ _ _ r h => by simp [impl_reqOf.j1] at h, fun _ _ _ _ _ _ _ r h => by simp [impl_reqOf.j3] at h, fun _ _ _ _ _ _ _ _ _ _ r h => by simp [impl_reqOf.j2] at h⟩
  | k + 1 => by
    obtain ⟨ih0, ih1, ih2, ih3⟩ := impl_reqOf.mono_l k
    refine ⟨?_, ?_, ?_, ?_⟩
    · intro y0 y1 y2 y3
      unfold impl_reqOf.l0
      repeat' first
      | (with_reducible exact ih0 _ _ _ _)
      | (with_reducible exact ih1 _ _ _ _ _ _)
      | (with_reducible exact ih2 _ _ _ _ _ _ _)
      | (with_reducible exact ih3 _ _ _ _ _ _ _ _ _ _)
      | (with_reducible exact impl_ReqOK.mono _ _ _ _ _)
      | (with_reducible exact impl_Req_isTold.mono _ _ _ _ _)
      | (with_reducible exact impl_Req_text.mono _ _ _ _ _)
      | (with_reducible exact LeO.refl _)
      | (with_reducible exact LeO.none _)
      | (with_reducible refine LeO.ite ?_ ?_)
      | (with_reducible refine LeO.bind ?_ (fun _ => ?_))
      | exact ih0 _ _ _ _
      | exact ih1 _ _ _ _ _ _
      | exact ih2 _ _ _ _ _ _ _
      | exact ih3 _ _ _ _ _ _ _ _ _ _
      | exact impl_ReqOK.mono _ _ _ _ _
      | exact impl_Req_isTold.mono _ _ _ _ _
      | exact impl_Req_text.mono _ _ _ _ _
      | exact LeO.none _
      | refine LeO.ite ?_ ?_
      | refine LeO.bind ?_ (fun _ => ?_)
    · intro y0 y1 y2 y3 y4 y5
      unfold impl_reqOf.j1
      repeat' first
      | (with_reducible exact ih0 _ _ _ _)
      | (with_reducible exact ih1 _ _ _ _ _ _)
      | (with_reducible exact ih2 _ _ _ _ _ _ _)
      | (with_reducible exact ih3 _ _ _ _ _ _ _ _ _ _)
      | (with_reducible exact impl_ReqOK.mono _ _ _ _ _)
      | (with_reducible exact impl_Req_isTold.mono _ _ _ _ _)
      | (with_reducible exact impl_Req_text.mono _ _ _ _ _)
      | (with_reducible exact LeO.refl _)
      | (with_reducible exact LeO.none _)
      | (with_reducible refine LeO.ite ?_ ?_)
      | (with_reducible refine LeO.bind ?_ (fun _ => ?_))
      | exact ih0 _ _ _ _
      | exact ih1 _ _ _ _ _ _
      | exact ih2 _ _ _ _ _ _ _
      | exact ih3 _ _ _ _ _ _ _ _ _ _
      | exact impl_ReqOK.mono _ _ _ _ _
      | exact impl_Req_isTold.mono _ _ _ _ _
      | exact impl_Req_text.mono _ _ _ _ _
      | exact LeO.none _
      | refine LeO.ite ?_ ?_
      | refine LeO.bind ?_ (fun _ => ?_)
    · intro y0 y1 y2 y3 y4 y5 y6
      unfold impl_reqOf.j3
      repeat' first
      | (with_reducible exact ih0 _ _ _ _)
      | (with_reducible exact ih1 _ _ _ _ _ _)
      | (with_reducible exact ih2 _ _ _ _ _ _ _)
      | (with_reducible exact ih3 _ _ _ _ _ _ _ _ _ _)
      | (with_reducible exact impl_ReqOK.mono _ _ _ _ _)
      | (with_reducible exact impl_Req_isTold.mono _ _ _ _ _)
      | (with_reducible exact impl_Req_text.mono _ _ _ _ _)
      | (with_reducible exact LeO.refl _)
      | (with_reducible exact LeO.none _)
      | (with_reducible refine LeO.ite ?_ ?_)
      | (with_reducible refine LeO.bind ?_ (fun _ => ?_))
      | exact ih0 _ _ _ _
      | exact ih1 _ _ _ _ _ _
      | exact ih2 _ _ _ _ _ _ _
      | exact ih3 _ _ _ _ _ _ _ _ _ _
      | exact impl_ReqOK.mono _ _ _ _ _
      | exact impl_Req_isTold.mono _ _ _ _ _
      | exact impl_Req_text.mono _ _ _ _ _
      | exact LeO.none _
      | refine LeO.ite ?_ ?_
      | refine LeO.bind ?_ (fun _ => ?_)
    · intro y0 y1 y2 y3 y4 y5 y6 y7 y8 y9
      unfold impl_reqOf.j2
      repeat' first
      | (with_reducible exact ih0 _ _ _ _)
      | (with_reducible exact ih1 _ _ _ _ _ _)
      | (with_reducible exact ih2 _ _ _ _ _ _ _)
      | (with_reducible exact ih3 _ _ _ _ _ _ _ _ _ _)
      | (with_reducible exact impl_ReqOK.mono _ _ _ _ _)
      | (with_reducible exact impl_Req_isTold.mono _ _ _ _ _)
      | (with_reducible exact impl_Req_text.mono _ _ _ _ _)
      | (with_reducible exact LeO.refl _)
      | (with_reducible exact LeO.none _)
      | (with_reducible refine LeO.ite ?_ ?_)
      | (with_reducible refine LeO.bind ?_ (fun _ => ?_))
      | exact ih0 _ _ _ _
      | exact ih1 _ _ _ _ _ _
      | exact ih2 _ _ _ _ _ _ _
      | exact ih3 _ _ _ _ _ _ _ _ _ _
      | exact impl_ReqOK.mono _ _ _ _ _
      | exact impl_Req_isTold.mono _ _ _ _ _
      | exact impl_Req_text.mono _ _ _ _ _
      | exact LeO.none _
      | refine LeO.ite ?_ ?_
      | refine LeO.bind ?_ (fun _ => ?_)
theorem impl_reqOf.mono : ∀ a0 k, LeO (impl_reqOf.f k a0) (impl_reqOf.f (k + 1) a0) := by
  intro a0 k
  obtain ⟨ih0, ih1, ih2, ih3⟩ := impl_reqOf.mono_l k
  unfold impl_reqOf.f
  repeat' first
      | (with_reducible exact ih0 _ _ _ _)
      | (with_reducible exact ih1 _ _ _ _ _ _)
      | (with_reducible exact ih2 _ _ _ _ _ _ _)
      | (with_reducible exact ih3 _ _ _ _ _ _ _ _ _ _)
      | (with_reducible exact impl_ReqOK.mono _ _ _ _ _)
      | (with_reducible exact impl_Req_isTold.mono _ _ _ _ _)
      | (with_reducible exact impl_Req_text.mono _ _ _ _ _)
      | (with_reducible exact LeO.refl _)
      | (with_reducible exact LeO.none _)
      | (with_reducible refine LeO.ite ?_ ?_)
      | (with_reducible refine LeO.bind ?_ (fun _ => ?_))
      | exact ih0 _ _ _ _
      | exact ih1 _ _ _ _ _ _
      | exact ih2 _ _ _ _ _ _ _
      | exact ih3 _ _ _ _ _ _ _ _ _ _
      | exact impl_ReqOK.mono _ _ _ _ _
      | exact impl_Req_isTold.mono _ _ _ _ _
      | exact impl_Req_text.mono _ _ _ _ _
      | exact LeO.none _
      | refine LeO.ite ?_ ?_
      | refine LeO.bind ?_ (fun _ => ?_)
def impl_reqOf.T15 : Bool × List (List Nat × List Nat) := (true, [([], []), ([], []), ([1], [1]), ([2], [2]), ([2, 3], [2, 3]), ([4, 2], [4]), ([5], [5]), ([6, 5, 5], [5, 6]), ([5, 7], [5, 7]), ([8, 7], [8]), ([9], [9]), ([10, 9, 9], [9, 10]), ([9, 11], [9, 11]), ([12, 11], [12]), ([13], [13]), ([14, 13, 13], [13, 14]), ([13], [13]), ([16, 13], [13, 16]), ([17, 13], [13, 17]), ([18, 15, 13], [13, 18]), ([15, 19, 13], [13, 15, 19]), ([13, 20], [13, 20]), ([0, 19, 0], [0]), ([21, 22, 0, 1, 2, 3, 4, 5, 6, 7, 8, 9, 10, 11, 12, 13, 14, 15, 16, 17, 18, 19, 20, 21, 22], [21])])
def impl_reqOf.B15 : List Nat := [0, 0, 2, 6, 14, 30, 62, 126, 254, 510, 1022, 2046, 4094, 8190, 16382, 32766, 16382, 81918, 212990, 524286, 1048574, 2097150, 1048575, 8388607]
theorem impl_reqOf.tab15 : rtab .any (opsOf Tryd.f32 15) = impl_reqOf.T15 := by kernel_rfl
theorem impl_reqOf.bits15 : waitsOk impl_reqOf.T15.2 impl_reqOf.B15 = true := by kernel_rfl
set_option maxHeartbeats 8000000 in
set_option maxRecDepth 100000 in
theorem impl_reqOf.calls (k : Nat) (A0 : Option Addr) (c0 : Nat) (l0 : List ByteArray) (r1 : Int) (r2 : Int) (r3 : Int) (r4 : ByteArray) (r5 : Bool) (w : World) (hr0 : Kd.C Kd.string w A0 l0.length l0) (hc0 : l0.length ≤ c0) (h : impl_reqOf.f k l0 = some (r1, r2, r3, r4, r5)) (HTB_ : TrydTab w := by first | exact HTB_ | exact TrydTab.to HTB_ HB.out | exact TrydTab.to HTB_ (by repeat (first | exact HB.out | apply below_alloc | apply pw_below_drewN | apply below_drew1 | refine below_set ?_ (Aside0.out (by assumption))))) :
    Calls Tryd.prog 32 #[.slice A0 l0.length c0] w fun e w' => e = .returned (.tuple #[.agg #[.int .i64 r1, .int .i64 r2, .int .i64 r3, .string r4], .bool r5]) ∧ Below w.heap.size w w' := by
 have hu23 := Tryd.underlying23
 have HR0 := zm hr0
 have HC0 := zm hc0
 clear hr0 hc0
 have HB := zm (Below.refl w.heap.size w)
 have H : (if (l0.length : Int) = 0 then (some (0, 0, 0, (⟨#[]⟩ : ByteArray), false)) else ((impl_reqWords.f).bind fun t197 => (impl_reqOf.l0 k l0 t197 (t197.length : Int) 0))) = some (r1, r2, r3, r4, r5) := h
 clear h
 by_cases c2 : (l0.length : Int) = 0
 ·rw [if_pos c2] at H
  have c2b0 : ((l0.length : Int) == 0) = true := beq_iff_eq.mpr c2
  have c2b1 : ((l0.length : Int) != 0) = false := bne_eq_false_iff_eq.mpr c2
  clear c2
  simp only [Option.some.injEq, Prod.mk.injEq] at H
  obtain ⟨rfl, rfl, rfl, rfl, rfl⟩ := H
  go_enter Tryd.func32, Tryd.ntmps32
  go_wp2_with (first | ((with_reducible refine gate_dst (N := 2) rfl ?_); (try (refine gate_guard (by rfl) ?_; dsimp only)); refine box_event ?hg (N := 2) ?hd (cs := #[.int .i64 0, .int .i64 0, .int .i64 0, .string (⟨#[]⟩ : ByteArray)]) (t := 23) ?hr ?_; (case hd => rfl); (case hg => rfl); (case hr => first | (go_simp; done) | (go_simp; rfl)); intro gb196 hg w3 hbox hb; have n0_ := zm (below_step (zg_0 HB.out) hb); have n1_ := zm (hbox); have n2_ := zm ((by rw [hg]; exact (below_size (zg_0 HB.out)) : w.heap.size ≤ gb196)); have n3_ := zm ((by rw [hg]; exact (below_size (zg_0 HB.out)) : w.heap.size ≤ gb196)); clear HB; have HB := n0_; have Zc := n1_; have Zn := n2_; have Ze := n3_; clear n0_ n1_ n2_ n3_; clear hb hbox hg; have hcz4_0 : w3.cell? ⟨gb196, 0, none⟩ = some (.int .i64 0) := (blk_cell Zc.out 0).trans rfl; have hcz4_1 : w3.cell? ⟨gb196, 1, none⟩ = some (.int .i64 0) := (blk_cell Zc.out 1).trans rfl; have hcz4_2 : w3.cell? ⟨gb196, 2, none⟩ = some (.int .i64 0) := (blk_cell Zc.out 2).trans rfl; have hcz4_3 : w3.cell? ⟨gb196, 3, none⟩ = some (.string (⟨#[]⟩ : ByteArray)) := (blk_cell Zc.out 3).trans rfl; have hfz4_0 := blk_frozen Zc.out 0; have hfz4_1 := blk_frozen Zc.out 1; have hfz4_2 := blk_frozen Zc.out 2; have hfz4_3 := blk_frozen Zc.out 3))
  refine bodyPost_ret (results_ct rfl _ _ gb196 23 #[.int .i64 0, .int .i64 0, .int .i64 0, .string (⟨#[]⟩ : ByteArray)] (0, 0) _ rfl (by (with_reducible repeat (first | refine blk_drewN ?_ _ | refine blk_drew ?_ | refine blk_alloc ?_ _)); refine blk_put (cs := #[.int .i64 0, .int .i64 0, .int .i64 0, .string (⟨#[]⟩ : ByteArray)]) ?_ 3 _ rfl; (with_reducible repeat (first | refine blk_drewN ?_ _ | refine blk_drew ?_ | refine blk_alloc ?_ _)); refine blk_put (cs := #[.int .i64 0, .int .i64 0, .int .i64 0, .string (⟨#[]⟩ : ByteArray)]) ?_ 2 _ rfl; (with_reducible repeat (first | refine blk_drewN ?_ _ | refine blk_drew ?_ | refine blk_alloc ?_ _)); refine blk_put (cs := #[.int .i64 0, .int .i64 0, .int .i64 0, .string (⟨#[]⟩ : ByteArray)]) ?_ 1 _ rfl; (with_reducible repeat (first | refine blk_drewN ?_ _ | refine blk_drew ?_ | refine blk_alloc ?_ _)); refine blk_put (cs := #[.int .i64 0, .int .i64 0, .int .i64 0, .string (⟨#[]⟩ : ByteArray)]) ?_ 0 _ rfl; (with_reducible repeat (first | refine blk_drewN ?_ _ | refine blk_drew ?_ | refine blk_alloc ?_ _)); exact Zc.out) Tryd.underlying23 rfl (by kernel_rfl)) rfl ?_
  exact ⟨by first | rfl | (simp [errW_none, errW_some] <;> rfl) | (simp [*, errW_none, errW_some] <;> rfl), zg_2 HB.out Ze.out⟩
 ·rw [if_neg c2] at H
  have c2b0 : ((l0.length : Int) == 0) = false := beq_eq_false_iff_ne.mpr c2
  have c2b1 : ((l0.length : Int) != 0) = true := bne_iff_ne.mpr c2
  have c2b2 : ¬ (l0 = []) := fun h_ => c2 (by rw [h_]; rfl)
  replace H := Option.bind_eq_some_iff.mp H
  obtain ⟨t197, A50, H⟩ := H
  replace H : (impl_reqOf.l0 k l0 t197 (t197.length : Int) 0) = some (r1, r2, r3, r4, r5) := H
  have A5 := zm A50
  clear A50
  have H' := zm H
  clear H
  go_enter Tryd.func32, Tryd.ntmps32
  go_wp2_with (first | ((with_reducible refine gate_dst (N := 2) rfl ?_); (try (refine gate_guard (by rfl) ?_; dsimp only)); refine box_event ?hg (N := 2) ?hd (cs := #[.int .i64 0, .int .i64 0, .int .i64 0, .string (⟨#[]⟩ : ByteArray)]) (t := 23) ?hr ?_; (case hd => rfl); (case hg => rfl); (case hr => first | (go_simp; done) | (go_simp; rfl)); intro gb196 hg w6 hbox hb; have n0_ := zm (below_step (zg_0 HB.out) hb); have n1_ := zm (hbox); have n2_ := zm ((by rw [hg]; exact (below_size (zg_0 HB.out)) : w.heap.size ≤ gb196)); have n3_ := zm ((by rw [hg]; exact (below_size (zg_0 HB.out)) : w.heap.size ≤ gb196)); clear HB; have HB := n0_; have Zc := n1_; have Zn := n2_; have Ze := n3_; clear n0_ n1_ n2_ n3_; clear hb hbox hg) | ((with_reducible refine gate_callee (f := 68) rfl ?_); refine goesL_ (some 14) rfl rfl Tryd.func68 (by kernel_rfl) rfl #[] rfl zq ?_; (with_reducible refine (impl_reqWords.calls  t197 _ A5.out).mono ?_); rintro e w7 ⟨v198, rfl, ho0, hb⟩; refine ⟨_, rfl, ?_⟩; have n0_ := zm (Kd.R_lower ho0 (below_size (zg_2 HB.out Ze.out))); have n1_ := zm (blk_below (g := gb196) (o := .cells #[.int .i64 0, .int .i64 0, .int .i64 0, .string (⟨#[]⟩ : ByteArray)] 23 (0, 0)) (zg_1 Zc.out) hb); have n2_ := zm (below_step (zg_2 HB.out Ze.out) hb); clear Zc; clear HB; have Zj := n0_; have Zc := n1_; have HB := n2_; clear n0_ n1_ n2_; (try clear hb); (try clear hb2); (try clear hk); (try clear hi); (try clear ho0); obtain ⟨Ao8, co8, eo8⟩ := Kd.R_slice Zj.out; subst eo8))
  go_loopg [16] k (fun kq v16 w' => ∃ (x16_1 : Int) (x197000_1 : Int) (x197001_1 : Int) (x197002_1 : Int) (x197003_1 : ByteArray), v16 = .int .i64 x16_1 ∧ Aside0 (impl_reqOf.l0 kq l0 t197 (t197.length : Int) x16_1 = some (r1, r2, r3, r4, r5)) ∧ Aside0 (kq ≤ k) ∧ Aside0 (Kd.R Kd.string 9 w' w.heap.size (fun _ => True) (.slice Ao8 t197.length co8) t197) ∧ Aside0 (w'.heap[gb196]? = some (.cells #[.int .i64 x197000_1, .int .i64 x197001_1, .int .i64 x197002_1, .string x197003_1] 23 (0, 0))) ∧ Aside0 (Below w.heap.size w w'))
  case atStart => exact ⟨(0), (0), (0), (0), ((⟨#[]⟩ : ByteArray)), zr, H', ⟨Nat.le_refl _⟩, ⟨by (with_reducible repeat (first | apply Kd.R_alloc | apply Kd.R_drewN | apply Kd.R_drew)); exact Zj.out⟩, ⟨by (with_reducible repeat (first | refine blk_drewN ?_ _ | refine blk_drew ?_ | refine blk_alloc ?_ _)); exact Zc.out⟩, ⟨zg_2 HB.out Ze.out⟩⟩
  case round =>
   clear H'
   try clear c2
   try clear c2b0
   try clear c2b1
   try clear c2b2
   try clear p2
   try clear c3
   try clear c6
   try clear hcz4_0
   try clear hcz4_1
   try clear hcz4_2
   try clear hcz4_3
   try clear hfz4_0
   try clear hfz4_1
   try clear hfz4_2
   try clear hfz4_3
   obtain ⟨x16_1, x197000_1, x197001_1, x197002_1, x197003_1, rfl, HA, HK1, Zh, Zc, HB⟩ := hrel
   cases gk with
   | zero => exact absurd HA.out (by simp [impl_reqOf.l0])
   | succ k1 =>
    have H := HA.out
    clear HA
    simp only [impl_reqOf.l0] at H
    by_cases c9 : x16_1 < (t197.length : Int)
    ·rw [if_pos c9] at H
     have c9b0 : decide (x16_1 < (t197.length : Int)) = true := decide_eq_true c9
     clear c9
     by_cases c10 : 0 ≤ x16_1
     ·rw [if_pos c10] at H
      have c10b0 : decide (0 ≤ x16_1) = true := decide_eq_true c10
      clear c10
      by_cases c11 : x16_1 < (t197.length : Int)
      ·rw [if_pos c11] at H
       have c11b0 : decide (x16_1 < (t197.length : Int)) = true := decide_eq_true c11
       clear c11
       have Zk := zm H
       clear H
       have p200 : 0 ≤ (x16_1 : Int) := zd
       have q200 : x16_1 < (t197.length : Int) := zd
       obtain ⟨ad200, e200, hx200_0⟩ := Kd.at_string (Kd.R_reads' Zh.out).2.2 x16_1 p200 q200
       cases e200
       replace p200 := eq_true p200
       replace q200 := eq_true q200
       go_upto_region 6 with (fail)
       go_cut [29] (fun v29 wc => ∃ (kq : Nat) (x29_11 : Bool), v29 = .bool x29_11 ∧ Aside0 (impl_reqOf.j1 kq l0 x16_1 t197 (t197.length : Int) x16_1 x29_11 = some (r1, r2, r3, r4, r5)) ∧ Aside0 (kq ≤ k1) ∧ Aside0 (Kd.R Kd.string 9 wc w.heap.size (fun _ => True) (.slice (some ad200) t197.length co8) t197) ∧ Aside0 (wc.heap[gb196]? = some (.cells #[.int .i64 x197000_1, .int .i64 x197001_1, .int .i64 x197002_1, .string x197003_1] 23 (0, 0))) ∧ Aside0 (Below w.heap.size w wc))
       case first =>
        have H := Zk.out
        clear Zk
        by_cases c13 : x16_1 = 0
        ·rw [if_pos c13] at H
         have c13b0 : (x16_1 == 0) = true := beq_iff_eq.mpr c13
         have c13b1 : (x16_1 != 0) = false := bne_eq_false_iff_eq.mpr c13
         clear c13
         (first | rw [c13b0] | (simp only [i64_w, i32_w]; rw [c13b0]) | skip)
         have H' := zm H
         clear H
         go_wp2
         go_meet
         case rel => exact ⟨_, (true), zr, H', ⟨by have := HK1.out; first | omega | exact Nat.le_refl _⟩, ⟨by (with_reducible repeat (first | apply Kd.R_alloc | apply Kd.R_drewN | apply Kd.R_drew)); exact Zh.out⟩, ⟨by (with_reducible repeat (first | refine blk_drewN ?_ _ | refine blk_drew ?_ | refine blk_alloc ?_ _)); exact Zc.out⟩, ⟨zg_2 HB.out Ze.out⟩⟩
        ·rw [if_neg c13] at H
         have c13b0 : (x16_1 == 0) = false := beq_eq_false_iff_ne.mpr c13
         have c13b1 : (x16_1 != 0) = true := bne_iff_ne.mpr c13
         (first | rw [c13b0] | (simp only [i64_w, i32_w]; rw [c13b0]) | skip)
         by_cases c14 : 0 < (l0.length : Int)
         ·rw [if_pos c14] at H
          have c14b0 : decide (0 < (l0.length : Int)) = true := decide_eq_true c14
          have c14b1 : decide (0 < l0.length) = true := decide_eq_true (by omega)
          clear c14
          have H' := zm H
          clear H
          have p201 : 0 ≤ (0 : Int) := (by omega)
          have q201 : 0 < (l0.length : Int) := zd
          obtain ⟨ad201, e201, hx201_0⟩ := Kd.at_string HR0.out 0 p201 q201
          cases e201
          have qi201 : (0 < l0.length) = True := eq_true (by omega)
          (try rw [show ((0 : Int)).toNat = 0 from rfl] at hx201_0)
          (try rw [Addr.add_zero'] at hx201_0)
          replace hx201_0 := (HB.out.cell (World.block_lt_of_cell? w _ hx201_0)).trans hx201_0
          replace p201 := eq_true p201
          replace q201 := eq_true q201
          go_wp2
          go_meet
          case rel => exact ⟨_, (((rdOf ByteArray.empty t197 x16_1).toList != (rdOf ByteArray.empty l0 0).toList)), zr, H', ⟨by have := HK1.out; first | omega | exact Nat.le_refl _⟩, ⟨by (with_reducible repeat (first | apply Kd.R_alloc | apply Kd.R_drewN | apply Kd.R_drew)); exact Zh.out⟩, ⟨by (with_reducible repeat (first | refine blk_drewN ?_ _ | refine blk_drew ?_ | refine blk_alloc ?_ _)); exact Zc.out⟩, ⟨zg_2 HB.out Ze.out⟩⟩
         ·rw [if_neg c14] at H
          exact absurd H (by simp)
       case rest =>
        clear Zk
        try clear c1
        try clear c2
        try clear c2b0
        try clear c2b1
        try clear c2b2
        try clear p2
        try clear q2
        try clear hx2
        try clear qi2
        try clear c3
        try clear c6
        try clear c9
        try clear c9b0
        try clear c10
        try clear c10b0
        try clear c11
        try clear c11b0
        try clear c13
        try clear c13b0
        try clear c13b1
        try clear c14
        try clear c14b0
        try clear c14b1
        try clear hcz4_0
        try clear hcz4_1
        try clear hcz4_2
        try clear hcz4_3
        try clear hfz4_0
        try clear hfz4_1
        try clear hfz4_2
        try clear hfz4_3
        try clear hx200_0
        try clear hx201_0
        try clear p2
        try clear p200
        try clear p201
        try clear q200
        try clear q201
        obtain ⟨kq, x29_11, rfl, HA, HJ11, Zh, Zc, HB⟩ := hcut
        cases kq with
        | zero => exact absurd HA.out (by simp [impl_reqOf.j1])
        | succ kj11 =>
         have H := HA.out
         clear HA
         simp only [impl_reqOf.j1] at H
         by_cases c15 : x29_11 = true
         ·subst c15
          have H1 : (impl_reqOf.l0 kj11 l0 t197 (t197.length : Int) (wrap64 (x16_1 + 1))) = some (r1, r2, r3, r4, r5) := by rw [if_pos rfl] at H; exact H
          clear H
          have H := H1
          clear H1
          have H' := zm H
          clear H
          go_wp2
          go_roundg kj11
          case measure => have := HK1.out; have := HJ11.out; omega
          case rel => exact ⟨(wrap64 (x16_1 + 1)), (x197000_1), (x197001_1), (x197002_1), (x197003_1), zr, H', ⟨by have := HK1.out; have := HJ11.out; omega⟩, ⟨by (with_reducible repeat (first | apply Kd.R_alloc | apply Kd.R_drewN | apply Kd.R_drew)); exact Zh.out⟩, ⟨by (with_reducible repeat (first | refine blk_drewN ?_ _ | refine blk_drew ?_ | refine blk_alloc ?_ _)); exact Zc.out⟩, ⟨zg_2 HB.out Ze.out⟩⟩
         ·replace c15 := Bool.eq_false_iff.mpr c15
          subst c15
          have H1 : (if 1 ≤ (l0.length : Int) then (if x16_1 ≤ 4 then (impl_reqOf.j2 kj11 l0 x16_1 l0.tail true true (decide ((l0.tail.length : Int) > 0)) x16_1 0 0 (⟨#[]⟩ : ByteArray)) else (impl_reqOf.j2 kj11 l0 x16_1 l0.tail true true false x16_1 0 0 (⟨#[]⟩ : ByteArray))) else (none)) = some (r1, r2, r3, r4, r5) := by rw [if_neg (show ¬ (false = true) by decide)] at H; exact H
          clear H
          have H := H1
          clear H1
          by_cases c16 : 1 ≤ (l0.length : Int)
          ·rw [if_pos c16] at H
           have c16b0 := eq_true c16
           have c16b1 : decide (1 ≤ (l0.length : Int)) = true := decide_eq_true c16
           clear c16
           have Zl := zm H
           clear H
           try go_wp2
           have n0_ := zm (Kd.R_drew Zh.out)
           have n1_ := zm (blk_drew Zc.out)
           have n2_ := zm (below_drew1 HB.out)
           clear Zh
           clear Zc
           clear HB
           have Zh := n0_
           have Zc := n1_
           have HB := n2_
           clear n0_ n1_ n2_
           obtain ⟨i019, hi019, _, hsz19, _⟩ := info_parts info9
           obtain ⟨A19, hcut19, hA19, hC19⟩ := print_drop_of (P := Tryd.prog) Value.string (⟨#[]⟩ : ByteArray) 37 9 .i64 Tryd.underlying37 hi019 hsz19 A0 c0 l0 1 (by omega) (zd) HC0.out
           have Zi := zm (Kd.C_of_reads (h1 := fun _ => rfl) (hA19 _ (Kd.reads_of_C HR0.out)))
           (try simp only [Int.reduceToNat] at Zi)
           (try rw [List.drop_one] at Zi)
           have Zp := zm hC19
           clear hA19 hC19 hi019 hsz19
           refine start_ (n := 7) (S := fun w' => True) (ds := []) #[false, false, false, false, false, false, false] (by kernel_rfl) rfl rfl trivial (fun hHeld => ?_)
           generalize wc.drew = w18 at Zh Zc HB Zi hHeld ⊢
           refine pure_ (i := 0) (N := some 30) (v := ?_) (a' := ?_) #[true, false, false, false, false, false, false] rfl rfl (by kernel_rfl) (fun _ _ _ h => h) (Or.inl ⟨by rfl, ?_⟩) ?_ ?_
           rotate_left
           ·intro w'
            go_simp
            with_reducible rfl
           rotate_left
           ·simp only [Act.put, zs, zz, zt, i64_w, i32_w]
            rfl
           refine pure_ (i := 1) (N := some 31) (v := ?_) (a' := ?_) #[true, true, false, false, false, false, false] rfl rfl (by kernel_rfl) (fun _ _ _ h => h) (Or.inl ⟨by rfl, ?_⟩) ?_ ?_
           rotate_left
           ·intro w'
            go_simp
            with_reducible rfl
           rotate_left
           ·simp only [Act.put, zs, zz, zt, i64_w, i32_w]
            rfl
           refine pure_ (i := 2) (N := some 32) (v := ?_) (a' := ?_) #[true, true, true, false, false, false, false] rfl rfl (by kernel_rfl) (fun _ _ _ h => h) (Or.inl ⟨by rfl, ?_⟩) ?_ ?_
           rotate_left
           ·intro w'
            go_simp
            with_reducible rfl
           rotate_left
           ·simp only [Act.put, zs, zz, zt, i64_w, i32_w]
            rfl
           refine pure_ (i := 3) (N := some 33) (v := ?_) (a' := ?_) #[true, true, true, true, false, false, false] rfl rfl (by kernel_rfl) (fun _ _ _ h => h) (Or.inl ⟨by rfl, ?_⟩) ?_ ?_
           rotate_left
           ·intro w'
            go_simp
            with_reducible rfl
           rotate_left
           ·simp only [Act.put, zs, zz, zt, i64_w, i32_w]
            rfl
           refine one_ (i := 4) (N := some 6) #[true, true, true, true, true, false, false] rfl rfl (by kernel_rfl) (by decide) (fun K hK => ?_)
           refine box_step ?hg (N := 6) ?hd (cs := #[.int .i64 0, .int .i64 0, .int .i64 0, .string (⟨#[]⟩ : ByteArray)]) (t := 23) ?hr ?_; (case hd => rfl); (case hg => rfl); (case hr => first | (go_simp; done) | (go_simp; rfl))
           intro gb203 hg w20 hbox hb
           have n0_ := zm (Kd.R_below (zg_4 Zh.out) hb)
           have n1_ := zm (blk_below (g := gb196) (o := .cells #[.int .i64 x197000_1, .int .i64 x197001_1, .int .i64 x197002_1, .string x197003_1] 23 (0, 0)) (zg_1 Zc.out) hb)
           have n2_ := zm (below_step (zg_2 HB.out Ze.out) hb)
           have n3_ := zm (hbox)
           have n4_ := zm ((by rw [hg]; exact (below_size (zg_2 HB.out Ze.out)) : w.heap.size ≤ gb203))
           have n5_ := zm ((by rw [hg]; exact (below_size (zg_2 HB.out Ze.out)) : w.heap.size ≤ gb203))
           have n6_ := zm ((by rw [hg]; exact Nat.ne_of_lt (blk_lt (g := gb196) (o := .cells #[.int .i64 x197000_1, .int .i64 x197001_1, .int .i64 x197002_1, .string x197003_1] 23 (0, 0)) (zg_1 Zc.out)) : gb196 ≠ gb203))
           have n7_ := zm ((by rw [hg]; exact Nat.ne_of_gt (blk_lt (g := gb196) (o := .cells #[.int .i64 x197000_1, .int .i64 x197001_1, .int .i64 x197002_1, .string x197003_1] 23 (0, 0)) (zg_1 Zc.out)) : gb203 ≠ gb196))
           clear Zh
           clear Zc
           clear HB
           have Zh := n0_
           have Zc := n1_
           have HB := n2_
           have Zb := n3_
           have Zo := n4_
           have Zf := n5_
           have Zd := n6_
           have Za := n7_
           clear n0_ n1_ n2_ n3_ n4_ n5_ n6_ n7_
           clear hb hbox hg
           refine hK.out _ _ trivial (fun hHeld => ?_)
           clear hK K
           refine norm_ (a' := ?_) ?_ ?_
           rotate_left
           ·show Act.put _ (some 6) _ = _
            simp only [Act.put, zs, zz, zt, i64_w, i32_w]
            rfl
           refine one_ (i := 5) (N := none) #[true, true, true, true, true, true, false] rfl rfl (by kernel_rfl) (by decide) (fun K hK => ?_)
           have hs21 : w20.cell? ⟨gb203, 0, none⟩ = some (.int .i64 0) := (blk_cell Zb.out 0).trans rfl
           have hfs21 := blk_frozen Zb.out 0
           have hns21_0 := Zd.out
           have hms21_0 := Za.out
           have hs22 : w20.cell? ⟨gb203, 1, none⟩ = some (.int .i64 0) := (blk_cell Zb.out 1).trans rfl
           have hfs22 := blk_frozen Zb.out 1
           have hns22_0 := Zd.out
           have hms22_0 := Za.out
           have hs23 : w20.cell? ⟨gb203, 2, none⟩ = some (.int .i64 0) := (blk_cell Zb.out 2).trans rfl
           have hfs23 := blk_frozen Zb.out 2
           have hns23_0 := Zd.out
           have hms23_0 := Za.out
           have hs24 : w20.cell? ⟨gb203, 3, none⟩ = some (.string (⟨#[]⟩ : ByteArray)) := (blk_cell Zb.out 3).trans rfl
           have hfs24 := blk_frozen Zb.out 3
           have hns24_0 := Zd.out
           have hms24_0 := Za.out
           refine skip_ (w1 := ?_) (by rfl) rfl ?_ ?_
           rotate_left
           ·go_simp
            rfl
           refine hK.out _ _ trivial (fun hHeld => ?_)
           clear hK K
           refine pure_ (i := 6) (N := some 7) (v := ?_) (a' := ?_) #[true, true, true, true, true, true, true] rfl rfl (by kernel_rfl) (fun _ _ _ h => h) (Or.inl ⟨by rfl, ?_⟩) ?_ ?_
           rotate_left
           ·intro w'
            go_simp
            with_reducible rfl
           rotate_left
           ·simp only [Act.put, zs, zz, zt, i64_w, i32_w]
            rfl
           refine done_ (by kernel_rfl) ?_
           go_upto_block 2 with (fail)
           go_cut [8, 9] (fun v8 v9 wc => ∃ (kq : Nat) (x8_16 : Bool) (x9_16 : Bool) (x204001_16 : Int) (x204002_16 : Int) (x204003_16 : ByteArray), v8 = .bool x8_16 ∧ v9 = .bool x9_16 ∧ Aside0 (impl_reqOf.j3 kq l0 x8_16 x9_16 x16_1 x204001_16 x204002_16 x204003_16 = some (r1, r2, r3, r4, r5)) ∧ Aside0 (kq ≤ kj11) ∧ Aside0 (wc.heap[gb196]? = some (.cells #[.int .i64 x197000_1, .int .i64 x197001_1, .int .i64 x197002_1, .string x197003_1] 23 (0, 0))) ∧ Aside0 (wc.heap[gb203]? = some (.cells #[.int .i64 x16_1, .int .i64 x204001_16, .int .i64 x204002_16, .string x204003_16] 23 (0, 0))) ∧ Aside0 (Below w.heap.size w wc))
           case first =>
            have H := Zl.out
            clear Zl
            have Zm := zm H
            clear H
            go_upto_region 9 with (fail)
            go_cut [34] (fun v34 wc => ∃ (kq : Nat) (x34_24 : Bool), v34 = .bool x34_24 ∧ Aside0 (impl_reqOf.j2 kq l0 x16_1 l0.tail true true x34_24 x16_1 0 0 (⟨#[]⟩ : ByteArray) = some (r1, r2, r3, r4, r5)) ∧ Aside0 (kq ≤ kj11) ∧ Aside0 (wc.heap[gb196]? = some (.cells #[.int .i64 x197000_1, .int .i64 x197001_1, .int .i64 x197002_1, .string x197003_1] 23 (0, 0))) ∧ Aside0 (wc.heap[gb203]? = some (.cells #[.int .i64 x16_1, .int .i64 0, .int .i64 0, .string (⟨#[]⟩ : ByteArray)] 23 (0, 0))) ∧ Aside0 (Below w.heap.size w wc))
            case first =>
             have H := Zm.out
             clear Zm
             by_cases c26 : x16_1 ≤ 4
             ·rw [if_pos c26] at H
              have c26b0 : decide (x16_1 ≤ 4) = true := decide_eq_true c26
              clear c26
              (first | rw [c26b0] | (simp only [i64_w, i32_w]; rw [c26b0]) | skip)
              have H' := zm H
              clear H
              go_wp2
              go_meet
              case rel => exact ⟨_, (decide ((l0.tail.length : Int) > 0)), zr, H', ⟨by have := HK1.out; have := HJ11.out; first | omega | exact Nat.le_refl _⟩, ⟨by (with_reducible repeat (first | refine blk_drewN ?_ _ | refine blk_drew ?_ | refine blk_alloc ?_ _)); refine blk_far ?_ Zd.out _; (with_reducible repeat (first | refine blk_drewN ?_ _ | refine blk_drew ?_ | refine blk_alloc ?_ _)); refine blk_far ?_ Zd.out _; (with_reducible repeat (first | refine blk_drewN ?_ _ | refine blk_drew ?_ | refine blk_alloc ?_ _)); refine blk_far ?_ Zd.out _; (with_reducible repeat (first | refine blk_drewN ?_ _ | refine blk_drew ?_ | refine blk_alloc ?_ _)); refine blk_far ?_ Zd.out _; (with_reducible repeat (first | refine blk_drewN ?_ _ | refine blk_drew ?_ | refine blk_alloc ?_ _)); exact Zc.out⟩, ⟨by (with_reducible repeat (first | refine blk_drewN ?_ _ | refine blk_drew ?_ | refine blk_alloc ?_ _)); refine blk_put (cs := #[.int .i64 x16_1, .int .i64 0, .int .i64 0, .string (⟨#[]⟩ : ByteArray)]) ?_ 3 _ rfl; (with_reducible repeat (first | refine blk_drewN ?_ _ | refine blk_drew ?_ | refine blk_alloc ?_ _)); refine blk_put (cs := #[.int .i64 x16_1, .int .i64 0, .int .i64 0, .string (⟨#[]⟩ : ByteArray)]) ?_ 2 _ rfl; (with_reducible repeat (first | refine blk_drewN ?_ _ | refine blk_drew ?_ | refine blk_alloc ?_ _)); refine blk_put (cs := #[.int .i64 x16_1, .int .i64 0, .int .i64 0, .string (⟨#[]⟩ : ByteArray)]) ?_ 1 _ rfl; (with_reducible repeat (first | refine blk_drewN ?_ _ | refine blk_drew ?_ | refine blk_alloc ?_ _)); refine blk_put (cs := #[.int .i64 0, .int .i64 0, .int .i64 0, .string (⟨#[]⟩ : ByteArray)]) ?_ 0 _ rfl; (with_reducible repeat (first | refine blk_drewN ?_ _ | refine blk_drew ?_ | refine blk_alloc ?_ _)); exact Zb.out⟩, ⟨zg_3 HB.out Ze.out Zf.out⟩⟩
             ·rw [if_neg c26] at H
              have c26b0 : decide (x16_1 ≤ 4) = false := decide_eq_false c26
              clear c26
              (first | rw [c26b0] | (simp only [i64_w, i32_w]; rw [c26b0]) | skip)
              have H' := zm H
              clear H
              go_wp2
              go_meet
              case rel => exact ⟨_, (false), zr, H', ⟨by have := HK1.out; have := HJ11.out; first | omega | exact Nat.le_refl _⟩, ⟨by (with_reducible repeat (first | refine blk_drewN ?_ _ | refine blk_drew ?_ | refine blk_alloc ?_ _)); refine blk_far ?_ Zd.out _; (with_reducible repeat (first | refine blk_drewN ?_ _ | refine blk_drew ?_ | refine blk_alloc ?_ _)); refine blk_far ?_ Zd.out _; (with_reducible repeat (first | refine blk_drewN ?_ _ | refine blk_drew ?_ | refine blk_alloc ?_ _)); refine blk_far ?_ Zd.out _; (with_reducible repeat (first | refine blk_drewN ?_ _ | refine blk_drew ?_ | refine blk_alloc ?_ _)); refine blk_far ?_ Zd.out _; (with_reducible repeat (first | refine blk_drewN ?_ _ | refine blk_drew ?_ | refine blk_alloc ?_ _)); exact Zc.out⟩, ⟨by (with_reducible repeat (first | refine blk_drewN ?_ _ | refine blk_drew ?_ | refine blk_alloc ?_ _)); refine blk_put (cs := #[.int .i64 x16_1, .int .i64 0, .int .i64 0, .string (⟨#[]⟩ : ByteArray)]) ?_ 3 _ rfl; (with_reducible repeat (first | refine blk_drewN ?_ _ | refine blk_drew ?_ | refine blk_alloc ?_ _)); refine blk_put (cs := #[.int .i64 x16_1, .int .i64 0, .int .i64 0, .string (⟨#[]⟩ : ByteArray)]) ?_ 2 _ rfl; (with_reducible repeat (first | refine blk_drewN ?_ _ | refine blk_drew ?_ | refine blk_alloc ?_ _)); refine blk_put (cs := #[.int .i64 x16_1, .int .i64 0, .int .i64 0, .string (⟨#[]⟩ : ByteArray)]) ?_ 1 _ rfl; (with_reducible repeat (first | refine blk_drewN ?_ _ | refine blk_drew ?_ | refine blk_alloc ?_ _)); refine blk_put (cs := #[.int .i64 0, .int .i64 0, .int .i64 0, .string (⟨#[]⟩ : ByteArray)]) ?_ 0 _ rfl; (with_reducible repeat (first | refine blk_drewN ?_ _ | refine blk_drew ?_ | refine blk_alloc ?_ _)); exact Zb.out⟩, ⟨zg_3 HB.out Ze.out Zf.out⟩⟩
            case rest =>
             clear Zm
             try clear c1
             try clear c2
             try clear c2b0
             try clear c2b1
             try clear c2b2
             try clear p2
             try clear q2
             try clear hx2
             try clear qi2
             try clear c3
             try clear c6
             try clear p6
             try clear c9
             try clear c9b0
             try clear c10
             try clear c10b0
             try clear c11
             try clear c11b0
             try clear c13
             try clear c13b0
             try clear c13b1
             try clear c14
             try clear c14b0
             try clear c14b1
             try clear c15
             try clear c16
             try clear c16b0
             try clear c16b1
             try clear p20
             try clear q20
             try clear hx20
             try clear qi20
             try clear c26
             try clear c26b0
             try clear hcz4_0
             try clear hcz4_1
             try clear hcz4_2
             try clear hcz4_3
             try clear hfz4_0
             try clear hfz4_1
             try clear hfz4_2
             try clear hfz4_3
             try clear hx200_0
             try clear hx201_0
             try clear p2
             try clear p200
             try clear p201
             try clear q2
             try clear q200
             try clear q201
             obtain ⟨kq, x34_24, rfl, HA, HJ24, Zc, Zb, HB⟩ := hcut
             cases kq with
             | zero => exact absurd HA.out (by simp [impl_reqOf.j2])
             | succ kj24 =>
              have H := HA.out
              clear HA
              simp only [impl_reqOf.j2] at H
              by_cases c27 : x34_24 = true
              ·subst c27
               have H1 : (if 0 < (l0.tail.length : Int) then ((impl_readNumber.f (rdOf ByteArray.empty l0.tail 0)).bind fun bt205 => (if x16_1 = 2 then (if (l0.tail.length : Int) > 1 then (if 1 < (l0.tail.length : Int) then ((impl_readNumber.f (rdOf ByteArray.empty l0.tail 1)).bind fun bt208 => (impl_reqOf.j3 kj24 l0 bt205.2 bt208.2 x16_1 bt205.1 bt208.1 (⟨#[]⟩ : ByteArray))) else (none)) else (impl_reqOf.j3 kj24 l0 bt205.2 true x16_1 bt205.1 0 (⟨#[]⟩ : ByteArray))) else (impl_reqOf.j3 kj24 l0 bt205.2 true x16_1 bt205.1 0 (⟨#[]⟩ : ByteArray)))) else (none)) = some (r1, r2, r3, r4, r5) := by rw [if_pos rfl] at H; exact H
               clear H
               have H := H1
               clear H1
               by_cases c28 : 0 < (l0.tail.length : Int)
               ·rw [if_pos c28] at H
                have c28b0 : decide (0 < (l0.tail.length : Int)) = true := decide_eq_true c28
                have c28b0t : decide (0 < ((l0.length - 1 : Nat) : Int)) = true := by rw [← List.length_tail]; exact c28b0
                have c28b0p : ((0 : Int) < ((l0.length - 1 : Nat) : Int)) = True := eq_true (of_decide_eq_true c28b0t)
                have c28b1 : decide (0 < l0.tail.length) = true := decide_eq_true (by omega)
                have c28b1t : decide (0 < l0.length - 1) = true := by rw [← List.length_tail]; exact c28b1
                have c28b1p : (0 < l0.length - 1) = True := eq_true (of_decide_eq_true c28b1t)
                clear c28
                replace H := Option.bind_eq_some_iff.mp H
                obtain ⟨⟨t205, t206⟩, A290, H⟩ := H
                replace H : (if x16_1 = 2 then (if (l0.tail.length : Int) > 1 then (if 1 < (l0.tail.length : Int) then ((impl_readNumber.f (rdOf ByteArray.empty l0.tail 1)).bind fun bt208 => (impl_reqOf.j3 kj24 l0 t206 bt208.2 x16_1 t205 bt208.1 (⟨#[]⟩ : ByteArray))) else (none)) else (impl_reqOf.j3 kj24 l0 t206 true x16_1 t205 0 (⟨#[]⟩ : ByteArray))) else (impl_reqOf.j3 kj24 l0 t206 true x16_1 t205 0 (⟨#[]⟩ : ByteArray))) = some (r1, r2, r3, r4, r5) := H
                have A29 := zm A290
                clear A290
                by_cases c30 : x16_1 = 2
                ·rw [if_pos c30] at H
                 have c30b0 : (x16_1 == 2) = true := beq_iff_eq.mpr c30
                 have c30b1 : (x16_1 != 2) = false := bne_eq_false_iff_eq.mpr c30
                 clear c30
                 by_cases c31 : (l0.tail.length : Int) > 1
                 ·rw [if_pos c31] at H
                  have c31b0 : decide (1 < (l0.tail.length : Int)) = true := decide_eq_true c31
                  have c31b0t : decide (1 < ((l0.length - 1 : Nat) : Int)) = true := by rw [← List.length_tail]; exact c31b0
                  have c31b0p : ((1 : Int) < ((l0.length - 1 : Nat) : Int)) = True := eq_true (of_decide_eq_true c31b0t)
                  have c31b1 : decide (1 < l0.tail.length) = true := decide_eq_true (by omega)
                  have c31b1t : decide (1 < l0.length - 1) = true := by rw [← List.length_tail]; exact c31b1
                  have c31b1p : (1 < l0.length - 1) = True := eq_true (of_decide_eq_true c31b1t)
                  clear c31
                  by_cases c32 : 1 < (l0.tail.length : Int)
                  ·rw [if_pos c32] at H
                   have c32b0 : decide (1 < (l0.tail.length : Int)) = true := decide_eq_true c32
                   have c32b0t : decide (1 < ((l0.length - 1 : Nat) : Int)) = true := by rw [← List.length_tail]; exact c32b0
                   have c32b0p : ((1 : Int) < ((l0.length - 1 : Nat) : Int)) = True := eq_true (of_decide_eq_true c32b0t)
                   have c32b1 : decide (1 < l0.tail.length) = true := decide_eq_true (by omega)
                   have c32b1t : decide (1 < l0.length - 1) = true := by rw [← List.length_tail]; exact c32b1
                   have c32b1p : (1 < l0.length - 1) = True := eq_true (of_decide_eq_true c32b1t)
                   clear c32
                   replace H := Option.bind_eq_some_iff.mp H
                   obtain ⟨⟨t208, t209⟩, A330, H⟩ := H
                   replace H : (impl_reqOf.j3 kj24 l0 t206 t209 x16_1 t205 t208 (⟨#[]⟩ : ByteArray)) = some (r1, r2, r3, r4, r5) := H
                   have A33 := zm A330
                   clear A330
                   have H' := zm H
                   clear H
                   have p204 : 0 ≤ (0 : Int) := (by omega)
                   have q204 : 0 < (l0.tail.length : Int) := zd
                   obtain ⟨ad204, e204, hx204_0⟩ := Kd.at_string Zi.out 0 p204 q204
                   cases e204
                   have qi204 : (0 < l0.tail.length) = True := eq_true (by omega)
                   have qi204t : (0 < l0.length - 1) = True := by rw [← List.length_tail]; exact qi204
                   (try rw [show ((0 : Int)).toNat = 0 from rfl] at hx204_0)
                   (try rw [Addr.add_zero'] at hx204_0)
                   replace hx204_0 := (HB.out.cell (World.block_lt_of_cell? w _ hx204_0)).trans hx204_0
                   replace p204 := eq_true p204
                   replace q204 := eq_true q204
                   go_wp2_with (first | ((with_reducible refine gate_callee (f := 69) rfl ?_); refine goesL_ (some 46) rfl rfl Tryd.func69 (by kernel_rfl) rfl #[.string (rdOf ByteArray.empty l0.tail 0)] rfl zq ?_; (with_reducible refine (impl_readNumber.calls (rdOf ByteArray.empty l0.tail 0) t205 t206 _ A29.out).mono ?_); rintro e w34 ⟨rfl, hb⟩; refine ⟨_, rfl, ?_⟩; have n0_ := zm (blk_below (g := gb196) (o := .cells #[.int .i64 x197000_1, .int .i64 x197001_1, .int .i64 x197002_1, .string x197003_1] 23 (0, 0)) (zg_1 Zc.out) hb); have n1_ := zm (blk_below (g := gb203) (o := .cells #[.int .i64 x16_1, .int .i64 0, .int .i64 0, .string (⟨#[]⟩ : ByteArray)] 23 (0, 0)) (zg_1 Zb.out) hb); have n2_ := zm (below_step (zg_3 HB.out Ze.out Zf.out) hb); clear Zc; clear Zb; clear HB; have Zc := n0_; have Zb := n1_; have HB := n2_; clear n0_ n1_ n2_; (try clear hb); (try clear hb2); (try clear hk); (try clear hi); have hnb35 := Za.out; have hnc35 := Zd.out; have hcz36_0 : w34.cell? ⟨gb203, 0, none⟩ = some (.int .i64 x16_1) := (blk_cell Zb.out 0).trans rfl; have hcz36_1 : w34.cell? ⟨gb203, 1, none⟩ = some (.int .i64 0) := (blk_cell Zb.out 1).trans rfl; have hcz36_2 : w34.cell? ⟨gb203, 2, none⟩ = some (.int .i64 0) := (blk_cell Zb.out 2).trans rfl; have hcz36_3 : w34.cell? ⟨gb203, 3, none⟩ = some (.string (⟨#[]⟩ : ByteArray)) := (blk_cell Zb.out 3).trans rfl; have hfz36_0 := blk_frozen Zb.out 0; have hfz36_1 := blk_frozen Zb.out 1; have hfz36_2 := blk_frozen Zb.out 2; have hfz36_3 := blk_frozen Zb.out 3; have p207 : 0 ≤ (1 : Int) := (by omega); have q207 : 1 < (l0.tail.length : Int) := zd; obtain ⟨ad207, e207, hx207_0⟩ := Kd.at_string Zi.out 1 p207 q207; obtain rfl : ad204 = ad207 := (by injection e207); (try simp only [show (1 : Int).toNat = 1 from rfl, Nat.reduceMul, Nat.reduceEqDiff, Go.Addr.add, ↓reduceIte] at hx207_0); have qi207 : (1 < l0.tail.length) = True := eq_true (by omega); (try rw [show ((1 : Int)).toNat = 1 from rfl] at hx207_0); have hn207_0 : ad204.block ≠ gb203 := Nat.ne_of_lt (Nat.lt_of_lt_of_le (by have := World.block_lt_of_cell? _ _ hx207_0; first | rwa [add_block] at this | exact this) Zo.out); replace hx207_0 := (HB.out.cell (World.block_lt_of_cell? w _ hx207_0)).trans hx207_0; replace hx207_0 := (cell_far (p := ⟨gb203, 1, none⟩) (by first | (rw [add_block]; exact hn207_0) | (show (Addr.add _ _).block ≠ _; rw [add_block]; exact hn207_0) | exact hn207_0) (.int .i64 t205)).trans hx207_0; clear hn207_0; replace p207 := eq_true p207; replace q207 := eq_true q207) | ((with_reducible refine gate_callee (f := 69) rfl ?_); refine goesL_ (some 61) rfl rfl Tryd.func69 (by kernel_rfl) rfl #[.string (rdOf ByteArray.empty l0.tail 1)] rfl zq ?_; (with_reducible refine (impl_readNumber.calls (rdOf ByteArray.empty l0.tail 1) t208 t209 _ A33.out).mono ?_); rintro e w37 ⟨rfl, hb⟩; refine ⟨_, rfl, ?_⟩; have n0_ := zm (blk_below (g := gb196) (o := .cells #[.int .i64 x197000_1, .int .i64 x197001_1, .int .i64 x197002_1, .string x197003_1] 23 (0, 0)) (by (with_reducible repeat (first | refine blk_drewN ?_ _ | refine blk_drew ?_ | refine blk_alloc ?_ _)); refine blk_far ?_ Zd.out _; (with_reducible repeat (first | refine blk_drewN ?_ _ | refine blk_drew ?_ | refine blk_alloc ?_ _)); exact Zc.out) hb); have n1_ := zm (blk_below (g := gb203) (o := .cells #[.int .i64 x16_1, .int .i64 t205, .int .i64 0, .string (⟨#[]⟩ : ByteArray)] 23 (0, 0)) (by (with_reducible repeat (first | refine blk_drewN ?_ _ | refine blk_drew ?_ | refine blk_alloc ?_ _)); refine blk_put (cs := #[.int .i64 x16_1, .int .i64 0, .int .i64 0, .string (⟨#[]⟩ : ByteArray)]) ?_ 1 _ rfl; (with_reducible repeat (first | refine blk_drewN ?_ _ | refine blk_drew ?_ | refine blk_alloc ?_ _)); exact Zb.out) hb); have n2_ := zm (below_step (zg_3 HB.out Ze.out Zf.out) hb); clear Zc; clear Zb; clear HB; have Zc := n0_; have Zb := n1_; have HB := n2_; clear n0_ n1_ n2_; (try clear hb); (try clear hb2); (try clear hk); (try clear hi); have hcz38_0 : w37.cell? ⟨gb203, 0, none⟩ = some (.int .i64 x16_1) := (blk_cell Zb.out 0).trans rfl; have hcz38_1 : w37.cell? ⟨gb203, 1, none⟩ = some (.int .i64 t205) := (blk_cell Zb.out 1).trans rfl; have hcz38_2 : w37.cell? ⟨gb203, 2, none⟩ = some (.int .i64 0) := (blk_cell Zb.out 2).trans rfl; have hcz38_3 : w37.cell? ⟨gb203, 3, none⟩ = some (.string (⟨#[]⟩ : ByteArray)) := (blk_cell Zb.out 3).trans rfl; have hfz38_0 := blk_frozen Zb.out 0; have hfz38_1 := blk_frozen Zb.out 1; have hfz38_2 := blk_frozen Zb.out 2; have hfz38_3 := blk_frozen Zb.out 3))
                   go_meet
                   case rel => exact ⟨_, (t206), (t209), (t205), (t208), ((⟨#[]⟩ : ByteArray)), zr, zr, H', ⟨by have := HK1.out; have := HJ11.out; have := HJ24.out; first | omega | exact Nat.le_refl _⟩, ⟨by (with_reducible repeat (first | refine blk_drewN ?_ _ | refine blk_drew ?_ | refine blk_alloc ?_ _)); refine blk_far ?_ Zd.out _; (with_reducible repeat (first | refine blk_drewN ?_ _ | refine blk_drew ?_ | refine blk_alloc ?_ _)); exact Zc.out⟩, ⟨by (with_reducible repeat (first | refine blk_drewN ?_ _ | refine blk_drew ?_ | refine blk_alloc ?_ _)); refine blk_put (cs := #[.int .i64 x16_1, .int .i64 t205, .int .i64 0, .string (⟨#[]⟩ : ByteArray)]) ?_ 2 _ rfl; (with_reducible repeat (first | refine blk_drewN ?_ _ | refine blk_drew ?_ | refine blk_alloc ?_ _)); exact Zb.out⟩, ⟨zg_3 HB.out Ze.out Zf.out⟩⟩
                  ·rw [if_neg c32] at H
                   exact absurd H (by simp)
                 ·rw [if_neg c31] at H
                  have c31b0 : decide (1 < (l0.tail.length : Int)) = false := decide_eq_false c31
                  have c31b0t : decide (1 < ((l0.length - 1 : Nat) : Int)) = false := by rw [← List.length_tail]; exact c31b0
                  have c31b1 : decide (1 < l0.tail.length) = false := decide_eq_false (by omega)
                  have c31b1t : decide (1 < l0.length - 1) = false := by rw [← List.length_tail]; exact c31b1
                  clear c31
                  have H' := zm H
                  clear H
                  have p204 : 0 ≤ (0 : Int) := (by omega)
                  have q204 : 0 < (l0.tail.length : Int) := zd
                  obtain ⟨ad204, e204, hx204_0⟩ := Kd.at_string Zi.out 0 p204 q204
                  cases e204
                  have qi204 : (0 < l0.tail.length) = True := eq_true (by omega)
                  have qi204t : (0 < l0.length - 1) = True := by rw [← List.length_tail]; exact qi204
                  (try rw [show ((0 : Int)).toNat = 0 from rfl] at hx204_0)
                  (try rw [Addr.add_zero'] at hx204_0)
                  replace hx204_0 := (HB.out.cell (World.block_lt_of_cell? w _ hx204_0)).trans hx204_0
                  replace p204 := eq_true p204
                  replace q204 := eq_true q204
                  go_wp2_with (first | ((with_reducible refine gate_callee (f := 69) rfl ?_); refine goesL_ (some 46) rfl rfl Tryd.func69 (by kernel_rfl) rfl #[.string (rdOf ByteArray.empty l0.tail 0)] rfl zq ?_; (with_reducible refine (impl_readNumber.calls (rdOf ByteArray.empty l0.tail 0) t205 t206 _ A29.out).mono ?_); rintro e w39 ⟨rfl, hb⟩; refine ⟨_, rfl, ?_⟩; have n0_ := zm (blk_below (g := gb196) (o := .cells #[.int .i64 x197000_1, .int .i64 x197001_1, .int .i64 x197002_1, .string x197003_1] 23 (0, 0)) (zg_1 Zc.out) hb); have n1_ := zm (blk_below (g := gb203) (o := .cells #[.int .i64 x16_1, .int .i64 0, .int .i64 0, .string (⟨#[]⟩ : ByteArray)] 23 (0, 0)) (zg_1 Zb.out) hb); have n2_ := zm (below_step (zg_3 HB.out Ze.out Zf.out) hb); clear Zc; clear Zb; clear HB; have Zc := n0_; have Zb := n1_; have HB := n2_; clear n0_ n1_ n2_; (try clear hb); (try clear hb2); (try clear hk); (try clear hi); have hnb40 := Za.out; have hnc40 := Zd.out; have hcz41_0 : w39.cell? ⟨gb203, 0, none⟩ = some (.int .i64 x16_1) := (blk_cell Zb.out 0).trans rfl; have hcz41_1 : w39.cell? ⟨gb203, 1, none⟩ = some (.int .i64 0) := (blk_cell Zb.out 1).trans rfl; have hcz41_2 : w39.cell? ⟨gb203, 2, none⟩ = some (.int .i64 0) := (blk_cell Zb.out 2).trans rfl; have hcz41_3 : w39.cell? ⟨gb203, 3, none⟩ = some (.string (⟨#[]⟩ : ByteArray)) := (blk_cell Zb.out 3).trans rfl; have hfz41_0 := blk_frozen Zb.out 0; have hfz41_1 := blk_frozen Zb.out 1; have hfz41_2 := blk_frozen Zb.out 2; have hfz41_3 := blk_frozen Zb.out 3))
                  go_meet
                  case rel => exact ⟨_, (t206), (true), (t205), (0), ((⟨#[]⟩ : ByteArray)), zr, zr, H', ⟨by have := HK1.out; have := HJ11.out; have := HJ24.out; first | omega | exact Nat.le_refl _⟩, ⟨by (with_reducible repeat (first | refine blk_drewN ?_ _ | refine blk_drew ?_ | refine blk_alloc ?_ _)); refine blk_far ?_ Zd.out _; (with_reducible repeat (first | refine blk_drewN ?_ _ | refine blk_drew ?_ | refine blk_alloc ?_ _)); exact Zc.out⟩, ⟨by (with_reducible repeat (first | refine blk_drewN ?_ _ | refine blk_drew ?_ | refine blk_alloc ?_ _)); refine blk_put (cs := #[.int .i64 x16_1, .int .i64 0, .int .i64 0, .string (⟨#[]⟩ : ByteArray)]) ?_ 1 _ rfl; (with_reducible repeat (first | refine blk_drewN ?_ _ | refine blk_drew ?_ | refine blk_alloc ?_ _)); exact Zb.out⟩, ⟨zg_3 HB.out Ze.out Zf.out⟩⟩
                ·rw [if_neg c30] at H
                 have c30b0 : (x16_1 == 2) = false := beq_eq_false_iff_ne.mpr c30
                 have c30b1 : (x16_1 != 2) = true := bne_iff_ne.mpr c30
                 have H' := zm H
                 clear H
                 have p204 : 0 ≤ (0 : Int) := (by omega)
                 have q204 : 0 < (l0.tail.length : Int) := zd
                 obtain ⟨ad204, e204, hx204_0⟩ := Kd.at_string Zi.out 0 p204 q204
                 cases e204
                 have qi204 : (0 < l0.tail.length) = True := eq_true (by omega)
                 have qi204t : (0 < l0.length - 1) = True := by rw [← List.length_tail]; exact qi204
                 (try rw [show ((0 : Int)).toNat = 0 from rfl] at hx204_0)
                 (try rw [Addr.add_zero'] at hx204_0)
                 replace hx204_0 := (HB.out.cell (World.block_lt_of_cell? w _ hx204_0)).trans hx204_0
                 replace p204 := eq_true p204
                 replace q204 := eq_true q204
                 go_wp2_with (first | ((with_reducible refine gate_callee (f := 69) rfl ?_); refine goesL_ (some 46) rfl rfl Tryd.func69 (by kernel_rfl) rfl #[.string (rdOf ByteArray.empty l0.tail 0)] rfl zq ?_; (with_reducible refine (impl_readNumber.calls (rdOf ByteArray.empty l0.tail 0) t205 t206 _ A29.out).mono ?_); rintro e w42 ⟨rfl, hb⟩; refine ⟨_, rfl, ?_⟩; have n0_ := zm (blk_below (g := gb196) (o := .cells #[.int .i64 x197000_1, .int .i64 x197001_1, .int .i64 x197002_1, .string x197003_1] 23 (0, 0)) (zg_1 Zc.out) hb); have n1_ := zm (blk_below (g := gb203) (o := .cells #[.int .i64 x16_1, .int .i64 0, .int .i64 0, .string (⟨#[]⟩ : ByteArray)] 23 (0, 0)) (zg_1 Zb.out) hb); have n2_ := zm (below_step (zg_3 HB.out Ze.out Zf.out) hb); clear Zc; clear Zb; clear HB; have Zc := n0_; have Zb := n1_; have HB := n2_; clear n0_ n1_ n2_; (try clear hb); (try clear hb2); (try clear hk); (try clear hi); have hnb43 := Za.out; have hnc43 := Zd.out; have hcz44_0 : w42.cell? ⟨gb203, 0, none⟩ = some (.int .i64 x16_1) := (blk_cell Zb.out 0).trans rfl; have hcz44_1 : w42.cell? ⟨gb203, 1, none⟩ = some (.int .i64 0) := (blk_cell Zb.out 1).trans rfl; have hcz44_2 : w42.cell? ⟨gb203, 2, none⟩ = some (.int .i64 0) := (blk_cell Zb.out 2).trans rfl; have hcz44_3 : w42.cell? ⟨gb203, 3, none⟩ = some (.string (⟨#[]⟩ : ByteArray)) := (blk_cell Zb.out 3).trans rfl; have hfz44_0 := blk_frozen Zb.out 0; have hfz44_1 := blk_frozen Zb.out 1; have hfz44_2 := blk_frozen Zb.out 2; have hfz44_3 := blk_frozen Zb.out 3))
                 go_meet
                 case rel => exact ⟨_, (t206), (true), (t205), (0), ((⟨#[]⟩ : ByteArray)), zr, zr, H', ⟨by have := HK1.out; have := HJ11.out; have := HJ24.out; first | omega | exact Nat.le_refl _⟩, ⟨by (with_reducible repeat (first | refine blk_drewN ?_ _ | refine blk_drew ?_ | refine blk_alloc ?_ _)); refine blk_far ?_ Zd.out _; (with_reducible repeat (first | refine blk_drewN ?_ _ | refine blk_drew ?_ | refine blk_alloc ?_ _)); exact Zc.out⟩, ⟨by (with_reducible repeat (first | refine blk_drewN ?_ _ | refine blk_drew ?_ | refine blk_alloc ?_ _)); refine blk_put (cs := #[.int .i64 x16_1, .int .i64 0, .int .i64 0, .string (⟨#[]⟩ : ByteArray)]) ?_ 1 _ rfl; (with_reducible repeat (first | refine blk_drewN ?_ _ | refine blk_drew ?_ | refine blk_alloc ?_ _)); exact Zb.out⟩, ⟨zg_3 HB.out Ze.out Zf.out⟩⟩
               ·rw [if_neg c28] at H
                exact absurd H (by simp)
              ·replace c27 := Bool.eq_false_iff.mpr c27
               subst c27
               have H1 : (if x16_1 = 8 then (impl_reqOf.j3 kj24 l0 true true x16_1 0 0 (⟨#[]⟩ : ByteArray)) else (if (l0.tail.length : Int) > 0 then (if 0 < (l0.tail.length : Int) then (impl_reqOf.j3 kj24 l0 true true x16_1 0 0 (rdOf ByteArray.empty l0.tail 0)) else (none)) else (impl_reqOf.j3 kj24 l0 true true x16_1 0 0 (⟨#[]⟩ : ByteArray)))) = some (r1, r2, r3, r4, r5) := by rw [if_neg (show ¬ (false = true) by decide)] at H; exact H
               clear H
               have H := H1
               clear H1
               by_cases c45 : x16_1 = 8
               ·rw [if_pos c45] at H
                have c45b0 : (x16_1 == 8) = true := beq_iff_eq.mpr c45
                have c45b1 : (x16_1 != 8) = false := bne_eq_false_iff_eq.mpr c45
                clear c45
                have H' := zm H
                clear H
                go_wp2
                go_meet
                case rel => exact ⟨_, (true), (true), (0), (0), ((⟨#[]⟩ : ByteArray)), zr, zr, H', ⟨by have := HK1.out; have := HJ11.out; have := HJ24.out; first | omega | exact Nat.le_refl _⟩, ⟨by (with_reducible repeat (first | refine blk_drewN ?_ _ | refine blk_drew ?_ | refine blk_alloc ?_ _)); exact Zc.out⟩, ⟨by (with_reducible repeat (first | refine blk_drewN ?_ _ | refine blk_drew ?_ | refine blk_alloc ?_ _)); exact Zb.out⟩, ⟨zg_3 HB.out Ze.out Zf.out⟩⟩
               ·rw [if_neg c45] at H
                have c45b0 : (x16_1 == 8) = false := beq_eq_false_iff_ne.mpr c45
                have c45b1 : (x16_1 != 8) = true := bne_iff_ne.mpr c45
                by_cases c46 : (l0.tail.length : Int) > 0
                ·rw [if_pos c46] at H
                 have c46b0 : decide (0 < (l0.tail.length : Int)) = true := decide_eq_true c46
                 have c46b0t : decide (0 < ((l0.length - 1 : Nat) : Int)) = true := by rw [← List.length_tail]; exact c46b0
                 have c46b0p : ((0 : Int) < ((l0.length - 1 : Nat) : Int)) = True := eq_true (of_decide_eq_true c46b0t)
                 have c46b1 : decide (0 < l0.tail.length) = true := decide_eq_true (by omega)
                 have c46b1t : decide (0 < l0.length - 1) = true := by rw [← List.length_tail]; exact c46b1
                 have c46b1p : (0 < l0.length - 1) = True := eq_true (of_decide_eq_true c46b1t)
                 clear c46
                 by_cases c47 : 0 < (l0.tail.length : Int)
                 ·rw [if_pos c47] at H
                  have c47b0 : decide (0 < (l0.tail.length : Int)) = true := decide_eq_true c47
                  have c47b0t : decide (0 < ((l0.length - 1 : Nat) : Int)) = true := by rw [← List.length_tail]; exact c47b0
                  have c47b0p : ((0 : Int) < ((l0.length - 1 : Nat) : Int)) = True := eq_true (of_decide_eq_true c47b0t)
                  have c47b1 : decide (0 < l0.tail.length) = true := decide_eq_true (by omega)
                  have c47b1t : decide (0 < l0.length - 1) = true := by rw [← List.length_tail]; exact c47b1
                  have c47b1p : (0 < l0.length - 1) = True := eq_true (of_decide_eq_true c47b1t)
                  clear c47
                  have H' := zm H
                  clear H
                  have p210 : 0 ≤ (0 : Int) := (by omega)
                  have q210 : 0 < (l0.tail.length : Int) := zd
                  obtain ⟨ad210, e210, hx210_0⟩ := Kd.at_string Zi.out 0 p210 q210
                  cases e210
                  have qi210 : (0 < l0.tail.length) = True := eq_true (by omega)
                  have qi210t : (0 < l0.length - 1) = True := by rw [← List.length_tail]; exact qi210
                  (try rw [show ((0 : Int)).toNat = 0 from rfl] at hx210_0)
                  (try rw [Addr.add_zero'] at hx210_0)
                  replace hx210_0 := (HB.out.cell (World.block_lt_of_cell? w _ hx210_0)).trans hx210_0
                  replace p210 := eq_true p210
                  replace q210 := eq_true q210
                  have hnb48 := Za.out
                  have hnc48 := Zd.out
                  have hcz49_0 : wc.cell? ⟨gb203, 0, none⟩ = some (.int .i64 x16_1) := (blk_cell Zb.out 0).trans rfl
                  have hcz49_1 : wc.cell? ⟨gb203, 1, none⟩ = some (.int .i64 0) := (blk_cell Zb.out 1).trans rfl
                  have hcz49_2 : wc.cell? ⟨gb203, 2, none⟩ = some (.int .i64 0) := (blk_cell Zb.out 2).trans rfl
                  have hcz49_3 : wc.cell? ⟨gb203, 3, none⟩ = some (.string (⟨#[]⟩ : ByteArray)) := (blk_cell Zb.out 3).trans rfl
                  have hfz49_0 := blk_frozen Zb.out 0
                  have hfz49_1 := blk_frozen Zb.out 1
                  have hfz49_2 := blk_frozen Zb.out 2
                  have hfz49_3 := blk_frozen Zb.out 3
                  go_wp2
                  go_meet
                  case rel => exact ⟨_, (true), (true), (0), (0), (rdOf ByteArray.empty l0.tail 0), zr, zr, H', ⟨by have := HK1.out; have := HJ11.out; have := HJ24.out; first | omega | exact Nat.le_refl _⟩, ⟨by (with_reducible repeat (first | refine blk_drewN ?_ _ | refine blk_drew ?_ | refine blk_alloc ?_ _)); refine blk_far ?_ Zd.out _; (with_reducible repeat (first | refine blk_drewN ?_ _ | refine blk_drew ?_ | refine blk_alloc ?_ _)); exact Zc.out⟩, ⟨by (with_reducible repeat (first | refine blk_drewN ?_ _ | refine blk_drew ?_ | refine blk_alloc ?_ _)); refine blk_put (cs := #[.int .i64 x16_1, .int .i64 0, .int .i64 0, .string (⟨#[]⟩ : ByteArray)]) ?_ 3 _ rfl; (with_reducible repeat (first | refine blk_drewN ?_ _ | refine blk_drew ?_ | refine blk_alloc ?_ _)); exact Zb.out⟩, ⟨zg_3 HB.out Ze.out Zf.out⟩⟩
                 ·rw [if_neg c47] at H
                  exact absurd H (by simp)
                ·rw [if_neg c46] at H
                 have c46b0 : decide (0 < (l0.tail.length : Int)) = false := decide_eq_false c46
                 have c46b0t : decide (0 < ((l0.length - 1 : Nat) : Int)) = false := by rw [← List.length_tail]; exact c46b0
                 have c46b1 : decide (0 < l0.tail.length) = false := decide_eq_false (by omega)
                 have c46b1t : decide (0 < l0.length - 1) = false := by rw [← List.length_tail]; exact c46b1
                 clear c46
                 have H' := zm H
                 clear H
                 go_wp2
                 go_meet
                 case rel => exact ⟨_, (true), (true), (0), (0), ((⟨#[]⟩ : ByteArray)), zr, zr, H', ⟨by have := HK1.out; have := HJ11.out; have := HJ24.out; first | omega | exact Nat.le_refl _⟩, ⟨by (with_reducible repeat (first | refine blk_drewN ?_ _ | refine blk_drew ?_ | refine blk_alloc ?_ _)); exact Zc.out⟩, ⟨by (with_reducible repeat (first | refine blk_drewN ?_ _ | refine blk_drew ?_ | refine blk_alloc ?_ _)); exact Zb.out⟩, ⟨zg_3 HB.out Ze.out Zf.out⟩⟩
           case rest =>
            clear Zl
            try clear c1
            try clear c2
            try clear c2b0
            try clear c2b1
            try clear c2b2
            try clear p2
            try clear q2
            try clear hx2
            try clear qi2
            try clear c3
            try clear c4
            try clear c6
            try clear p6
            try clear c9
            try clear c9b0
            try clear c10
            try clear c10b0
            try clear c11
            try clear c11b0
            try clear c13
            try clear c13b0
            try clear c13b1
            try clear c14
            try clear c14b0
            try clear c14b1
            try clear c15
            try clear c16
            try clear c16b0
            try clear c16b1
            try clear p20
            try clear q20
            try clear hx20
            try clear qi20
            try clear p21
            try clear q21
            try clear hx21
            try clear qi21
            try clear c26
            try clear c26b0
            try clear c27
            try clear c28
            try clear c28b0
            try clear c28b1
            try clear c30
            try clear c30b0
            try clear c30b1
            try clear c31
            try clear c31b0
            try clear c31b1
            try clear c32
            try clear c32b0
            try clear c32b1
            try clear c35
            try clear c40
            try clear c43
            try clear c45
            try clear c45b0
            try clear c45b1
            try clear c46
            try clear c46b0
            try clear c46b1
            try clear c47
            try clear c47b0
            try clear c47b1
            try clear c48
            try clear hcz36_0
            try clear hcz36_1
            try clear hcz36_2
            try clear hcz36_3
            try clear hcz38_0
            try clear hcz38_1
            try clear hcz38_2
            try clear hcz38_3
            try clear hcz41_0
            try clear hcz41_1
            try clear hcz41_2
            try clear hcz41_3
            try clear hcz44_0
            try clear hcz44_1
            try clear hcz44_2
            try clear hcz44_3
            try clear hcz49_0
            try clear hcz49_1
            try clear hcz49_2
            try clear hcz49_3
            try clear hcz4_0
            try clear hcz4_1
            try clear hcz4_2
            try clear hcz4_3
            try clear hfz36_0
            try clear hfz36_1
            try clear hfz36_2
            try clear hfz36_3
            try clear hfz38_0
            try clear hfz38_1
            try clear hfz38_2
            try clear hfz38_3
            try clear hfz41_0
            try clear hfz41_1
            try clear hfz41_2
            try clear hfz41_3
            try clear hfz44_0
            try clear hfz44_1
            try clear hfz44_2
            try clear hfz44_3
            try clear hfz49_0
            try clear hfz49_1
            try clear hfz49_2
            try clear hfz49_3
            try clear hfz4_0
            try clear hfz4_1
            try clear hfz4_2
            try clear hfz4_3
            try clear hx200_0
            try clear hx201_0
            try clear hx204_0
            try clear hx207_0
            try clear hx210_0
            try clear p2
            try clear p20
            try clear p200
            try clear p201
            try clear p204
            try clear p207
            try clear p210
            try clear p6
            try clear q2
            try clear q20
            try clear q200
            try clear q201
            try clear q204
            try clear q207
            try clear q210
            obtain ⟨kq, x8_16, x9_16, x204001_16, x204002_16, x204003_16, rfl, rfl, HA, HJ16, Zc, Zb, HB⟩ := hcut
            cases kq with
            | zero => exact absurd HA.out (by simp [impl_reqOf.j3])
            | succ kj16 =>
             have H := HA.out
             clear HA
             simp only [impl_reqOf.j3] at H
             by_cases c50 : x8_16 = true
             ·subst c50
              have H1 : (if x9_16 = true then ((impl_ReqOK.f kj16 x16_1 x204001_16 x204002_16 x204003_16).bind fun t211 => (if t211 = true then ((impl_Req_isTold.f kj16 x16_1 x204001_16 x204002_16 x204003_16).bind fun t212 => (if t212 = true then ((impl_Req_text.f kj16 x16_1 x204001_16 x204002_16 x204003_16).bind fun t213 => ((impl_said.f (([Any.ss (.bool false) l0] : List Any))).bind fun t217 => (some (x16_1, x204001_16, x204002_16, x204003_16, (t213.toList == t217.toList))))) else (some (x16_1, x204001_16, x204002_16, x204003_16, false)))) else (some (x16_1, x204001_16, x204002_16, x204003_16, false)))) else (some (x16_1, x204001_16, x204002_16, x204003_16, false))) = some (r1, r2, r3, r4, r5) := by rw [if_pos rfl] at H; exact H
              clear H
              have H := H1
              clear H1
              by_cases c51 : x9_16 = true
              ·subst c51
               have H1 : ((impl_ReqOK.f kj16 x16_1 x204001_16 x204002_16 x204003_16).bind fun t211 => (if t211 = true then ((impl_Req_isTold.f kj16 x16_1 x204001_16 x204002_16 x204003_16).bind fun t212 => (if t212 = true then ((impl_Req_text.f kj16 x16_1 x204001_16 x204002_16 x204003_16).bind fun t213 => ((impl_said.f (([Any.ss (.bool false) l0] : List Any))).bind fun t217 => (some (x16_1, x204001_16, x204002_16, x204003_16, (t213.toList == t217.toList))))) else (some (x16_1, x204001_16, x204002_16, x204003_16, false)))) else (some (x16_1, x204001_16, x204002_16, x204003_16, false)))) = some (r1, r2, r3, r4, r5) := by rw [if_pos rfl] at H; exact H
               clear H
               have H := H1
               clear H1
               replace H := Option.bind_eq_some_iff.mp H
               obtain ⟨t211, A520, H⟩ := H
               replace H : (if t211 = true then ((impl_Req_isTold.f kj16 x16_1 x204001_16 x204002_16 x204003_16).bind fun t212 => (if t212 = true then ((impl_Req_text.f kj16 x16_1 x204001_16 x204002_16 x204003_16).bind fun t213 => ((impl_said.f (([Any.ss (.bool false) l0] : List Any))).bind fun t217 => (some (x16_1, x204001_16, x204002_16, x204003_16, (t213.toList == t217.toList))))) else (some (x16_1, x204001_16, x204002_16, x204003_16, false)))) else (some (x16_1, x204001_16, x204002_16, x204003_16, false))) = some (r1, r2, r3, r4, r5) := H
               have A52 := zm A520
               clear A520
               by_cases c53 : t211 = true
               ·subst c53
                have H1 : ((impl_Req_isTold.f kj16 x16_1 x204001_16 x204002_16 x204003_16).bind fun t212 => (if t212 = true then ((impl_Req_text.f kj16 x16_1 x204001_16 x204002_16 x204003_16).bind fun t213 => ((impl_said.f (([Any.ss (.bool false) l0] : List Any))).bind fun t217 => (some (x16_1, x204001_16, x204002_16, x204003_16, (t213.toList == t217.toList))))) else (some (x16_1, x204001_16, x204002_16, x204003_16, false)))) = some (r1, r2, r3, r4, r5) := by rw [if_pos rfl] at H; exact H
                clear H
                have H := H1
                clear H1
                replace H := Option.bind_eq_some_iff.mp H
                obtain ⟨t212, A540, H⟩ := H
                replace H : (if t212 = true then ((impl_Req_text.f kj16 x16_1 x204001_16 x204002_16 x204003_16).bind fun t213 => ((impl_said.f (([Any.ss (.bool false) l0] : List Any))).bind fun t217 => (some (x16_1, x204001_16, x204002_16, x204003_16, (t213.toList == t217.toList))))) else (some (x16_1, x204001_16, x204002_16, x204003_16, false))) = some (r1, r2, r3, r4, r5) := H
                have A54 := zm A540
                clear A540
                by_cases c55 : t212 = true
                ·subst c55
                 have H1 : ((impl_Req_text.f kj16 x16_1 x204001_16 x204002_16 x204003_16).bind fun t213 => ((impl_said.f (([Any.ss (.bool false) l0] : List Any))).bind fun t217 => (some (x16_1, x204001_16, x204002_16, x204003_16, (t213.toList == t217.toList))))) = some (r1, r2, r3, r4, r5) := by rw [if_pos rfl] at H; exact H
                 clear H
                 have H := H1
                 clear H1
                 replace H := Option.bind_eq_some_iff.mp H
                 obtain ⟨t213, A560, H⟩ := H
                 replace H : ((impl_said.f (([Any.ss (.bool false) l0] : List Any))).bind fun t217 => (some (x16_1, x204001_16, x204002_16, x204003_16, (t213.toList == t217.toList)))) = some (r1, r2, r3, r4, r5) := H
                 have A56 := zm A560
                 clear A560
                 obtain ⟨y214, hy214⟩ : ∃ y_ : List Any, y_ = (([Any.ss (.slice A0 l0.length c0) l0] : List Any)) := ⟨_, rfl⟩
                 replace H : ((impl_said.f y214).bind fun t217 => (some (x16_1, x204001_16, x204002_16, x204003_16, (t213.toList == t217.toList)))) = some (r1, r2, r3, r4, r5) := by first | (rw [hy214]; with_reducible exact H) | (have H2_ := (Option.bind_some _ _).symm.trans H; rw [hy214]; with_reducible exact H2_) | (have H2_ := (Option.bind_some _ _).symm.trans H; with_reducible exact H2_) | with_reducible exact H | (rw [hy214]; exact H) | exact H
                 have Ny214 := zm hy214
                 clear hy214
                 replace H := Option.bind_eq_some_iff.mp H
                 obtain ⟨t217, A570, H⟩ := H
                 replace H : (some (x16_1, x204001_16, x204002_16, x204003_16, (t213.toList == t217.toList))) = some (r1, r2, r3, r4, r5) := H
                 have A57 := zm A570
                 clear A570
                 simp only [Option.some.injEq, Prod.mk.injEq] at H
                 obtain ⟨rfl, rfl, rfl, rfl, rfl⟩ := H
                 try go_wp2
                 have n0_ := zm (blk_drew Zc.out)
                 have n1_ := zm (blk_drew Zb.out)
                 have n2_ := zm (below_drew1 HB.out)
                 clear Zc
                 clear Zb
                 clear HB
                 have Zc := n0_
                 have Zb := n1_
                 have HB := n2_
                 clear n0_ n1_ n2_
                 refine start_ (n := 24) (S := fun w' => True) (ds := []) #[false, false, false, false, false, false, false, false, false, false, false, false, false, false, false, false, false, false, false, false, false, false, false, false] (by kernel_rfl) rfl rfl trivial (fun hHeld => ?_); refine with_tabW impl_reqOf.tab15 impl_reqOf.bits15 (fun HT_ HW_ => ?_)
                 generalize wc.drew = w58 at Zc Zb HB hHeld ⊢
                 refine pure_ (i := 1) (N := some 78) (v := ?_) (a' := ?_) #[false, true, false, false, false, false, false, false, false, false, false, false, false, false, false, false, false, false, false, false, false, false, false, false] rfl rfl (any_of HT_.out (by kernel_rfl)) (fun _ _ _ h => h) (Or.inl ⟨by rfl, ?_⟩) ?_ ?_
                 rotate_left
                 ·intro w'
                  go_simp
                  with_reducible rfl
                 rotate_left
                 ·simp only [Act.put, zs, zz, zt, i64_w, i32_w]
                  rfl
                 refine pure_ (i := 2) (N := some 79) (v := ?_) (a' := ?_) #[false, true, true, false, false, false, false, false, false, false, false, false, false, false, false, false, false, false, false, false, false, false, false, false] rfl rfl (any_of HT_.out (by kernel_rfl)) (fun _ _ _ h => h) (Or.inl ⟨by rfl, ?_⟩) ?_ ?_
                 rotate_left
                 ·intro w'
                  go_simp
                  with_reducible rfl
                 rotate_left
                 ·simp only [Act.put, zs, zz, zt, i64_w, i32_w]
                  rfl
                 refine pure_ (i := 3) (N := some 80) (v := ?_) (a' := ?_) #[false, true, true, true, false, false, false, false, false, false, false, false, false, false, false, false, false, false, false, false, false, false, false, false] rfl rfl (any_of HT_.out (by kernel_rfl)) (fun _ _ _ h => h) (Or.inl ⟨by rfl, ?_⟩) ?_ ?_
                 rotate_left
                 ·intro w'
                  go_simp
                  with_reducible rfl
                 rotate_left
                 ·simp only [Act.put, zs, zz, zt, i64_w, i32_w]
                  rfl
                 refine inv_at [0, 4, 5, 6, 7, 8, 9, 10, 11, 12, 13, 14, 15, 16, 17, 18, 19, 20, 21, 22, 23] (fun a0_ b a w' => ∃ (v215 : Value), a = putSel a0_ b [(0, 77, .agg #[.int .i64 x16_1, .int .i64 x204001_16, .int .i64 x204002_16, .string x204003_16]), (4, 81, .bool true), (5, 82, .bool true), (6, 83, .agg #[.int .i64 x16_1, .int .i64 x204001_16, .int .i64 x204002_16, .string x204003_16]), (7, 84, .bool true), (8, 85, .bool true), (9, 86, .bool true), (10, 87, .agg #[.int .i64 x16_1, .int .i64 x204001_16, .int .i64 x204002_16, .string x204003_16]), (11, 88, .bool true), (12, 89, .bool true), (13, 90, .bool true), (14, 91, .agg #[.int .i64 x16_1, .int .i64 x204001_16, .int .i64 x204002_16, .string x204003_16]), (15, 92, .string t213), (16, 93, .slice A0 l0.length c0), (17, 94, .iface 37 (.slice A0 l0.length c0)), (18, 95, v215), (19, 96, .string t217), (20, 97, .bool (t213.toList == t217.toList)), (21, 98, .bool (t213.toList == t217.toList)), (23, 3, .bool (t213.toList == t217.toList))] ∧ (b 22 = false → w'.heap[gb196]? = some (.cells #[.int .i64 x197000_1, .int .i64 x197001_1, .int .i64 x197002_1, .string x197003_1] 23 (0, 0))) ∧ (w'.heap[gb203]? = some (.cells #[.int .i64 x16_1, .int .i64 x204001_16, .int .i64 x204002_16, .string x204003_16] 23 (0, 0))) ∧ (Below w.heap.size w w') ∧ (b 18 = true → Kd.R kAny 20 w' w.heap.size (fun _ => True) v215 y214) ∧ (b 22 = true → w'.heap[gb196]? = some (.cells #[.int .i64 x16_1, .int .i64 x204001_16, .int .i64 x204002_16, .string x204003_16] 23 (0, 0)))) HT_.out HW_.out (by kernel_rfl) (by kernel_rfl) ?_ ?_ ?_
                 ·exact ⟨.bool false, by simp only [putSel, Bool.false_eq_true, if_false], fun _ => Zc.out, Zb.out, HB.out, fun h_ => absurd h_ (by decide), fun h_ => absurd h_ (by decide)⟩
                 ·skip
                  clear Zc Zb HB
                  refine steps_cons ?_ ?_
                  ·rintro b a w' ⟨v215, ha, Q_BK196, Q_BK203, Q_HB, Q_HO216, Q_BK196_e22⟩ hb_ hon hoff
                   refine ⟨_, rfl, fun K hK => ?_⟩
                   have e6 : a.tmps[6]? = some (.pointer (some ⟨gb203, 0, none⟩)) := by rw [ha]; exact (putSel_off rfl).trans rfl
                   replace ha := zm ha
                   have Zc := zm (Q_BK196 (hoff 22 (by kernel_rfl)))
                   have Zb := zm Q_BK203
                   have HB := zm Q_HB
                   have hc0_ : w'.cell? ⟨gb203, 0, none⟩ = some (.int .i64 x16_1) := (blk_cell Zb.out 0).trans rfl
                   have hc1_ : w'.cell? ⟨gb203, 1, none⟩ = some (.int .i64 x204001_16) := (blk_cell Zb.out 1).trans rfl
                   have hc2_ : w'.cell? ⟨gb203, 2, none⟩ = some (.int .i64 x204002_16) := (blk_cell Zb.out 2).trans rfl
                   have hc3_ : w'.cell? ⟨gb203, 3, none⟩ = some (.string x204003_16) := (blk_cell Zb.out 3).trans rfl
                   refine value_ (w1 := w') (v := .agg #[.int .i64 x16_1, .int .i64 x204001_16, .int .i64 x204002_16, .string x204003_16]) (by rfl) rfl ?_ ?_
                   ·go_simp
                    (try simp only [i64_w])
                    try rfl
                   refine hK.out _ _ ⟨v215, (by rw [ha.out]; exact putSel_upk 0 hb_ rfl rfl rfl), Q_BK196, Q_BK203, Q_HB, Q_HO216, fun h0_ => absurd ((hoff 22 (by kernel_rfl)).symm.trans h0_) (by decide)⟩
                  refine steps_cons ?_ ?_
                  ·rintro b a w' ⟨v215, ha, Q_BK196, Q_BK203, Q_HB, Q_HO216, Q_BK196_e22⟩ hb_ hon hoff
                   refine ⟨_, rfl, fun K hK => ?_⟩
                   have e79 : a.tmps[79]? = some (.bool true) := by rw [ha]; exact (putSel_off rfl).trans rfl
                   have e80 : a.tmps[80]? = some (.bool true) := by rw [ha]; exact (putSel_off rfl).trans rfl
                   replace ha := zm ha
                   have Zc := zm (Q_BK196 (hoff 22 (by kernel_rfl)))
                   have Zb := zm Q_BK203
                   have HB := zm Q_HB
                   refine value_ (w1 := w') (v := .bool true) (by rfl) rfl ?_ ?_
                   ·go_simp
                    (try simp only [i64_w])
                    try rfl
                   refine hK.out _ _ ⟨v215, (by rw [ha.out]; exact putSel_upk 1 hb_ rfl rfl rfl), Q_BK196, Q_BK203, Q_HB, fun h0_ => absurd ((hoff 18 (by kernel_rfl)).symm.trans h0_) (by decide), fun h0_ => absurd ((hoff 22 (by kernel_rfl)).symm.trans h0_) (by decide)⟩
                  refine steps_cons ?_ ?_
                  ·rintro b a w' ⟨v215, ha, Q_BK196, Q_BK203, Q_HB, Q_HO216, Q_BK196_e22⟩ hb_ hon hoff
                   refine ⟨_, rfl, fun K hK => ?_⟩
                   have e81 : a.tmps[81]? = some (.bool true) := by rw [ha]; exact putSel_on (e := (4, 81, .bool true)) 1 rfl rfl (hon 4 (by kernel_rfl)) rfl
                   replace ha := zm ha
                   have Zc := zm (Q_BK196 (hoff 22 (by kernel_rfl)))
                   have Zb := zm Q_BK203
                   have HB := zm Q_HB
                   refine value_ (w1 := w') (v := .bool true) (by rfl) rfl ?_ ?_
                   ·go_simp
                    (try simp only [i64_w])
                    try rfl
                   refine hK.out _ _ ⟨v215, (by rw [ha.out]; exact putSel_upk 2 hb_ rfl rfl rfl), Q_BK196, Q_BK203, Q_HB, fun h0_ => absurd ((hoff 18 (by kernel_rfl)).symm.trans h0_) (by decide), fun h0_ => absurd ((hoff 22 (by kernel_rfl)).symm.trans h0_) (by decide)⟩
                  refine steps_cons ?_ ?_
                  ·rintro b a w' ⟨v215, ha, Q_BK196, Q_BK203, Q_HB, Q_HO216, Q_BK196_e22⟩ hb_ hon hoff
                   refine ⟨_, rfl, fun K hK => ?_⟩
                   have e6 : a.tmps[6]? = some (.pointer (some ⟨gb203, 0, none⟩)) := by rw [ha]; exact (putSel_off rfl).trans rfl
                   have e82 : a.tmps[82]? = some (.bool true) := by rw [ha]; exact putSel_on (e := (5, 82, .bool true)) 2 rfl rfl (hon 5 (by kernel_rfl)) rfl
                   replace ha := zm ha
                   have Zc := zm (Q_BK196 (hoff 22 (by kernel_rfl)))
                   have Zb := zm Q_BK203
                   have HB := zm Q_HB
                   have hc0_ : w'.cell? ⟨gb203, 0, none⟩ = some (.int .i64 x16_1) := (blk_cell Zb.out 0).trans rfl
                   have hc1_ : w'.cell? ⟨gb203, 1, none⟩ = some (.int .i64 x204001_16) := (blk_cell Zb.out 1).trans rfl
                   have hc2_ : w'.cell? ⟨gb203, 2, none⟩ = some (.int .i64 x204002_16) := (blk_cell Zb.out 2).trans rfl
                   have hc3_ : w'.cell? ⟨gb203, 3, none⟩ = some (.string x204003_16) := (blk_cell Zb.out 3).trans rfl
                   refine value_ (w1 := w') (v := .agg #[.int .i64 x16_1, .int .i64 x204001_16, .int .i64 x204002_16, .string x204003_16]) (wanted_on rfl rfl rfl (e82.trans (by first | rfl | (simp [*]; done)))) rfl ?_ ?_
                   ·go_simp
                    (try simp only [i64_w])
                    try rfl
                   refine hK.out _ _ ⟨v215, (by rw [ha.out]; exact putSel_upk 3 hb_ rfl rfl rfl), Q_BK196, Q_BK203, Q_HB, fun h0_ => absurd ((hoff 18 (by kernel_rfl)).symm.trans h0_) (by decide), fun h0_ => absurd ((hoff 22 (by kernel_rfl)).symm.trans h0_) (by decide)⟩
                  refine steps_cons ?_ ?_
                  ·rintro b a w' ⟨v215, ha, Q_BK196, Q_BK203, Q_HB, Q_HO216, Q_BK196_e22⟩ hb_ hon hoff
                   refine ⟨_, rfl, fun K hK => ?_⟩
                   have e83 : a.tmps[83]? = some (.agg #[.int .i64 x16_1, .int .i64 x204001_16, .int .i64 x204002_16, .string x204003_16]) := by rw [ha]; exact putSel_on (e := (6, 83, .agg #[.int .i64 x16_1, .int .i64 x204001_16, .int .i64 x204002_16, .string x204003_16])) 3 rfl rfl (hon 6 (by kernel_rfl)) rfl
                   have e82 : a.tmps[82]? = some (.bool true) := by rw [ha]; exact putSel_on (e := (5, 82, .bool true)) 2 rfl rfl (hon 5 (by kernel_rfl)) rfl
                   replace ha := zm ha
                   have Zc := zm (Q_BK196 (hoff 22 (by kernel_rfl)))
                   have Zb := zm Q_BK203
                   have HB := zm Q_HB
                   refine goes_ Tryd.func36 (by kernel_rfl) rfl #[.agg #[.int .i64 x16_1, .int .i64 x204001_16, .int .i64 x204002_16, .string x204003_16]] (by first | rfl | exact wanted_on rfl rfl rfl (e82.trans (by first | rfl | (simp [*]; done))) | exact wanted_on rfl rfl rfl (e83.trans (by first | rfl | (simp [*]; done)))) rfl rfl (by first | (simp only [List.map_toArray, List.map_cons, List.map_nil, Act.eval, Array.getD_eq_getD_getElem?, Option.getD_some, e83, e82]; done) | (simp only [List.map_toArray, List.map_cons, List.map_nil, Act.eval, Array.getD_eq_getD_getElem?, Option.getD_some, e83, e82]; rfl)) ?_
                   with_reducible refine (impl_ReqOK.calls kj16 x16_1 x204001_16 x204002_16 x204003_16 true _ A52.out).mono ?_
                   rintro e w59 ⟨rfl, hb⟩
                   refine ⟨_, rfl, ?_⟩
                   have n0_ := zm (blk_below (g := gb196) (o := .cells #[.int .i64 x197000_1, .int .i64 x197001_1, .int .i64 x197002_1, .string x197003_1] 23 (0, 0)) (zg_1 Zc.out) hb)
                   have n1_ := zm (blk_below (g := gb203) (o := .cells #[.int .i64 x16_1, .int .i64 x204001_16, .int .i64 x204002_16, .string x204003_16] 23 (0, 0)) (zg_1 Zb.out) hb)
                   have n2_ := zm (below_step (zg_3 HB.out Ze.out Zf.out) hb)
                   clear Zc
                   clear Zb
                   clear HB
                   have Zc := n0_
                   have Zb := n1_
                   have HB := n2_
                   clear n0_ n1_ n2_
                   (try clear hb)
                   (try clear hb2)
                   (try clear hk)
                   (try clear hi)
                   refine hK.out _ _ ⟨v215, (by rw [ha.out]; exact putSel_upk 4 hb_ rfl rfl rfl), fun _ => (zg_1 Zc.out), (zg_1 Zb.out), (zg_3 HB.out Ze.out Zf.out), fun h0_ => absurd ((hoff 18 (by kernel_rfl)).symm.trans h0_) (by decide), fun h0_ => absurd ((hoff 22 (by kernel_rfl)).symm.trans h0_) (by decide)⟩
                  refine steps_cons ?_ ?_
                  ·rintro b a w' ⟨v215, ha, Q_BK196, Q_BK203, Q_HB, Q_HO216, Q_BK196_e22⟩ hb_ hon hoff
                   refine ⟨_, rfl, fun K hK => ?_⟩
                   have e82 : a.tmps[82]? = some (.bool true) := by rw [ha]; exact putSel_on (e := (5, 82, .bool true)) 2 rfl rfl (hon 5 (by kernel_rfl)) rfl
                   have e84 : a.tmps[84]? = some (.bool true) := by rw [ha]; exact putSel_on (e := (7, 84, .bool true)) 4 rfl rfl (hon 7 (by kernel_rfl)) rfl
                   replace ha := zm ha
                   have Zc := zm (Q_BK196 (hoff 22 (by kernel_rfl)))
                   have Zb := zm Q_BK203
                   have HB := zm Q_HB
                   refine value_ (w1 := w') (v := .bool true) (by rfl) rfl ?_ ?_
                   ·go_simp
                    (try simp only [i64_w])
                    try rfl
                   refine hK.out _ _ ⟨v215, (by rw [ha.out]; exact putSel_upk 5 hb_ rfl rfl rfl), Q_BK196, Q_BK203, Q_HB, fun h0_ => absurd ((hoff 18 (by kernel_rfl)).symm.trans h0_) (by decide), fun h0_ => absurd ((hoff 22 (by kernel_rfl)).symm.trans h0_) (by decide)⟩
                  refine steps_cons ?_ ?_
                  ·rintro b a w' ⟨v215, ha, Q_BK196, Q_BK203, Q_HB, Q_HO216, Q_BK196_e22⟩ hb_ hon hoff
                   refine ⟨_, rfl, fun K hK => ?_⟩
                   have e85 : a.tmps[85]? = some (.bool true) := by rw [ha]; exact putSel_on (e := (8, 85, .bool true)) 5 rfl rfl (hon 8 (by kernel_rfl)) rfl
                   replace ha := zm ha
                   have Zc := zm (Q_BK196 (hoff 22 (by kernel_rfl)))
                   have Zb := zm Q_BK203
                   have HB := zm Q_HB
                   refine value_ (w1 := w') (v := .bool true) (by rfl) rfl ?_ ?_
                   ·go_simp
                    (try simp only [i64_w])
                    try rfl
                   refine hK.out _ _ ⟨v215, (by rw [ha.out]; exact putSel_upk 6 hb_ rfl rfl rfl), Q_BK196, Q_BK203, Q_HB, fun h0_ => absurd ((hoff 18 (by kernel_rfl)).symm.trans h0_) (by decide), fun h0_ => absurd ((hoff 22 (by kernel_rfl)).symm.trans h0_) (by decide)⟩
                  refine steps_cons ?_ ?_
                  ·rintro b a w' ⟨v215, ha, Q_BK196, Q_BK203, Q_HB, Q_HO216, Q_BK196_e22⟩ hb_ hon hoff
                   refine ⟨_, rfl, fun K hK => ?_⟩
                   have e6 : a.tmps[6]? = some (.pointer (some ⟨gb203, 0, none⟩)) := by rw [ha]; exact (putSel_off rfl).trans rfl
                   have e86 : a.tmps[86]? = some (.bool true) := by rw [ha]; exact putSel_on (e := (9, 86, .bool true)) 6 rfl rfl (hon 9 (by kernel_rfl)) rfl
                   replace ha := zm ha
                   have Zc := zm (Q_BK196 (hoff 22 (by kernel_rfl)))
                   have Zb := zm Q_BK203
                   have HB := zm Q_HB
                   have hc0_ : w'.cell? ⟨gb203, 0, none⟩ = some (.int .i64 x16_1) := (blk_cell Zb.out 0).trans rfl
                   have hc1_ : w'.cell? ⟨gb203, 1, none⟩ = some (.int .i64 x204001_16) := (blk_cell Zb.out 1).trans rfl
                   have hc2_ : w'.cell? ⟨gb203, 2, none⟩ = some (.int .i64 x204002_16) := (blk_cell Zb.out 2).trans rfl
                   have hc3_ : w'.cell? ⟨gb203, 3, none⟩ = some (.string x204003_16) := (blk_cell Zb.out 3).trans rfl
                   refine value_ (w1 := w') (v := .agg #[.int .i64 x16_1, .int .i64 x204001_16, .int .i64 x204002_16, .string x204003_16]) (wanted_on rfl rfl rfl (e86.trans (by first | rfl | (simp [*]; done)))) rfl ?_ ?_
                   ·go_simp
                    (try simp only [i64_w])
                    try rfl
                   refine hK.out _ _ ⟨v215, (by rw [ha.out]; exact putSel_upk 7 hb_ rfl rfl rfl), Q_BK196, Q_BK203, Q_HB, fun h0_ => absurd ((hoff 18 (by kernel_rfl)).symm.trans h0_) (by decide), fun h0_ => absurd ((hoff 22 (by kernel_rfl)).symm.trans h0_) (by decide)⟩
                  refine steps_cons ?_ ?_
                  ·rintro b a w' ⟨v215, ha, Q_BK196, Q_BK203, Q_HB, Q_HO216, Q_BK196_e22⟩ hb_ hon hoff
                   refine ⟨_, rfl, fun K hK => ?_⟩
                   have e87 : a.tmps[87]? = some (.agg #[.int .i64 x16_1, .int .i64 x204001_16, .int .i64 x204002_16, .string x204003_16]) := by rw [ha]; exact putSel_on (e := (10, 87, .agg #[.int .i64 x16_1, .int .i64 x204001_16, .int .i64 x204002_16, .string x204003_16])) 7 rfl rfl (hon 10 (by kernel_rfl)) rfl
                   have e86 : a.tmps[86]? = some (.bool true) := by rw [ha]; exact putSel_on (e := (9, 86, .bool true)) 6 rfl rfl (hon 9 (by kernel_rfl)) rfl
                   replace ha := zm ha
                   have Zc := zm (Q_BK196 (hoff 22 (by kernel_rfl)))
                   have Zb := zm Q_BK203
                   have HB := zm Q_HB
                   refine goes_ Tryd.func37 (by kernel_rfl) rfl #[.agg #[.int .i64 x16_1, .int .i64 x204001_16, .int .i64 x204002_16, .string x204003_16]] (by first | rfl | exact wanted_on rfl rfl rfl (e86.trans (by first | rfl | (simp [*]; done))) | exact wanted_on rfl rfl rfl (e87.trans (by first | rfl | (simp [*]; done)))) rfl rfl (by first | (simp only [List.map_toArray, List.map_cons, List.map_nil, Act.eval, Array.getD_eq_getD_getElem?, Option.getD_some, e87, e86]; done) | (simp only [List.map_toArray, List.map_cons, List.map_nil, Act.eval, Array.getD_eq_getD_getElem?, Option.getD_some, e87, e86]; rfl)) ?_
                   with_reducible refine (impl_Req_isTold.calls kj16 x16_1 x204001_16 x204002_16 x204003_16 true _ A54.out).mono ?_
                   rintro e w61 ⟨rfl, hb⟩
                   refine ⟨_, rfl, ?_⟩
                   have n0_ := zm (blk_below (g := gb196) (o := .cells #[.int .i64 x197000_1, .int .i64 x197001_1, .int .i64 x197002_1, .string x197003_1] 23 (0, 0)) (zg_1 Zc.out) hb)
                   have n1_ := zm (blk_below (g := gb203) (o := .cells #[.int .i64 x16_1, .int .i64 x204001_16, .int .i64 x204002_16, .string x204003_16] 23 (0, 0)) (zg_1 Zb.out) hb)
                   have n2_ := zm (below_step (zg_3 HB.out Ze.out Zf.out) hb)
                   clear Zc
                   clear Zb
                   clear HB
                   have Zc := n0_
                   have Zb := n1_
                   have HB := n2_
                   clear n0_ n1_ n2_
                   (try clear hb)
                   (try clear hb2)
                   (try clear hk)
                   (try clear hi)
                   refine hK.out _ _ ⟨v215, (by rw [ha.out]; exact putSel_upk 8 hb_ rfl rfl rfl), fun _ => (zg_1 Zc.out), (zg_1 Zb.out), (zg_3 HB.out Ze.out Zf.out), fun h0_ => absurd ((hoff 18 (by kernel_rfl)).symm.trans h0_) (by decide), fun h0_ => absurd ((hoff 22 (by kernel_rfl)).symm.trans h0_) (by decide)⟩
                  refine steps_cons ?_ ?_
                  ·rintro b a w' ⟨v215, ha, Q_BK196, Q_BK203, Q_HB, Q_HO216, Q_BK196_e22⟩ hb_ hon hoff
                   refine ⟨_, rfl, fun K hK => ?_⟩
                   have e86 : a.tmps[86]? = some (.bool true) := by rw [ha]; exact putSel_on (e := (9, 86, .bool true)) 6 rfl rfl (hon 9 (by kernel_rfl)) rfl
                   have e88 : a.tmps[88]? = some (.bool true) := by rw [ha]; exact putSel_on (e := (11, 88, .bool true)) 8 rfl rfl (hon 11 (by kernel_rfl)) rfl
                   replace ha := zm ha
                   have Zc := zm (Q_BK196 (hoff 22 (by kernel_rfl)))
                   have Zb := zm Q_BK203
                   have HB := zm Q_HB
                   refine value_ (w1 := w') (v := .bool true) (by rfl) rfl ?_ ?_
                   ·go_simp
                    (try simp only [i64_w])
                    try rfl
                   refine hK.out _ _ ⟨v215, (by rw [ha.out]; exact putSel_upk 9 hb_ rfl rfl rfl), Q_BK196, Q_BK203, Q_HB, fun h0_ => absurd ((hoff 18 (by kernel_rfl)).symm.trans h0_) (by decide), fun h0_ => absurd ((hoff 22 (by kernel_rfl)).symm.trans h0_) (by decide)⟩
                  refine steps_cons ?_ ?_
                  ·rintro b a w' ⟨v215, ha, Q_BK196, Q_BK203, Q_HB, Q_HO216, Q_BK196_e22⟩ hb_ hon hoff
                   refine ⟨_, rfl, fun K hK => ?_⟩
                   have e89 : a.tmps[89]? = some (.bool true) := by rw [ha]; exact putSel_on (e := (12, 89, .bool true)) 9 rfl rfl (hon 12 (by kernel_rfl)) rfl
                   replace ha := zm ha
                   have Zc := zm (Q_BK196 (hoff 22 (by kernel_rfl)))
                   have Zb := zm Q_BK203
                   have HB := zm Q_HB
                   refine value_ (w1 := w') (v := .bool true) (by rfl) rfl ?_ ?_
                   ·go_simp
                    (try simp only [i64_w])
                    try rfl
                   refine hK.out _ _ ⟨v215, (by rw [ha.out]; exact putSel_upk 10 hb_ rfl rfl rfl), Q_BK196, Q_BK203, Q_HB, fun h0_ => absurd ((hoff 18 (by kernel_rfl)).symm.trans h0_) (by decide), fun h0_ => absurd ((hoff 22 (by kernel_rfl)).symm.trans h0_) (by decide)⟩
                  refine steps_cons ?_ ?_
                  ·rintro b a w' ⟨v215, ha, Q_BK196, Q_BK203, Q_HB, Q_HO216, Q_BK196_e22⟩ hb_ hon hoff
                   refine ⟨_, rfl, fun K hK => ?_⟩
                   have e6 : a.tmps[6]? = some (.pointer (some ⟨gb203, 0, none⟩)) := by rw [ha]; exact (putSel_off rfl).trans rfl
                   have e90 : a.tmps[90]? = some (.bool true) := by rw [ha]; exact putSel_on (e := (13, 90, .bool true)) 10 rfl rfl (hon 13 (by kernel_rfl)) rfl
                   replace ha := zm ha
                   have Zc := zm (Q_BK196 (hoff 22 (by kernel_rfl)))
                   have Zb := zm Q_BK203
                   have HB := zm Q_HB
                   have hc0_ : w'.cell? ⟨gb203, 0, none⟩ = some (.int .i64 x16_1) := (blk_cell Zb.out 0).trans rfl
                   have hc1_ : w'.cell? ⟨gb203, 1, none⟩ = some (.int .i64 x204001_16) := (blk_cell Zb.out 1).trans rfl
                   have hc2_ : w'.cell? ⟨gb203, 2, none⟩ = some (.int .i64 x204002_16) := (blk_cell Zb.out 2).trans rfl
                   have hc3_ : w'.cell? ⟨gb203, 3, none⟩ = some (.string x204003_16) := (blk_cell Zb.out 3).trans rfl
                   refine value_ (w1 := w') (v := .agg #[.int .i64 x16_1, .int .i64 x204001_16, .int .i64 x204002_16, .string x204003_16]) (wanted_on rfl rfl rfl (e90.trans (by first | rfl | (simp [*]; done)))) rfl ?_ ?_
                   ·go_simp
                    (try simp only [i64_w])
                    try rfl
                   refine hK.out _ _ ⟨v215, (by rw [ha.out]; exact putSel_upk 11 hb_ rfl rfl rfl), Q_BK196, Q_BK203, Q_HB, Q_HO216, fun h0_ => absurd ((hoff 22 (by kernel_rfl)).symm.trans h0_) (by decide)⟩
                  refine steps_cons ?_ ?_
                  ·rintro b a w' ⟨v215, ha, Q_BK196, Q_BK203, Q_HB, Q_HO216, Q_BK196_e22⟩ hb_ hon hoff
                   refine ⟨_, rfl, fun K hK => ?_⟩
                   have e91 : a.tmps[91]? = some (.agg #[.int .i64 x16_1, .int .i64 x204001_16, .int .i64 x204002_16, .string x204003_16]) := by rw [ha]; exact putSel_on (e := (14, 91, .agg #[.int .i64 x16_1, .int .i64 x204001_16, .int .i64 x204002_16, .string x204003_16])) 11 rfl rfl (hon 14 (by kernel_rfl)) rfl
                   have e90 : a.tmps[90]? = some (.bool true) := by rw [ha]; exact putSel_on (e := (13, 90, .bool true)) 10 rfl rfl (hon 13 (by kernel_rfl)) rfl
                   replace ha := zm ha
                   have Zc := zm (Q_BK196 (hoff 22 (by kernel_rfl)))
                   have Zb := zm Q_BK203
                   have HB := zm Q_HB
                   refine goes_ Tryd.func38 (by kernel_rfl) rfl #[.agg #[.int .i64 x16_1, .int .i64 x204001_16, .int .i64 x204002_16, .string x204003_16]] (by first | rfl | exact wanted_on rfl rfl rfl (e90.trans (by first | rfl | (simp [*]; done))) | exact wanted_on rfl rfl rfl (e91.trans (by first | rfl | (simp [*]; done)))) rfl rfl (by first | (simp only [List.map_toArray, List.map_cons, List.map_nil, Act.eval, Array.getD_eq_getD_getElem?, Option.getD_some, e91, e90]; done) | (simp only [List.map_toArray, List.map_cons, List.map_nil, Act.eval, Array.getD_eq_getD_getElem?, Option.getD_some, e91, e90]; rfl)) ?_
                   with_reducible refine (impl_Req_text.calls kj16 x16_1 x204001_16 x204002_16 x204003_16 t213 _ A56.out).mono ?_
                   rintro e w62 ⟨rfl, hb⟩
                   refine ⟨_, rfl, ?_⟩
                   have n0_ := zm (blk_below (g := gb196) (o := .cells #[.int .i64 x197000_1, .int .i64 x197001_1, .int .i64 x197002_1, .string x197003_1] 23 (0, 0)) (zg_1 Zc.out) hb)
                   have n1_ := zm (blk_below (g := gb203) (o := .cells #[.int .i64 x16_1, .int .i64 x204001_16, .int .i64 x204002_16, .string x204003_16] 23 (0, 0)) (zg_1 Zb.out) hb)
                   have n2_ := zm (below_step (zg_3 HB.out Ze.out Zf.out) hb)
                   have z_HO216 := fun (h0_ : b 18 = true) => (show Kd.R kAny 20 w62 w.heap.size (fun _ => True) v215 y214 from by first | exact (Kd.R_below (by (with_reducible repeat (first | apply Kd.R_alloc | apply Kd.R_drewN | apply Kd.R_drew)); exact (Q_HO216 h0_)) hb) | exact Kd.R_mono (Kd.R_below (by (with_reducible repeat (first | apply Kd.R_alloc | apply Kd.R_drewN | apply Kd.R_drew)); exact (Q_HO216 h0_)) hb) (fun _ h_ => by first | trivial | exact h_ | exact h_.1))
                   clear Zc
                   clear Zb
                   clear HB
                   have Zc := n0_
                   have Zb := n1_
                   have HB := n2_
                   clear n0_ n1_ n2_
                   (try clear hb)
                   (try clear hb2)
                   (try clear hk)
                   (try clear hi)
                   refine hK.out _ _ ⟨v215, (by rw [ha.out]; exact putSel_upk 12 hb_ rfl rfl rfl), fun _ => (zg_1 Zc.out), (zg_1 Zb.out), (zg_3 HB.out Ze.out Zf.out), z_HO216, fun h0_ => absurd ((hoff 22 (by kernel_rfl)).symm.trans h0_) (by decide)⟩
                  refine steps_cons ?_ ?_
                  ·rintro b a w' ⟨v215, ha, Q_BK196, Q_BK203, Q_HB, Q_HO216, Q_BK196_e22⟩ hb_ hon hoff
                   refine ⟨_, rfl, fun K hK => ?_⟩
                   have e0 : a.tmps[0]? = some (.slice A0 l0.length c0) := by rw [ha]; exact (putSel_off rfl).trans rfl
                   have e90 : a.tmps[90]? = some (.bool true) := by rw [ha]; exact putSel_on (e := (13, 90, .bool true)) 10 rfl rfl (hon 13 (by kernel_rfl)) rfl
                   replace ha := zm ha
                   have Zc := zm (Q_BK196 (hoff 22 (by kernel_rfl)))
                   have Zb := zm Q_BK203
                   have HB := zm Q_HB
                   refine value_ (w1 := w') (v := .slice A0 l0.length c0) (wanted_on rfl rfl rfl (e90.trans (by first | rfl | (simp [*]; done)))) rfl ?_ ?_
                   ·go_simp
                    (try simp only [i64_w])
                    try rfl
                   refine hK.out _ _ ⟨v215, (by rw [ha.out]; exact putSel_upk 13 hb_ rfl rfl rfl), Q_BK196, Q_BK203, Q_HB, fun h0_ => absurd ((hoff 18 (by kernel_rfl)).symm.trans h0_) (by decide), fun h0_ => absurd ((hoff 22 (by kernel_rfl)).symm.trans h0_) (by decide)⟩
                  refine steps_cons ?_ ?_
                  ·rintro b a w' ⟨v215, ha, Q_BK196, Q_BK203, Q_HB, Q_HO216, Q_BK196_e22⟩ hb_ hon hoff
                   refine ⟨_, rfl, fun K hK => ?_⟩
                   have e93 : a.tmps[93]? = some (.slice A0 l0.length c0) := by rw [ha]; exact putSel_on (e := (16, 93, .slice A0 l0.length c0)) 13 rfl rfl (hon 16 (by kernel_rfl)) rfl
                   have e90 : a.tmps[90]? = some (.bool true) := by rw [ha]; exact putSel_on (e := (13, 90, .bool true)) 10 rfl rfl (hon 13 (by kernel_rfl)) rfl
                   replace ha := zm ha
                   have Zc := zm (Q_BK196 (hoff 22 (by kernel_rfl)))
                   have Zb := zm Q_BK203
                   have HB := zm Q_HB
                   refine value_ (w1 := w') (v := .iface 37 (.slice A0 l0.length c0)) (wanted_on rfl rfl rfl (e90.trans (by first | rfl | (simp [*]; done)))) rfl ?_ ?_
                   ·go_simp
                    (try simp only [i64_w])
                    try rfl
                   refine hK.out _ _ ⟨v215, (by rw [ha.out]; exact putSel_upk 14 hb_ rfl rfl rfl), Q_BK196, Q_BK203, Q_HB, fun h0_ => absurd ((hoff 18 (by kernel_rfl)).symm.trans h0_) (by decide), fun h0_ => absurd ((hoff 22 (by kernel_rfl)).symm.trans h0_) (by decide)⟩
                  refine steps_cons ?_ ?_
                  ·rintro b a w' ⟨v215, ha, Q_BK196, Q_BK203, Q_HB, Q_HO216, Q_BK196_e22⟩ hb_ hon hoff
                   refine ⟨_, rfl, fun K hK => ?_⟩
                   have e94 : a.tmps[94]? = some (.iface 37 (.slice A0 l0.length c0)) := by rw [ha]; exact putSel_on (e := (17, 94, .iface 37 (.slice A0 l0.length c0))) 14 rfl rfl (hon 17 (by kernel_rfl)) rfl
                   have e90 : a.tmps[90]? = some (.bool true) := by rw [ha]; exact putSel_on (e := (13, 90, .bool true)) 10 rfl rfl (hon 13 (by kernel_rfl)) rfl
                   replace ha := zm ha
                   have Zc := zm (Q_BK196 (hoff 22 (by kernel_rfl)))
                   have Zb := zm Q_BK203
                   have HB := zm Q_HB
                   refine Kd.R_lit_step kAny _ 20 ?hg (N := 95) ?hd (xs := ([Any.ss (.slice A0 l0.length c0) l0] : List Any)) (inner := [.iface 37 (.slice A0 l0.length c0)]) (ok := fun _ => True) (okp := fun _ => True) ?hr ?hp (fun _ hk => hk) trivial (Below.refl _ _) (Nat.le_refl _) (by simp) ?_; (case hd => rfl); (case hg => first | rfl | exact wanted_on rfl rfl rfl (e90.trans (by first | rfl | (simp [*]; done))) | exact wanted_on rfl rfl rfl (e94.trans (by first | rfl | (simp [*]; done)))); (case hr => first | (go_simp; done) | (go_simp; rfl)); (case hp => exact (Reps.one (show Kd.M kAny _ _ _ (Any.ss (.slice A0 l0.length c0) l0) [.iface 37 (.slice A0 l0.length c0)] from rfl) (Reps.none _ _)))
                   intro v215 w62 ho63 hb hg_ hnew_
                   clear hg_ hnew_
                   (first | rw [← Ny214.out] at ho63 | (simp only [Int.reduceToNat] at ho63; rw [← Ny214.out] at ho63))
                   have n0_ := zm (Kd.R_lower ho63 (below_size (zg_3 HB.out Ze.out Zf.out)))
                   have n1_ := zm (blk_below (g := gb196) (o := .cells #[.int .i64 x197000_1, .int .i64 x197001_1, .int .i64 x197002_1, .string x197003_1] 23 (0, 0)) (zg_1 Zc.out) hb)
                   have n2_ := zm (blk_below (g := gb203) (o := .cells #[.int .i64 x16_1, .int .i64 x204001_16, .int .i64 x204002_16, .string x204003_16] 23 (0, 0)) (zg_1 Zb.out) hb)
                   have n3_ := zm (below_step (zg_3 HB.out Ze.out Zf.out) hb)
                   clear Zc
                   clear Zb
                   clear HB
                   have Zg := n0_
                   have Zc := n1_
                   have Zb := n2_
                   have HB := n3_
                   clear n0_ n1_ n2_ n3_
                   clear hb ho63
                   refine hK.out _ _ ⟨v215, (by rw [ha.out]; exact putSel_upk 15 hb_ rfl rfl rfl), fun _ => (zg_1 Zc.out), (zg_1 Zb.out), (zg_3 HB.out Ze.out Zf.out), fun _ => (zg_4 Zg.out), fun h0_ => absurd ((hoff 22 (by kernel_rfl)).symm.trans h0_) (by decide)⟩
                  refine steps_cons ?_ ?_
                  ·rintro b a w' ⟨v215, ha, Q_BK196, Q_BK203, Q_HB, Q_HO216, Q_BK196_e22⟩ hb_ hon hoff
                   refine ⟨_, rfl, fun K hK => ?_⟩
                   have e95 : a.tmps[95]? = some (v215) := by rw [ha]; exact putSel_on (e := (18, 95, v215)) 15 rfl rfl (hon 18 (by kernel_rfl)) rfl
                   have e90 : a.tmps[90]? = some (.bool true) := by rw [ha]; exact putSel_on (e := (13, 90, .bool true)) 10 rfl rfl (hon 13 (by kernel_rfl)) rfl
                   replace ha := zm ha
                   have Zc := zm (Q_BK196 (hoff 22 (by kernel_rfl)))
                   have Zb := zm Q_BK203
                   have HB := zm Q_HB
                   have Zg := zm (Q_HO216 (hon 18 (by kernel_rfl)))
                   obtain ⟨Ao65, co65, eo65⟩ := Kd.R_slice Zg.out
                   (first | subst eo65 | (injection eo65 with f1_ f2_ f3_; have f4_ := f1_.symm; have f5_ := f3_.symm; clear f1_ f2_ f3_; subst f4_; subst f5_))
                   refine goes_ Tryd.func70 (by kernel_rfl) rfl #[.slice Ao65 y214.length co65] (by first | rfl | exact wanted_on rfl rfl rfl (e90.trans (by first | rfl | (simp [*]; done))) | exact wanted_on rfl rfl rfl (e95.trans (by first | rfl | (simp [*]; done)))) rfl rfl (by first | (simp only [List.map_toArray, List.map_cons, List.map_nil, Act.eval, Array.getD_eq_getD_getElem?, Option.getD_some, e95, e90]; done) | (simp only [List.map_toArray, List.map_cons, List.map_nil, Act.eval, Array.getD_eq_getD_getElem?, Option.getD_some, e95, e90]; rfl)) ?_
                   with_reducible refine (impl_said.calls _ _ y214 t217 _ ?side1 ?side2 A57.out (HS_ := ?sideS)).mono ?_
                   (case sideS => rw [Ny214.out]; exact ⟨⟨_, _, rfl, (by first | exact Aside0.out (by assumption) | assumption | omega), (by first | exact Kd.C_below (w := w) (Aside0.out (by assumption)) (by repeat (with_reducible first | exact HB.out | apply below_alloc | apply pw_below_drewN | apply below_drew1)) | exact Kd.C_below (w := w) (by assumption) (by repeat (with_reducible first | exact HB.out | apply below_alloc | apply pw_below_drewN | apply below_drew1)) | exact Aside0.out (by assumption))⟩, trivial⟩)
                   (case side1 => exact zC ((Kd.R_reads' Zg.out).2.2))
                   (case side2 => exact (Kd.R_reads' Zg.out).2.1)
                   rintro e w66 ⟨rfl, hb⟩
                   refine ⟨_, rfl, ?_⟩
                   have n0_ := zm (Kd.R_below (zg_4 Zg.out) hb)
                   have n1_ := zm (blk_below (g := gb196) (o := .cells #[.int .i64 x197000_1, .int .i64 x197001_1, .int .i64 x197002_1, .string x197003_1] 23 (0, 0)) (zg_1 Zc.out) hb)
                   have n2_ := zm (blk_below (g := gb203) (o := .cells #[.int .i64 x16_1, .int .i64 x204001_16, .int .i64 x204002_16, .string x204003_16] 23 (0, 0)) (zg_1 Zb.out) hb)
                   have n3_ := zm (below_step (zg_3 HB.out Ze.out Zf.out) hb)
                   clear Zg
                   clear Zc
                   clear Zb
                   clear HB
                   have Zg := n0_
                   have Zc := n1_
                   have Zb := n2_
                   have HB := n3_
                   clear n0_ n1_ n2_ n3_
                   (try clear hb)
                   (try clear hb2)
                   (try clear hk)
                   (try clear hi)
                   refine hK.out _ _ ⟨.slice Ao65 y214.length co65, (by rw [ha.out]; exact putSel_upk 16 hb_ rfl rfl rfl), fun _ => (zg_1 Zc.out), (zg_1 Zb.out), (zg_3 HB.out Ze.out Zf.out), fun _ => (zg_4 Zg.out), fun h0_ => absurd ((hoff 22 (by kernel_rfl)).symm.trans h0_) (by decide)⟩
                  refine steps_cons ?_ ?_
                  ·rintro b a w' ⟨v215, ha, Q_BK196, Q_BK203, Q_HB, Q_HO216, Q_BK196_e22⟩ hb_ hon hoff
                   refine ⟨_, rfl, fun K hK => ?_⟩
                   have e92 : a.tmps[92]? = some (.string t213) := by rw [ha]; exact putSel_on (e := (15, 92, .string t213)) 12 rfl rfl (hon 15 (by kernel_rfl)) rfl
                   have e96 : a.tmps[96]? = some (.string t217) := by rw [ha]; exact putSel_on (e := (19, 96, .string t217)) 16 rfl rfl (hon 19 (by kernel_rfl)) rfl
                   have e90 : a.tmps[90]? = some (.bool true) := by rw [ha]; exact putSel_on (e := (13, 90, .bool true)) 10 rfl rfl (hon 13 (by kernel_rfl)) rfl
                   replace ha := zm ha
                   have Zb := zm Q_BK203
                   have HB := zm Q_HB
                   have Zg := zm (Q_HO216 (hon 18 (by kernel_rfl)))
                   refine value_ (w1 := w') (v := .bool (t213.toList == t217.toList)) (wanted_on rfl rfl rfl (e90.trans (by first | rfl | (simp [*]; done)))) rfl ?_ ?_
                   ·go_simp
                    (try simp only [i64_w])
                    try rfl
                   refine hK.out _ _ ⟨v215, (by rw [ha.out]; exact putSel_upk 17 hb_ rfl rfl rfl), Q_BK196, Q_BK203, Q_HB, Q_HO216, Q_BK196_e22⟩
                  refine steps_cons ?_ ?_
                  ·rintro b a w' ⟨v215, ha, Q_BK196, Q_BK203, Q_HB, Q_HO216, Q_BK196_e22⟩ hb_ hon hoff
                   refine ⟨_, rfl, fun K hK => ?_⟩
                   have e90 : a.tmps[90]? = some (.bool true) := by rw [ha]; exact putSel_on (e := (13, 90, .bool true)) 10 rfl rfl (hon 13 (by kernel_rfl)) rfl
                   have e97 : a.tmps[97]? = some (.bool (t213.toList == t217.toList)) := by rw [ha]; exact putSel_on (e := (20, 97, .bool (t213.toList == t217.toList))) 17 rfl rfl (hon 20 (by kernel_rfl)) rfl
                   replace ha := zm ha
                   have Zb := zm Q_BK203
                   have HB := zm Q_HB
                   have Zg := zm (Q_HO216 (hon 18 (by kernel_rfl)))
                   refine value_ (w1 := w') (v := .bool (t213.toList == t217.toList)) (by rfl) rfl ?_ ?_
                   ·go_simp
                    (try simp only [i64_w])
                    try rfl
                   refine hK.out _ _ ⟨v215, (by rw [ha.out]; exact putSel_upk 18 hb_ rfl rfl rfl), Q_BK196, Q_BK203, Q_HB, Q_HO216, Q_BK196_e22⟩
                  refine steps_cons ?_ ?_
                  ·rintro b a w' ⟨v215, ha, Q_BK196, Q_BK203, Q_HB, Q_HO216, Q_BK196_e22⟩ hb_ hon hoff
                   refine ⟨_, rfl, fun K hK => ?_⟩
                   have e2 : a.tmps[2]? = some (.pointer (some ⟨gb196, 0, none⟩)) := by rw [ha]; exact (putSel_off rfl).trans rfl
                   have e77 : a.tmps[77]? = some (.agg #[.int .i64 x16_1, .int .i64 x204001_16, .int .i64 x204002_16, .string x204003_16]) := by rw [ha]; exact putSel_on (e := (0, 77, .agg #[.int .i64 x16_1, .int .i64 x204001_16, .int .i64 x204002_16, .string x204003_16])) 0 rfl rfl (hon 0 (by kernel_rfl)) rfl
                   replace ha := zm ha
                   have Zc := zm (Q_BK196 hb_)
                   have Zb := zm Q_BK203
                   have HB := zm Q_HB
                   have Zg := zm (Q_HO216 (hon 18 (by kernel_rfl)))
                   have hs67 : w'.cell? ⟨gb196, 0, none⟩ = some (.int .i64 x197000_1) := (blk_cell Zc.out 0).trans rfl
                   have hfs67 := blk_frozen Zc.out 0
                   have hns67_1 := Za.out
                   have hms67_1 := Zd.out
                   have hs68 : w'.cell? ⟨gb196, 1, none⟩ = some (.int .i64 x197001_1) := (blk_cell Zc.out 1).trans rfl
                   have hfs68 := blk_frozen Zc.out 1
                   have hns68_1 := Za.out
                   have hms68_1 := Zd.out
                   have hs69 : w'.cell? ⟨gb196, 2, none⟩ = some (.int .i64 x197002_1) := (blk_cell Zc.out 2).trans rfl
                   have hfs69 := blk_frozen Zc.out 2
                   have hns69_1 := Za.out
                   have hms69_1 := Zd.out
                   have hs70 : w'.cell? ⟨gb196, 3, none⟩ = some (.string x197003_1) := (blk_cell Zc.out 3).trans rfl
                   have hfs70 := blk_frozen Zc.out 3
                   have hns70_1 := Za.out
                   have hms70_1 := Zd.out
                   refine skip_ (w1 := ?_) (by rfl) rfl ?_ ?_
                   rotate_left
                   ·go_simp
                    rfl
                   refine hK.out _ _ ⟨v215, (by rw [ha.out]; exact putSel_none (v := undef) rfl), fun h0_ => absurd ((up_self b 22).symm.trans h0_) (by decide), (by (with_reducible repeat (first | refine blk_drewN ?_ _ | refine blk_drew ?_ | refine blk_alloc ?_ _)); refine blk_far ?_ Za.out _; (with_reducible repeat (first | refine blk_drewN ?_ _ | refine blk_drew ?_ | refine blk_alloc ?_ _)); refine blk_far ?_ Za.out _; (with_reducible repeat (first | refine blk_drewN ?_ _ | refine blk_drew ?_ | refine blk_alloc ?_ _)); refine blk_far ?_ Za.out _; (with_reducible repeat (first | refine blk_drewN ?_ _ | refine blk_drew ?_ | refine blk_alloc ?_ _)); refine blk_far ?_ Za.out _; (with_reducible repeat (first | refine blk_drewN ?_ _ | refine blk_drew ?_ | refine blk_alloc ?_ _)); exact Zb.out), (zg_3 HB.out Ze.out Zf.out), fun _ => (by (with_reducible repeat (first | apply Kd.R_alloc | apply Kd.R_drewN | apply Kd.R_drew)); exact Kd.R_mono (Kd.R_far (p := ⟨gb196, 3, none⟩) (Kd.R_far (p := ⟨gb196, 2, none⟩) (Kd.R_far (p := ⟨gb196, 1, none⟩) (Kd.R_far (p := ⟨gb196, 0, none⟩) (Kd.R_types Zg.out Zc.out (by decide)) (fun _ hk => hk.2) (.int .i64 x16_1)) (fun _ hk => hk.2) (.int .i64 x204001_16)) (fun _ hk => hk.2) (.int .i64 x204002_16)) (fun _ hk => hk.2) (.string x204003_16)) (fun _ hk => trivial)), fun _ => (by (with_reducible repeat (first | refine blk_drewN ?_ _ | refine blk_drew ?_ | refine blk_alloc ?_ _)); refine blk_put (cs := #[.int .i64 x16_1, .int .i64 x204001_16, .int .i64 x204002_16, .string x197003_1]) ?_ 3 _ rfl; (with_reducible repeat (first | refine blk_drewN ?_ _ | refine blk_drew ?_ | refine blk_alloc ?_ _)); refine blk_put (cs := #[.int .i64 x16_1, .int .i64 x204001_16, .int .i64 x197002_1, .string x197003_1]) ?_ 2 _ rfl; (with_reducible repeat (first | refine blk_drewN ?_ _ | refine blk_drew ?_ | refine blk_alloc ?_ _)); refine blk_put (cs := #[.int .i64 x16_1, .int .i64 x197001_1, .int .i64 x197002_1, .string x197003_1]) ?_ 1 _ rfl; (with_reducible repeat (first | refine blk_drewN ?_ _ | refine blk_drew ?_ | refine blk_alloc ?_ _)); refine blk_put (cs := #[.int .i64 x197000_1, .int .i64 x197001_1, .int .i64 x197002_1, .string x197003_1]) ?_ 0 _ rfl; (with_reducible repeat (first | refine blk_drewN ?_ _ | refine blk_drew ?_ | refine blk_alloc ?_ _)); exact Zc.out)⟩
                  refine steps_cons ?_ ?_
                  ·rintro b a w' ⟨v215, ha, Q_BK196, Q_BK203, Q_HB, Q_HO216, Q_BK196_e22⟩ hb_ hon hoff
                   refine ⟨_, rfl, fun K hK => ?_⟩
                   have e98 : a.tmps[98]? = some (.bool (t213.toList == t217.toList)) := by rw [ha]; exact putSel_on (e := (21, 98, .bool (t213.toList == t217.toList))) 18 rfl rfl (hon 21 (by kernel_rfl)) rfl
                   replace ha := zm ha
                   have Zb := zm Q_BK203
                   have HB := zm Q_HB
                   have Zg := zm (Q_HO216 (hon 18 (by kernel_rfl)))
                   have Zc := zm (Q_BK196_e22 (hon 22 (by kernel_rfl)))
                   refine value_ (w1 := w') (v := .bool (t213.toList == t217.toList)) (by rfl) rfl ?_ ?_
                   ·go_simp
                    (try simp only [i64_w])
                    try rfl
                   refine hK.out _ _ ⟨v215, (by rw [ha.out]; exact putSel_upk 19 hb_ rfl rfl rfl), fun h0_ => absurd ((hon 22 (by kernel_rfl)).symm.trans h0_) (by decide), Q_BK203, Q_HB, Q_HO216, Q_BK196_e22⟩
                  exact steps_nil
                 rintro b a w70 hall ⟨v215, ha, Q_BK196, Q_BK203, Q_HB, Q_HO216, Q_BK196_e22⟩
                 clear Zc Zb HB
                 have hb0_ := hall 0 (by kernel_rfl)
                 have hb4_ := hall 4 (by kernel_rfl)
                 have hb5_ := hall 5 (by kernel_rfl)
                 have hb6_ := hall 6 (by kernel_rfl)
                 have hb7_ := hall 7 (by kernel_rfl)
                 have hb8_ := hall 8 (by kernel_rfl)
                 have hb9_ := hall 9 (by kernel_rfl)
                 have hb10_ := hall 10 (by kernel_rfl)
                 have hb11_ := hall 11 (by kernel_rfl)
                 have hb12_ := hall 12 (by kernel_rfl)
                 have hb13_ := hall 13 (by kernel_rfl)
                 have hb14_ := hall 14 (by kernel_rfl)
                 have hb15_ := hall 15 (by kernel_rfl)
                 have hb16_ := hall 16 (by kernel_rfl)
                 have hb17_ := hall 17 (by kernel_rfl)
                 have hb18_ := hall 18 (by kernel_rfl)
                 have hb19_ := hall 19 (by kernel_rfl)
                 have hb20_ := hall 20 (by kernel_rfl)
                 have hb21_ := hall 21 (by kernel_rfl)
                 have hb22_ := hall 22 (by kernel_rfl)
                 have hb23_ := hall 23 (by kernel_rfl)
                 subst ha
                 simp only [putSel, hb0_, hb4_, hb5_, hb6_, hb7_, hb8_, hb9_, hb10_, hb11_, hb12_, hb13_, hb14_, hb15_, hb16_, hb17_, hb18_, hb19_, hb20_, hb21_, hb22_, hb23_, if_true, Act.put, zs, zz, zt]
                 clear Q_BK196
                 have Zb := zm Q_BK203
                 clear Q_BK203
                 have HB := zm Q_HB
                 clear Q_HB
                 have Zg := zm (Q_HO216 hb18_)
                 clear Q_HO216
                 have Zc := zm (Q_BK196_e22 hb22_)
                 clear Q_BK196_e22
                 clear hall hb0_ hb4_ hb5_ hb6_ hb7_ hb8_ hb9_ hb10_ hb11_ hb12_ hb13_ hb14_ hb15_ hb16_ hb17_ hb18_ hb19_ hb20_ hb21_ hb22_ hb23_
                 try go_wp2
                 refine bodyPost_ret (results_ct rfl _ _ gb196 23 #[.int .i64 x16_1, .int .i64 x204001_16, .int .i64 x204002_16, .string x204003_16] (0, 0) _ rfl (zg_1 Zc.out) Tryd.underlying23 rfl (by kernel_rfl)) rfl ?_
                 exact ⟨by first | rfl | (simp [errW_none, errW_some] <;> rfl) | (simp [*, errW_none, errW_some] <;> rfl), zg_3 HB.out Ze.out Zf.out⟩
                ·replace c55 := Bool.eq_false_iff.mpr c55
                 subst c55
                 have H1 : (some (x16_1, x204001_16, x204002_16, x204003_16, false)) = some (r1, r2, r3, r4, r5) := by rw [if_neg (show ¬ (false = true) by decide)] at H; exact H
                 clear H
                 have H := H1
                 clear H1
                 simp only [Option.some.injEq, Prod.mk.injEq] at H
                 obtain ⟨rfl, rfl, rfl, rfl, rfl⟩ := H
                 try go_wp2
                 have n0_ := zm (blk_drew Zc.out)
                 have n1_ := zm (blk_drew Zb.out)
                 have n2_ := zm (below_drew1 HB.out)
                 clear Zc
                 clear Zb
                 clear HB
                 have Zc := n0_
                 have Zb := n1_
                 have HB := n2_
                 clear n0_ n1_ n2_
                 refine start_ (n := 24) (S := fun w' => w'.cell? ⟨gb203, 0, none⟩ = some (.int .i64 x16_1) ∧ w'.cell? ⟨gb203, 1, none⟩ = some (.int .i64 x204001_16) ∧ w'.cell? ⟨gb203, 2, none⟩ = some (.int .i64 x204002_16) ∧ w'.cell? ⟨gb203, 3, none⟩ = some (.string x204003_16)) (ds := []) #[false, false, false, false, false, false, false, false, false, false, false, false, false, false, false, false, false, false, false, false, false, false, false, false] (by kernel_rfl) rfl rfl ⟨(blk_cell Zb.out 0).trans rfl, (blk_cell Zb.out 1).trans rfl, (blk_cell Zb.out 2).trans rfl, (blk_cell Zb.out 3).trans rfl⟩ (fun hHeld => ?_); refine with_tabW impl_reqOf.tab15 impl_reqOf.bits15 (fun HT_ HW_ => ?_)
                 generalize wc.drew = w71 at Zc Zb HB hHeld ⊢
                 refine pure_ (i := 1) (N := some 78) (v := ?_) (a' := ?_) #[false, true, false, false, false, false, false, false, false, false, false, false, false, false, false, false, false, false, false, false, false, false, false, false] rfl rfl (any_of HT_.out (by kernel_rfl)) (fun _ _ _ h => h) (Or.inl ⟨by rfl, ?_⟩) ?_ ?_
                 rotate_left
                 ·intro w'
                  go_simp
                  with_reducible rfl
                 rotate_left
                 ·simp only [Act.put, zs, zz, zt, i64_w, i32_w]
                  rfl
                 refine pure_ (i := 2) (N := some 79) (v := ?_) (a' := ?_) #[false, true, true, false, false, false, false, false, false, false, false, false, false, false, false, false, false, false, false, false, false, false, false, false] rfl rfl (any_of HT_.out (by kernel_rfl)) (fun _ _ _ h => h) (Or.inl ⟨by rfl, ?_⟩) ?_ ?_
                 rotate_left
                 ·intro w'
                  go_simp
                  with_reducible rfl
                 rotate_left
                 ·simp only [Act.put, zs, zz, zt, i64_w, i32_w]
                  rfl
                 refine pure_ (i := 3) (N := some 80) (v := ?_) (a' := ?_) #[false, true, true, true, false, false, false, false, false, false, false, false, false, false, false, false, false, false, false, false, false, false, false, false] rfl rfl (any_of HT_.out (by kernel_rfl)) (fun _ _ _ h => h) (Or.inl ⟨by rfl, ?_⟩) ?_ ?_
                 rotate_left
                 ·intro w'
                  go_simp
                  with_reducible rfl
                 rotate_left
                 ·simp only [Act.put, zs, zz, zt, i64_w, i32_w]
                  rfl
                 refine pure_ (i := 4) (N := some 81) (v := ?_) (a' := ?_) #[false, true, true, true, true, false, false, false, false, false, false, false, false, false, false, false, false, false, false, false, false, false, false, false] rfl rfl (any_of HT_.out (by kernel_rfl)) (fun _ _ _ h => h) (Or.inl ⟨by rfl, ?_⟩) ?_ ?_
                 rotate_left
                 ·intro w'
                  go_simp
                  with_reducible rfl
                 rotate_left
                 ·simp only [Act.put, zs, zz, zt, i64_w, i32_w]
                  rfl
                 refine pure_ (i := 5) (N := some 82) (v := ?_) (a' := ?_) #[false, true, true, true, true, true, false, false, false, false, false, false, false, false, false, false, false, false, false, false, false, false, false, false] rfl rfl (any_of HT_.out (by kernel_rfl)) (fun _ _ _ h => h) (Or.inl ⟨by rfl, ?_⟩) ?_ ?_
                 rotate_left
                 ·intro w'
                  go_simp
                  with_reducible rfl
                 rotate_left
                 ·simp only [Act.put, zs, zz, zt, i64_w, i32_w]
                  rfl
                 refine take_ (i := 0) (N := some 77) (v := ?_) (a' := ?_) #[true, true, true, true, true, true, false, false, false, false, false, false, false, false, false, false, false, false, false, false, false, false, false, false] rfl rfl (take_ofW HT_.out HW_.out (by kernel_rfl)) (fun _ _ _ h => h) (Or.inl ⟨by rfl, ?_⟩) hHeld ?_ ?_
                 rotate_left
                 ·rintro w' ⟨s0, s1, s2, s3⟩
                  go_simp
                  with_reducible rfl
                 rotate_left
                 ·simp only [Act.put, zs, zz, zt, i64_w, i32_w]
                  rfl
                 refine take_ (i := 6) (N := some 83) (v := ?_) (a' := ?_) #[true, true, true, true, true, true, true, false, false, false, false, false, false, false, false, false, false, false, false, false, false, false, false, false] rfl rfl (take_ofW HT_.out HW_.out (by kernel_rfl)) (fun _ _ _ h => h) (Or.inl ⟨by rfl, ?_⟩) hHeld ?_ ?_
                 rotate_left
                 ·rintro w' ⟨s0, s1, s2, s3⟩
                  go_simp
                  with_reducible rfl
                 rotate_left
                 ·simp only [Act.put, zs, zz, zt, i64_w, i32_w]
                  rfl
                 refine one_ (i := 7) (N := some 84) #[true, true, true, true, true, true, true, true, false, false, false, false, false, false, false, false, false, false, false, false, false, false, false, false] rfl rfl (one_of HT_.out (by kernel_rfl)) (by decide) (fun K hK => ?_)
                 refine goes_ Tryd.func36 (by kernel_rfl) rfl #[.agg #[.int .i64 x16_1, .int .i64 x204001_16, .int .i64 x204002_16, .string x204003_16]] (by first | rfl | exact wanted_on rfl rfl rfl (e98.trans (by first | rfl | (simp [*]; done)))) rfl rfl zq ?_
                 with_reducible refine (impl_ReqOK.calls kj16 x16_1 x204001_16 x204002_16 x204003_16 true _ A52.out).mono ?_
                 rintro e w72 ⟨rfl, hb⟩
                 refine ⟨_, rfl, ?_⟩
                 have n0_ := zm (blk_below (g := gb196) (o := .cells #[.int .i64 x197000_1, .int .i64 x197001_1, .int .i64 x197002_1, .string x197003_1] 23 (0, 0)) (zg_1 Zc.out) hb)
                 have n1_ := zm (blk_below (g := gb203) (o := .cells #[.int .i64 x16_1, .int .i64 x204001_16, .int .i64 x204002_16, .string x204003_16] 23 (0, 0)) (zg_1 Zb.out) hb)
                 have n2_ := zm (below_step (zg_3 HB.out Ze.out Zf.out) hb)
                 clear Zc
                 clear Zb
                 clear HB
                 have Zc := n0_
                 have Zb := n1_
                 have HB := n2_
                 clear n0_ n1_ n2_
                 (try clear hb)
                 (try clear hb2)
                 (try clear hk)
                 (try clear hi)
                 refine hK.out _ _ ⟨(blk_cell Zb.out 0).trans rfl, (blk_cell Zb.out 1).trans rfl, (blk_cell Zb.out 2).trans rfl, (blk_cell Zb.out 3).trans rfl⟩ (fun hHeld => ?_)
                 clear hK K
                 refine norm_ (a' := ?_) ?_ ?_
                 rotate_left
                 ·show Act.put _ (some 84) _ = _
                  simp only [Act.put, zs, zz, zt, i64_w, i32_w]
                  rfl
                 refine pure_ (i := 8) (N := some 85) (v := ?_) (a' := ?_) #[true, true, true, true, true, true, true, true, true, false, false, false, false, false, false, false, false, false, false, false, false, false, false, false] rfl rfl (any_of HT_.out (by kernel_rfl)) (fun _ _ _ h => h) (Or.inl ⟨by rfl, ?_⟩) ?_ ?_
                 rotate_left
                 ·intro w'
                  go_simp
                  with_reducible rfl
                 rotate_left
                 ·simp only [Act.put, zs, zz, zt, i64_w, i32_w]
                  rfl
                 refine pure_ (i := 9) (N := some 86) (v := ?_) (a' := ?_) #[true, true, true, true, true, true, true, true, true, true, false, false, false, false, false, false, false, false, false, false, false, false, false, false] rfl rfl (any_of HT_.out (by kernel_rfl)) (fun _ _ _ h => h) (Or.inl ⟨by rfl, ?_⟩) ?_ ?_
                 rotate_left
                 ·intro w'
                  go_simp
                  with_reducible rfl
                 rotate_left
                 ·simp only [Act.put, zs, zz, zt, i64_w, i32_w]
                  rfl
                 refine take_ (i := 10) (N := some 87) (v := ?_) (a' := ?_) #[true, true, true, true, true, true, true, true, true, true, true, false, false, false, false, false, false, false, false, false, false, false, false, false] rfl rfl (take_ofW HT_.out HW_.out (by kernel_rfl)) (fun _ _ _ h => h) (Or.inl ⟨by rfl, ?_⟩) hHeld ?_ ?_
                 rotate_left
                 ·rintro w' ⟨s0, s1, s2, s3⟩
                  go_simp
                  with_reducible rfl
                 rotate_left
                 ·simp only [Act.put, zs, zz, zt, i64_w, i32_w]
                  rfl
                 refine one_ (i := 11) (N := some 88) #[true, true, true, true, true, true, true, true, true, true, true, true, false, false, false, false, false, false, false, false, false, false, false, false] rfl rfl (one_of HT_.out (by kernel_rfl)) (by decide) (fun K hK => ?_)
                 refine goes_ Tryd.func37 (by kernel_rfl) rfl #[.agg #[.int .i64 x16_1, .int .i64 x204001_16, .int .i64 x204002_16, .string x204003_16]] (by first | rfl | exact wanted_on rfl rfl rfl (e98.trans (by first | rfl | (simp [*]; done)))) rfl rfl zq ?_
                 with_reducible refine (impl_Req_isTold.calls kj16 x16_1 x204001_16 x204002_16 x204003_16 false _ A54.out).mono ?_
                 rintro e w73 ⟨rfl, hb⟩
                 refine ⟨_, rfl, ?_⟩
                 have n0_ := zm (blk_below (g := gb196) (o := .cells #[.int .i64 x197000_1, .int .i64 x197001_1, .int .i64 x197002_1, .string x197003_1] 23 (0, 0)) (zg_1 Zc.out) hb)
                 have n1_ := zm (blk_below (g := gb203) (o := .cells #[.int .i64 x16_1, .int .i64 x204001_16, .int .i64 x204002_16, .string x204003_16] 23 (0, 0)) (zg_1 Zb.out) hb)
                 have n2_ := zm (below_step (zg_3 HB.out Ze.out Zf.out) hb)
                 clear Zc
                 clear Zb
                 clear HB
                 have Zc := n0_
                 have Zb := n1_
                 have HB := n2_
                 clear n0_ n1_ n2_
                 (try clear hb)
                 (try clear hb2)
                 (try clear hk)
                 (try clear hi)
                 refine hK.out _ _ ⟨(blk_cell Zb.out 0).trans rfl, (blk_cell Zb.out 1).trans rfl, (blk_cell Zb.out 2).trans rfl, (blk_cell Zb.out 3).trans rfl⟩ (fun hHeld => ?_)
                 clear hK K
                 refine norm_ (a' := ?_) ?_ ?_
                 rotate_left
                 ·show Act.put _ (some 88) _ = _
                  simp only [Act.put, zs, zz, zt, i64_w, i32_w]
                  rfl
                 refine pure_ (i := 12) (N := some 89) (v := ?_) (a' := ?_) #[true, true, true, true, true, true, true, true, true, true, true, true, true, false, false, false, false, false, false, false, false, false, false, false] rfl rfl (any_of HT_.out (by kernel_rfl)) (fun _ _ _ h => h) (Or.inl ⟨by rfl, ?_⟩) ?_ ?_
                 rotate_left
                 ·intro w'
                  go_simp
                  with_reducible rfl
                 rotate_left
                 ·simp only [Act.put, zs, zz, zt, i64_w, i32_w]
                  rfl
                 refine pure_ (i := 13) (N := some 90) (v := ?_) (a' := ?_) #[true, true, true, true, true, true, true, true, true, true, true, true, true, true, false, false, false, false, false, false, false, false, false, false] rfl rfl (any_of HT_.out (by kernel_rfl)) (fun _ _ _ h => h) (Or.inl ⟨by rfl, ?_⟩) ?_ ?_
                 rotate_left
                 ·intro w'
                  go_simp
                  with_reducible rfl
                 rotate_left
                 ·simp only [Act.put, zs, zz, zt, i64_w, i32_w]
                  rfl
                 refine pure_ (i := 14) (N := some 91) (v := undef) (a' := ?_) #[true, true, true, true, true, true, true, true, true, true, true, true, true, true, true, false, false, false, false, false, false, false, false, false] rfl rfl (any_of HT_.out (by kernel_rfl)) (fun _ _ _ h => h) (Or.inr ⟨by rfl, rfl⟩) ?_ ?_
                 rotate_left
                 ·simp only [Act.put, zs, zz, zt, i64_w, i32_w]
                  rfl
                 refine pure_ (i := 15) (N := some 92) (v := undef) (a' := ?_) #[true, true, true, true, true, true, true, true, true, true, true, true, true, true, true, true, false, false, false, false, false, false, false, false] rfl rfl (any_of HT_.out (by kernel_rfl)) (fun _ _ _ h => h) (Or.inr ⟨by rfl, rfl⟩) ?_ ?_
                 rotate_left
                 ·simp only [Act.put, zs, zz, zt, i64_w, i32_w]
                  rfl
                 refine pure_ (i := 16) (N := some 93) (v := undef) (a' := ?_) #[true, true, true, true, true, true, true, true, true, true, true, true, true, true, true, true, true, false, false, false, false, false, false, false] rfl rfl (any_of HT_.out (by kernel_rfl)) (fun _ _ _ h => h) (Or.inr ⟨by rfl, rfl⟩) ?_ ?_
                 rotate_left
                 ·simp only [Act.put, zs, zz, zt, i64_w, i32_w]
                  rfl
                 refine pure_ (i := 17) (N := some 94) (v := undef) (a' := ?_) #[true, true, true, true, true, true, true, true, true, true, true, true, true, true, true, true, true, true, false, false, false, false, false, false] rfl rfl (any_of HT_.out (by kernel_rfl)) (fun _ _ _ h => h) (Or.inr ⟨by rfl, rfl⟩) ?_ ?_
                 rotate_left
                 ·simp only [Act.put, zs, zz, zt, i64_w, i32_w]
                  rfl
                 refine pure_ (i := 18) (N := some 95) (v := undef) (a' := ?_) #[true, true, true, true, true, true, true, true, true, true, true, true, true, true, true, true, true, true, true, false, false, false, false, false] rfl rfl (any_of HT_.out (by kernel_rfl)) (fun _ _ _ h => h) (Or.inr ⟨by rfl, rfl⟩) ?_ ?_
                 rotate_left
                 ·simp only [Act.put, zs, zz, zt, i64_w, i32_w]
                  rfl
                 refine pure_ (i := 19) (N := some 96) (v := undef) (a' := ?_) #[true, true, true, true, true, true, true, true, true, true, true, true, true, true, true, true, true, true, true, true, false, false, false, false] rfl rfl (any_of HT_.out (by kernel_rfl)) (fun _ _ _ h => h) (Or.inr ⟨by rfl, rfl⟩) ?_ ?_
                 rotate_left
                 ·simp only [Act.put, zs, zz, zt, i64_w, i32_w]
                  rfl
                 refine pure_ (i := 20) (N := some 97) (v := undef) (a' := ?_) #[true, true, true, true, true, true, true, true, true, true, true, true, true, true, true, true, true, true, true, true, true, false, false, false] rfl rfl (any_of HT_.out (by kernel_rfl)) (fun _ _ _ h => h) (Or.inr ⟨by rfl, rfl⟩) ?_ ?_
                 rotate_left
                 ·simp only [Act.put, zs, zz, zt, i64_w, i32_w]
                  rfl
                 refine pure_ (i := 21) (N := some 98) (v := ?_) (a' := ?_) #[true, true, true, true, true, true, true, true, true, true, true, true, true, true, true, true, true, true, true, true, true, true, false, false] rfl rfl (any_of HT_.out (by kernel_rfl)) (fun _ _ _ h => h) (Or.inl ⟨by rfl, ?_⟩) ?_ ?_
                 rotate_left
                 ·intro w'
                  go_simp
                  with_reducible rfl
                 rotate_left
                 ·simp only [Act.put, zs, zz, zt, i64_w, i32_w]
                  rfl
                 refine one_ (i := 22) (N := none) #[true, true, true, true, true, true, true, true, true, true, true, true, true, true, true, true, true, true, true, true, true, true, true, false] rfl rfl (one_of HT_.out (by kernel_rfl)) (by decide) (fun K hK => ?_)
                 have hs74 : w73.cell? ⟨gb196, 0, none⟩ = some (.int .i64 x197000_1) := (blk_cell Zc.out 0).trans rfl
                 have hfs74 := blk_frozen Zc.out 0
                 have hns74_1 := Za.out
                 have hms74_1 := Zd.out
                 have hs75 : w73.cell? ⟨gb196, 1, none⟩ = some (.int .i64 x197001_1) := (blk_cell Zc.out 1).trans rfl
                 have hfs75 := blk_frozen Zc.out 1
                 have hns75_1 := Za.out
                 have hms75_1 := Zd.out
                 have hs76 : w73.cell? ⟨gb196, 2, none⟩ = some (.int .i64 x197002_1) := (blk_cell Zc.out 2).trans rfl
                 have hfs76 := blk_frozen Zc.out 2
                 have hns76_1 := Za.out
                 have hms76_1 := Zd.out
                 have hs77 : w73.cell? ⟨gb196, 3, none⟩ = some (.string x197003_1) := (blk_cell Zc.out 3).trans rfl
                 have hfs77 := blk_frozen Zc.out 3
                 have hns77_1 := Za.out
                 have hms77_1 := Zd.out
                 refine skip_ (w1 := ?_) (by rfl) rfl ?_ ?_
                 rotate_left
                 ·go_simp
                  rfl
                 refine hK.out _ _ ⟨((cell_far (p := ⟨gb196, _, none⟩) Za.out _).trans (((cell_far (p := ⟨gb196, _, none⟩) Za.out _).trans (((cell_far (p := ⟨gb196, _, none⟩) Za.out _).trans (((cell_far (p := ⟨gb196, _, none⟩) Za.out _).trans (hHeld.1)))))))), ((cell_far (p := ⟨gb196, _, none⟩) Za.out _).trans (((cell_far (p := ⟨gb196, _, none⟩) Za.out _).trans (((cell_far (p := ⟨gb196, _, none⟩) Za.out _).trans (((cell_far (p := ⟨gb196, _, none⟩) Za.out _).trans (hHeld.2.1)))))))), ((cell_far (p := ⟨gb196, _, none⟩) Za.out _).trans (((cell_far (p := ⟨gb196, _, none⟩) Za.out _).trans (((cell_far (p := ⟨gb196, _, none⟩) Za.out _).trans (((cell_far (p := ⟨gb196, _, none⟩) Za.out _).trans (hHeld.2.2.1)))))))), ((cell_far (p := ⟨gb196, _, none⟩) Za.out _).trans (((cell_far (p := ⟨gb196, _, none⟩) Za.out _).trans (((cell_far (p := ⟨gb196, _, none⟩) Za.out _).trans (((cell_far (p := ⟨gb196, _, none⟩) Za.out _).trans (hHeld.2.2.2))))))))⟩ (fun hHeld => ?_)
                 clear hK K
                 refine pure_ (i := 23) (N := some 3) (v := ?_) (a' := ?_) #[true, true, true, true, true, true, true, true, true, true, true, true, true, true, true, true, true, true, true, true, true, true, true, true] rfl rfl (any_of HT_.out (by kernel_rfl)) (fun _ _ _ h => h) (Or.inl ⟨by rfl, ?_⟩) ?_ ?_
                 rotate_left
                 ·intro w'
                  go_simp
                  with_reducible rfl
                 rotate_left
                 ·simp only [Act.put, zs, zz, zt, i64_w, i32_w]
                  rfl
                 refine done_ (done_of HT_.out (by kernel_rfl)) ?_
                 try go_wp2
                 refine bodyPost_ret (results_ct rfl _ _ gb196 23 #[.int .i64 x16_1, .int .i64 x204001_16, .int .i64 x204002_16, .string x204003_16] (0, 0) _ rfl (by (with_reducible repeat (first | refine blk_drewN ?_ _ | refine blk_drew ?_ | refine blk_alloc ?_ _)); refine blk_put (cs := #[.int .i64 x16_1, .int .i64 x204001_16, .int .i64 x204002_16, .string x197003_1]) ?_ 3 _ rfl; (with_reducible repeat (first | refine blk_drewN ?_ _ | refine blk_drew ?_ | refine blk_alloc ?_ _)); refine blk_put (cs := #[.int .i64 x16_1, .int .i64 x204001_16, .int .i64 x197002_1, .string x197003_1]) ?_ 2 _ rfl; (with_reducible repeat (first | refine blk_drewN ?_ _ | refine blk_drew ?_ | refine blk_alloc ?_ _)); refine blk_put (cs := #[.int .i64 x16_1, .int .i64 x197001_1, .int .i64 x197002_1, .string x197003_1]) ?_ 1 _ rfl; (with_reducible repeat (first | refine blk_drewN ?_ _ | refine blk_drew ?_ | refine blk_alloc ?_ _)); refine blk_put (cs := #[.int .i64 x197000_1, .int .i64 x197001_1, .int .i64 x197002_1, .string x197003_1]) ?_ 0 _ rfl; (with_reducible repeat (first | refine blk_drewN ?_ _ | refine blk_drew ?_ | refine blk_alloc ?_ _)); exact Zc.out) Tryd.underlying23 rfl (by kernel_rfl)) rfl ?_
                 exact ⟨by first | rfl | (simp [errW_none, errW_some] <;> rfl) | (simp [*, errW_none, errW_some] <;> rfl), zg_3 HB.out Ze.out Zf.out⟩
               ·replace c53 := Bool.eq_false_iff.mpr c53
                subst c53
                have H1 : (some (x16_1, x204001_16, x204002_16, x204003_16, false)) = some (r1, r2, r3, r4, r5) := by rw [if_neg (show ¬ (false = true) by decide)] at H; exact H
                clear H
                have H := H1
                clear H1
                simp only [Option.some.injEq, Prod.mk.injEq] at H
                obtain ⟨rfl, rfl, rfl, rfl, rfl⟩ := H
                try go_wp2
                have n0_ := zm (blk_drew Zc.out)
                have n1_ := zm (blk_drew Zb.out)
                have n2_ := zm (below_drew1 HB.out)
                clear Zc
                clear Zb
                clear HB
                have Zc := n0_
                have Zb := n1_
                have HB := n2_
                clear n0_ n1_ n2_
                refine start_ (n := 24) (S := fun w' => w'.cell? ⟨gb203, 0, none⟩ = some (.int .i64 x16_1) ∧ w'.cell? ⟨gb203, 1, none⟩ = some (.int .i64 x204001_16) ∧ w'.cell? ⟨gb203, 2, none⟩ = some (.int .i64 x204002_16) ∧ w'.cell? ⟨gb203, 3, none⟩ = some (.string x204003_16)) (ds := []) #[false, false, false, false, false, false, false, false, false, false, false, false, false, false, false, false, false, false, false, false, false, false, false, false] (by kernel_rfl) rfl rfl ⟨(blk_cell Zb.out 0).trans rfl, (blk_cell Zb.out 1).trans rfl, (blk_cell Zb.out 2).trans rfl, (blk_cell Zb.out 3).trans rfl⟩ (fun hHeld => ?_); refine with_tabW impl_reqOf.tab15 impl_reqOf.bits15 (fun HT_ HW_ => ?_)
                generalize wc.drew = w78 at Zc Zb HB hHeld ⊢
                refine pure_ (i := 1) (N := some 78) (v := ?_) (a' := ?_) #[false, true, false, false, false, false, false, false, false, false, false, false, false, false, false, false, false, false, false, false, false, false, false, false] rfl rfl (any_of HT_.out (by kernel_rfl)) (fun _ _ _ h => h) (Or.inl ⟨by rfl, ?_⟩) ?_ ?_
                rotate_left
                ·intro w'
                 go_simp
                 with_reducible rfl
                rotate_left
                ·simp only [Act.put, zs, zz, zt, i64_w, i32_w]
                 rfl
                refine pure_ (i := 2) (N := some 79) (v := ?_) (a' := ?_) #[false, true, true, false, false, false, false, false, false, false, false, false, false, false, false, false, false, false, false, false, false, false, false, false] rfl rfl (any_of HT_.out (by kernel_rfl)) (fun _ _ _ h => h) (Or.inl ⟨by rfl, ?_⟩) ?_ ?_
                rotate_left
                ·intro w'
                 go_simp
                 with_reducible rfl
                rotate_left
                ·simp only [Act.put, zs, zz, zt, i64_w, i32_w]
                 rfl
                refine pure_ (i := 3) (N := some 80) (v := ?_) (a' := ?_) #[false, true, true, true, false, false, false, false, false, false, false, false, false, false, false, false, false, false, false, false, false, false, false, false] rfl rfl (any_of HT_.out (by kernel_rfl)) (fun _ _ _ h => h) (Or.inl ⟨by rfl, ?_⟩) ?_ ?_
                rotate_left
                ·intro w'
                 go_simp
                 with_reducible rfl
                rotate_left
                ·simp only [Act.put, zs, zz, zt, i64_w, i32_w]
                 rfl
                refine pure_ (i := 4) (N := some 81) (v := ?_) (a' := ?_) #[false, true, true, true, true, false, false, false, false, false, false, false, false, false, false, false, false, false, false, false, false, false, false, false] rfl rfl (any_of HT_.out (by kernel_rfl)) (fun _ _ _ h => h) (Or.inl ⟨by rfl, ?_⟩) ?_ ?_
                rotate_left
                ·intro w'
                 go_simp
                 with_reducible rfl
                rotate_left
                ·simp only [Act.put, zs, zz, zt, i64_w, i32_w]
                 rfl
                refine pure_ (i := 5) (N := some 82) (v := ?_) (a' := ?_) #[false, true, true, true, true, true, false, false, false, false, false, false, false, false, false, false, false, false, false, false, false, false, false, false] rfl rfl (any_of HT_.out (by kernel_rfl)) (fun _ _ _ h => h) (Or.inl ⟨by rfl, ?_⟩) ?_ ?_
                rotate_left
                ·intro w'
                 go_simp
                 with_reducible rfl
                rotate_left
                ·simp only [Act.put, zs, zz, zt, i64_w, i32_w]
                 rfl
                refine take_ (i := 0) (N := some 77) (v := ?_) (a' := ?_) #[true, true, true, true, true, true, false, false, false, false, false, false, false, false, false, false, false, false, false, false, false, false, false, false] rfl rfl (take_ofW HT_.out HW_.out (by kernel_rfl)) (fun _ _ _ h => h) (Or.inl ⟨by rfl, ?_⟩) hHeld ?_ ?_
                rotate_left
                ·rintro w' ⟨s0, s1, s2, s3⟩
                 go_simp
                 with_reducible rfl
                rotate_left
                ·simp only [Act.put, zs, zz, zt, i64_w, i32_w]
                 rfl
                refine take_ (i := 6) (N := some 83) (v := ?_) (a' := ?_) #[true, true, true, true, true, true, true, false, false, false, false, false, false, false, false, false, false, false, false, false, false, false, false, false] rfl rfl (take_ofW HT_.out HW_.out (by kernel_rfl)) (fun _ _ _ h => h) (Or.inl ⟨by rfl, ?_⟩) hHeld ?_ ?_
                rotate_left
                ·rintro w' ⟨s0, s1, s2, s3⟩
                 go_simp
                 with_reducible rfl
                rotate_left
                ·simp only [Act.put, zs, zz, zt, i64_w, i32_w]
                 rfl
                refine one_ (i := 7) (N := some 84) #[true, true, true, true, true, true, true, true, false, false, false, false, false, false, false, false, false, false, false, false, false, false, false, false] rfl rfl (one_of HT_.out (by kernel_rfl)) (by decide) (fun K hK => ?_)
                refine goes_ Tryd.func36 (by kernel_rfl) rfl #[.agg #[.int .i64 x16_1, .int .i64 x204001_16, .int .i64 x204002_16, .string x204003_16]] (by first | rfl | exact wanted_on rfl rfl rfl (e98.trans (by first | rfl | (simp [*]; done)))) rfl rfl zq ?_
                with_reducible refine (impl_ReqOK.calls kj16 x16_1 x204001_16 x204002_16 x204003_16 false _ A52.out).mono ?_
                rintro e w79 ⟨rfl, hb⟩
                refine ⟨_, rfl, ?_⟩
                have n0_ := zm (blk_below (g := gb196) (o := .cells #[.int .i64 x197000_1, .int .i64 x197001_1, .int .i64 x197002_1, .string x197003_1] 23 (0, 0)) (zg_1 Zc.out) hb)
                have n1_ := zm (blk_below (g := gb203) (o := .cells #[.int .i64 x16_1, .int .i64 x204001_16, .int .i64 x204002_16, .string x204003_16] 23 (0, 0)) (zg_1 Zb.out) hb)
                have n2_ := zm (below_step (zg_3 HB.out Ze.out Zf.out) hb)
                clear Zc
                clear Zb
                clear HB
                have Zc := n0_
                have Zb := n1_
                have HB := n2_
                clear n0_ n1_ n2_
                (try clear hb)
                (try clear hb2)
                (try clear hk)
                (try clear hi)
                refine hK.out _ _ ⟨(blk_cell Zb.out 0).trans rfl, (blk_cell Zb.out 1).trans rfl, (blk_cell Zb.out 2).trans rfl, (blk_cell Zb.out 3).trans rfl⟩ (fun hHeld => ?_)
                clear hK K
                refine norm_ (a' := ?_) ?_ ?_
                rotate_left
                ·show Act.put _ (some 84) _ = _
                 simp only [Act.put, zs, zz, zt, i64_w, i32_w]
                 rfl
                refine pure_ (i := 8) (N := some 85) (v := ?_) (a' := ?_) #[true, true, true, true, true, true, true, true, true, false, false, false, false, false, false, false, false, false, false, false, false, false, false, false] rfl rfl (any_of HT_.out (by kernel_rfl)) (fun _ _ _ h => h) (Or.inl ⟨by rfl, ?_⟩) ?_ ?_
                rotate_left
                ·intro w'
                 go_simp
                 with_reducible rfl
                rotate_left
                ·simp only [Act.put, zs, zz, zt, i64_w, i32_w]
                 rfl
                refine pure_ (i := 9) (N := some 86) (v := ?_) (a' := ?_) #[true, true, true, true, true, true, true, true, true, true, false, false, false, false, false, false, false, false, false, false, false, false, false, false] rfl rfl (any_of HT_.out (by kernel_rfl)) (fun _ _ _ h => h) (Or.inl ⟨by rfl, ?_⟩) ?_ ?_
                rotate_left
                ·intro w'
                 go_simp
                 with_reducible rfl
                rotate_left
                ·simp only [Act.put, zs, zz, zt, i64_w, i32_w]
                 rfl
                refine pure_ (i := 10) (N := some 87) (v := undef) (a' := ?_) #[true, true, true, true, true, true, true, true, true, true, true, false, false, false, false, false, false, false, false, false, false, false, false, false] rfl rfl (any_of HT_.out (by kernel_rfl)) (fun _ _ _ h => h) (Or.inr ⟨by rfl, rfl⟩) ?_ ?_
                rotate_left
                ·simp only [Act.put, zs, zz, zt, i64_w, i32_w]
                 rfl
                refine pure_ (i := 11) (N := some 88) (v := undef) (a' := ?_) #[true, true, true, true, true, true, true, true, true, true, true, true, false, false, false, false, false, false, false, false, false, false, false, false] rfl rfl (any_of HT_.out (by kernel_rfl)) (fun _ _ _ h => h) (Or.inr ⟨by rfl, rfl⟩) ?_ ?_
                rotate_left
                ·simp only [Act.put, zs, zz, zt, i64_w, i32_w]
                 rfl
                refine pure_ (i := 12) (N := some 89) (v := ?_) (a' := ?_) #[true, true, true, true, true, true, true, true, true, true, true, true, true, false, false, false, false, false, false, false, false, false, false, false] rfl rfl (any_of HT_.out (by kernel_rfl)) (fun _ _ _ h => h) (Or.inl ⟨by rfl, ?_⟩) ?_ ?_
                rotate_left
                ·intro w'
                 go_simp
                 with_reducible rfl
                rotate_left
                ·simp only [Act.put, zs, zz, zt, i64_w, i32_w]
                 rfl
                refine pure_ (i := 13) (N := some 90) (v := ?_) (a' := ?_) #[true, true, true, true, true, true, true, true, true, true, true, true, true, true, false, false, false, false, false, false, false, false, false, false] rfl rfl (any_of HT_.out (by kernel_rfl)) (fun _ _ _ h => h) (Or.inl ⟨by rfl, ?_⟩) ?_ ?_
                rotate_left
                ·intro w'
                 go_simp
                 with_reducible rfl
                rotate_left
                ·simp only [Act.put, zs, zz, zt, i64_w, i32_w]
                 rfl
                refine pure_ (i := 14) (N := some 91) (v := undef) (a' := ?_) #[true, true, true, true, true, true, true, true, true, true, true, true, true, true, true, false, false, false, false, false, false, false, false, false] rfl rfl (any_of HT_.out (by kernel_rfl)) (fun _ _ _ h => h) (Or.inr ⟨by rfl, rfl⟩) ?_ ?_
                rotate_left
                ·simp only [Act.put, zs, zz, zt, i64_w, i32_w]
                 rfl
                refine pure_ (i := 15) (N := some 92) (v := undef) (a' := ?_) #[true, true, true, true, true, true, true, true, true, true, true, true, true, true, true, true, false, false, false, false, false, false, false, false] rfl rfl (any_of HT_.out (by kernel_rfl)) (fun _ _ _ h => h) (Or.inr ⟨by rfl, rfl⟩) ?_ ?_
                rotate_left
                ·simp only [Act.put, zs, zz, zt, i64_w, i32_w]
                 rfl
                refine pure_ (i := 16) (N := some 93) (v := undef) (a' := ?_) #[true, true, true, true, true, true, true, true, true, true, true, true, true, true, true, true, true, false, false, false, false, false, false, false] rfl rfl (any_of HT_.out (by kernel_rfl)) (fun _ _ _ h => h) (Or.inr ⟨by rfl, rfl⟩) ?_ ?_
                rotate_left
                ·simp only [Act.put, zs, zz, zt, i64_w, i32_w]
                 rfl
                refine pure_ (i := 17) (N := some 94) (v := undef) (a' := ?_) #[true, true, true, true, true, true, true, true, true, true, true, true, true, true, true, true, true, true, false, false, false, false, false, false] rfl rfl (any_of HT_.out (by kernel_rfl)) (fun _ _ _ h => h) (Or.inr ⟨by rfl, rfl⟩) ?_ ?_
                rotate_left
                ·simp only [Act.put, zs, zz, zt, i64_w, i32_w]
                 rfl
                refine pure_ (i := 18) (N := some 95) (v := undef) (a' := ?_) #[true, true, true, true, true, true, true, true, true, true, true, true, true, true, true, true, true, true, true, false, false, false, false, false] rfl rfl (any_of HT_.out (by kernel_rfl)) (fun _ _ _ h => h) (Or.inr ⟨by rfl, rfl⟩) ?_ ?_
                rotate_left
                ·simp only [Act.put, zs, zz, zt, i64_w, i32_w]
                 rfl
                refine pure_ (i := 19) (N := some 96) (v := undef) (a' := ?_) #[true, true, true, true, true, true, true, true, true, true, true, true, true, true, true, true, true, true, true, true, false, false, false, false] rfl rfl (any_of HT_.out (by kernel_rfl)) (fun _ _ _ h => h) (Or.inr ⟨by rfl, rfl⟩) ?_ ?_
                rotate_left
                ·simp only [Act.put, zs, zz, zt, i64_w, i32_w]
                 rfl
                refine pure_ (i := 20) (N := some 97) (v := undef) (a' := ?_) #[true, true, true, true, true, true, true, true, true, true, true, true, true, true, true, true, true, true, true, true, true, false, false, false] rfl rfl (any_of HT_.out (by kernel_rfl)) (fun _ _ _ h => h) (Or.inr ⟨by rfl, rfl⟩) ?_ ?_
                rotate_left
                ·simp only [Act.put, zs, zz, zt, i64_w, i32_w]
                 rfl
                refine pure_ (i := 21) (N := some 98) (v := ?_) (a' := ?_) #[true, true, true, true, true, true, true, true, true, true, true, true, true, true, true, true, true, true, true, true, true, true, false, false] rfl rfl (any_of HT_.out (by kernel_rfl)) (fun _ _ _ h => h) (Or.inl ⟨by rfl, ?_⟩) ?_ ?_
                rotate_left
                ·intro w'
                 go_simp
                 with_reducible rfl
                rotate_left
                ·simp only [Act.put, zs, zz, zt, i64_w, i32_w]
                 rfl
                refine one_ (i := 22) (N := none) #[true, true, true, true, true, true, true, true, true, true, true, true, true, true, true, true, true, true, true, true, true, true, true, false] rfl rfl (one_of HT_.out (by kernel_rfl)) (by decide) (fun K hK => ?_)
                have hs80 : w79.cell? ⟨gb196, 0, none⟩ = some (.int .i64 x197000_1) := (blk_cell Zc.out 0).trans rfl
                have hfs80 := blk_frozen Zc.out 0
                have hns80_1 := Za.out
                have hms80_1 := Zd.out
                have hs81 : w79.cell? ⟨gb196, 1, none⟩ = some (.int .i64 x197001_1) := (blk_cell Zc.out 1).trans rfl
                have hfs81 := blk_frozen Zc.out 1
                have hns81_1 := Za.out
                have hms81_1 := Zd.out
                have hs82 : w79.cell? ⟨gb196, 2, none⟩ = some (.int .i64 x197002_1) := (blk_cell Zc.out 2).trans rfl
                have hfs82 := blk_frozen Zc.out 2
                have hns82_1 := Za.out
                have hms82_1 := Zd.out
                have hs83 : w79.cell? ⟨gb196, 3, none⟩ = some (.string x197003_1) := (blk_cell Zc.out 3).trans rfl
                have hfs83 := blk_frozen Zc.out 3
                have hns83_1 := Za.out
                have hms83_1 := Zd.out
                refine skip_ (w1 := ?_) (by rfl) rfl ?_ ?_
                rotate_left
                ·go_simp
                 rfl
                refine hK.out _ _ ⟨((cell_far (p := ⟨gb196, _, none⟩) Za.out _).trans (((cell_far (p := ⟨gb196, _, none⟩) Za.out _).trans (((cell_far (p := ⟨gb196, _, none⟩) Za.out _).trans (((cell_far (p := ⟨gb196, _, none⟩) Za.out _).trans (hHeld.1)))))))), ((cell_far (p := ⟨gb196, _, none⟩) Za.out _).trans (((cell_far (p := ⟨gb196, _, none⟩) Za.out _).trans (((cell_far (p := ⟨gb196, _, none⟩) Za.out _).trans (((cell_far (p := ⟨gb196, _, none⟩) Za.out _).trans (hHeld.2.1)))))))), ((cell_far (p := ⟨gb196, _, none⟩) Za.out _).trans (((cell_far (p := ⟨gb196, _, none⟩) Za.out _).trans (((cell_far (p := ⟨gb196, _, none⟩) Za.out _).trans (((cell_far (p := ⟨gb196, _, none⟩) Za.out _).trans (hHeld.2.2.1)))))))), ((cell_far (p := ⟨gb196, _, none⟩) Za.out _).trans (((cell_far (p := ⟨gb196, _, none⟩) Za.out _).trans (((cell_far (p := ⟨gb196, _, none⟩) Za.out _).trans (((cell_far (p := ⟨gb196, _, none⟩) Za.out _).trans (hHeld.2.2.2))))))))⟩ (fun hHeld => ?_)
                clear hK K
                refine pure_ (i := 23) (N := some 3) (v := ?_) (a' := ?_) #[true, true, true, true, true, true, true, true, true, true, true, true, true, true, true, true, true, true, true, true, true, true, true, true] rfl rfl (any_of HT_.out (by kernel_rfl)) (fun _ _ _ h => h) (Or.inl ⟨by rfl, ?_⟩) ?_ ?_
                rotate_left
                ·intro w'
                 go_simp
                 with_reducible rfl
                rotate_left
                ·simp only [Act.put, zs, zz, zt, i64_w, i32_w]
                 rfl
                refine done_ (done_of HT_.out (by kernel_rfl)) ?_
                try go_wp2
                refine bodyPost_ret (results_ct rfl _ _ gb196 23 #[.int .i64 x16_1, .int .i64 x204001_16, .int .i64 x204002_16, .string x204003_16] (0, 0) _ rfl (by (with_reducible repeat (first | refine blk_drewN ?_ _ | refine blk_drew ?_ | refine blk_alloc ?_ _)); refine blk_put (cs := #[.int .i64 x16_1, .int .i64 x204001_16, .int .i64 x204002_16, .string x197003_1]) ?_ 3 _ rfl; (with_reducible repeat (first | refine blk_drewN ?_ _ | refine blk_drew ?_ | refine blk_alloc ?_ _)); refine blk_put (cs := #[.int .i64 x16_1, .int .i64 x204001_16, .int .i64 x197002_1, .string x197003_1]) ?_ 2 _ rfl; (with_reducible repeat (first | refine blk_drewN ?_ _ | refine blk_drew ?_ | refine blk_alloc ?_ _)); refine blk_put (cs := #[.int .i64 x16_1, .int .i64 x197001_1, .int .i64 x197002_1, .string x197003_1]) ?_ 1 _ rfl; (with_reducible repeat (first | refine blk_drewN ?_ _ | refine blk_drew ?_ | refine blk_alloc ?_ _)); refine blk_put (cs := #[.int .i64 x197000_1, .int .i64 x197001_1, .int .i64 x197002_1, .string x197003_1]) ?_ 0 _ rfl; (with_reducible repeat (first | refine blk_drewN ?_ _ | refine blk_drew ?_ | refine blk_alloc ?_ _)); exact Zc.out) Tryd.underlying23 rfl (by kernel_rfl)) rfl ?_
                exact ⟨by first | rfl | (simp [errW_none, errW_some] <;> rfl) | (simp [*, errW_none, errW_some] <;> rfl), zg_3 HB.out Ze.out Zf.out⟩
              ·replace c51 := Bool.eq_false_iff.mpr c51
               subst c51
               have H1 : (some (x16_1, x204001_16, x204002_16, x204003_16, false)) = some (r1, r2, r3, r4, r5) := by rw [if_neg (show ¬ (false = true) by decide)] at H; exact H
               clear H
               have H := H1
               clear H1
               simp only [Option.some.injEq, Prod.mk.injEq] at H
               obtain ⟨rfl, rfl, rfl, rfl, rfl⟩ := H
               try go_wp2
               have n0_ := zm (blk_drew Zc.out)
               have n1_ := zm (blk_drew Zb.out)
               have n2_ := zm (below_drew1 HB.out)
               clear Zc
               clear Zb
               clear HB
               have Zc := n0_
               have Zb := n1_
               have HB := n2_
               clear n0_ n1_ n2_
               refine start_ (n := 24) (S := fun w' => w'.cell? ⟨gb203, 0, none⟩ = some (.int .i64 x16_1) ∧ w'.cell? ⟨gb203, 1, none⟩ = some (.int .i64 x204001_16) ∧ w'.cell? ⟨gb203, 2, none⟩ = some (.int .i64 x204002_16) ∧ w'.cell? ⟨gb203, 3, none⟩ = some (.string x204003_16)) (ds := []) #[false, false, false, false, false, false, false, false, false, false, false, false, false, false, false, false, false, false, false, false, false, false, false, false] (by kernel_rfl) rfl rfl ⟨(blk_cell Zb.out 0).trans rfl, (blk_cell Zb.out 1).trans rfl, (blk_cell Zb.out 2).trans rfl, (blk_cell Zb.out 3).trans rfl⟩ (fun hHeld => ?_); refine with_tabW impl_reqOf.tab15 impl_reqOf.bits15 (fun HT_ HW_ => ?_)
               generalize wc.drew = w84 at Zc Zb HB hHeld ⊢
               refine pure_ (i := 1) (N := some 78) (v := ?_) (a' := ?_) #[false, true, false, false, false, false, false, false, false, false, false, false, false, false, false, false, false, false, false, false, false, false, false, false] rfl rfl (any_of HT_.out (by kernel_rfl)) (fun _ _ _ h => h) (Or.inl ⟨by rfl, ?_⟩) ?_ ?_
               rotate_left
               ·intro w'
                go_simp
                with_reducible rfl
               rotate_left
               ·simp only [Act.put, zs, zz, zt, i64_w, i32_w]
                rfl
               refine pure_ (i := 2) (N := some 79) (v := ?_) (a' := ?_) #[false, true, true, false, false, false, false, false, false, false, false, false, false, false, false, false, false, false, false, false, false, false, false, false] rfl rfl (any_of HT_.out (by kernel_rfl)) (fun _ _ _ h => h) (Or.inl ⟨by rfl, ?_⟩) ?_ ?_
               rotate_left
               ·intro w'
                go_simp
                with_reducible rfl
               rotate_left
               ·simp only [Act.put, zs, zz, zt, i64_w, i32_w]
                rfl
               refine pure_ (i := 3) (N := some 80) (v := ?_) (a' := ?_) #[false, true, true, true, false, false, false, false, false, false, false, false, false, false, false, false, false, false, false, false, false, false, false, false] rfl rfl (any_of HT_.out (by kernel_rfl)) (fun _ _ _ h => h) (Or.inl ⟨by rfl, ?_⟩) ?_ ?_
               rotate_left
               ·intro w'
                go_simp
                with_reducible rfl
               rotate_left
               ·simp only [Act.put, zs, zz, zt, i64_w, i32_w]
                rfl
               refine pure_ (i := 4) (N := some 81) (v := ?_) (a' := ?_) #[false, true, true, true, true, false, false, false, false, false, false, false, false, false, false, false, false, false, false, false, false, false, false, false] rfl rfl (any_of HT_.out (by kernel_rfl)) (fun _ _ _ h => h) (Or.inl ⟨by rfl, ?_⟩) ?_ ?_
               rotate_left
               ·intro w'
                go_simp
                with_reducible rfl
               rotate_left
               ·simp only [Act.put, zs, zz, zt, i64_w, i32_w]
                rfl
               refine pure_ (i := 5) (N := some 82) (v := ?_) (a' := ?_) #[false, true, true, true, true, true, false, false, false, false, false, false, false, false, false, false, false, false, false, false, false, false, false, false] rfl rfl (any_of HT_.out (by kernel_rfl)) (fun _ _ _ h => h) (Or.inl ⟨by rfl, ?_⟩) ?_ ?_
               rotate_left
               ·intro w'
                go_simp
                with_reducible rfl
               rotate_left
               ·simp only [Act.put, zs, zz, zt, i64_w, i32_w]
                rfl
               refine pure_ (i := 6) (N := some 83) (v := undef) (a' := ?_) #[false, true, true, true, true, true, true, false, false, false, false, false, false, false, false, false, false, false, false, false, false, false, false, false] rfl rfl (any_of HT_.out (by kernel_rfl)) (fun _ _ _ h => h) (Or.inr ⟨by rfl, rfl⟩) ?_ ?_
               rotate_left
               ·simp only [Act.put, zs, zz, zt, i64_w, i32_w]
                rfl
               refine pure_ (i := 7) (N := some 84) (v := undef) (a' := ?_) #[false, true, true, true, true, true, true, true, false, false, false, false, false, false, false, false, false, false, false, false, false, false, false, false] rfl rfl (any_of HT_.out (by kernel_rfl)) (fun _ _ _ h => h) (Or.inr ⟨by rfl, rfl⟩) ?_ ?_
               rotate_left
               ·simp only [Act.put, zs, zz, zt, i64_w, i32_w]
                rfl
               refine pure_ (i := 8) (N := some 85) (v := ?_) (a' := ?_) #[false, true, true, true, true, true, true, true, true, false, false, false, false, false, false, false, false, false, false, false, false, false, false, false] rfl rfl (any_of HT_.out (by kernel_rfl)) (fun _ _ _ h => h) (Or.inl ⟨by rfl, ?_⟩) ?_ ?_
               rotate_left
               ·intro w'
                go_simp
                with_reducible rfl
               rotate_left
               ·simp only [Act.put, zs, zz, zt, i64_w, i32_w]
                rfl
               refine pure_ (i := 9) (N := some 86) (v := ?_) (a' := ?_) #[false, true, true, true, true, true, true, true, true, true, false, false, false, false, false, false, false, false, false, false, false, false, false, false] rfl rfl (any_of HT_.out (by kernel_rfl)) (fun _ _ _ h => h) (Or.inl ⟨by rfl, ?_⟩) ?_ ?_
               rotate_left
               ·intro w'
                go_simp
                with_reducible rfl
               rotate_left
               ·simp only [Act.put, zs, zz, zt, i64_w, i32_w]
                rfl
               refine pure_ (i := 10) (N := some 87) (v := undef) (a' := ?_) #[false, true, true, true, true, true, true, true, true, true, true, false, false, false, false, false, false, false, false, false, false, false, false, false] rfl rfl (any_of HT_.out (by kernel_rfl)) (fun _ _ _ h => h) (Or.inr ⟨by rfl, rfl⟩) ?_ ?_
               rotate_left
               ·simp only [Act.put, zs, zz, zt, i64_w, i32_w]
                rfl
               refine pure_ (i := 11) (N := some 88) (v := undef) (a' := ?_) #[false, true, true, true, true, true, true, true, true, true, true, true, false, false, false, false, false, false, false, false, false, false, false, false] rfl rfl (any_of HT_.out (by kernel_rfl)) (fun _ _ _ h => h) (Or.inr ⟨by rfl, rfl⟩) ?_ ?_
               rotate_left
               ·simp only [Act.put, zs, zz, zt, i64_w, i32_w]
                rfl
               refine pure_ (i := 12) (N := some 89) (v := ?_) (a' := ?_) #[false, true, true, true, true, true, true, true, true, true, true, true, true, false, false, false, false, false, false, false, false, false, false, false] rfl rfl (any_of HT_.out (by kernel_rfl)) (fun _ _ _ h => h) (Or.inl ⟨by rfl, ?_⟩) ?_ ?_
               rotate_left
               ·intro w'
                go_simp
                with_reducible rfl
               rotate_left
               ·simp only [Act.put, zs, zz, zt, i64_w, i32_w]
                rfl
               refine pure_ (i := 13) (N := some 90) (v := ?_) (a' := ?_) #[false, true, true, true, true, true, true, true, true, true, true, true, true, true, false, false, false, false, false, false, false, false, false, false] rfl rfl (any_of HT_.out (by kernel_rfl)) (fun _ _ _ h => h) (Or.inl ⟨by rfl, ?_⟩) ?_ ?_
               rotate_left
               ·intro w'
                go_simp
                with_reducible rfl
               rotate_left
               ·simp only [Act.put, zs, zz, zt, i64_w, i32_w]
                rfl
               refine pure_ (i := 14) (N := some 91) (v := undef) (a' := ?_) #[false, true, true, true, true, true, true, true, true, true, true, true, true, true, true, false, false, false, false, false, false, false, false, false] rfl rfl (any_of HT_.out (by kernel_rfl)) (fun _ _ _ h => h) (Or.inr ⟨by rfl, rfl⟩) ?_ ?_
               rotate_left
               ·simp only [Act.put, zs, zz, zt, i64_w, i32_w]
                rfl
               refine pure_ (i := 15) (N := some 92) (v := undef) (a' := ?_) #[false, true, true, true, true, true, true, true, true, true, true, true, true, true, true, true, false, false, false, false, false, false, false, false] rfl rfl (any_of HT_.out (by kernel_rfl)) (fun _ _ _ h => h) (Or.inr ⟨by rfl, rfl⟩) ?_ ?_
               rotate_left
               ·simp only [Act.put, zs, zz, zt, i64_w, i32_w]
                rfl
               refine pure_ (i := 16) (N := some 93) (v := undef) (a' := ?_) #[false, true, true, true, true, true, true, true, true, true, true, true, true, true, true, true, true, false, false, false, false, false, false, false] rfl rfl (any_of HT_.out (by kernel_rfl)) (fun _ _ _ h => h) (Or.inr ⟨by rfl, rfl⟩) ?_ ?_
               rotate_left
               ·simp only [Act.put, zs, zz, zt, i64_w, i32_w]
                rfl
               refine pure_ (i := 17) (N := some 94) (v := undef) (a' := ?_) #[false, true, true, true, true, true, true, true, true, true, true, true, true, true, true, true, true, true, false, false, false, false, false, false] rfl rfl (any_of HT_.out (by kernel_rfl)) (fun _ _ _ h => h) (Or.inr ⟨by rfl, rfl⟩) ?_ ?_
               rotate_left
               ·simp only [Act.put, zs, zz, zt, i64_w, i32_w]
                rfl
               refine pure_ (i := 18) (N := some 95) (v := undef) (a' := ?_) #[false, true, true, true, true, true, true, true, true, true, true, true, true, true, true, true, true, true, true, false, false, false, false, false] rfl rfl (any_of HT_.out (by kernel_rfl)) (fun _ _ _ h => h) (Or.inr ⟨by rfl, rfl⟩) ?_ ?_
               rotate_left
               ·simp only [Act.put, zs, zz, zt, i64_w, i32_w]
                rfl
               refine pure_ (i := 19) (N := some 96) (v := undef) (a' := ?_) #[false, true, true, true, true, true, true, true, true, true, true, true, true, true, true, true, true, true, true, true, false, false, false, false] rfl rfl (any_of HT_.out (by kernel_rfl)) (fun _ _ _ h => h) (Or.inr ⟨by rfl, rfl⟩) ?_ ?_
               rotate_left
               ·simp only [Act.put, zs, zz, zt, i64_w, i32_w]
                rfl
               refine pure_ (i := 20) (N := some 97) (v := undef) (a' := ?_) #[false, true, true, true, true, true, true, true, true, true, true, true, true, true, true, true, true, true, true, true, true, false, false, false] rfl rfl (any_of HT_.out (by kernel_rfl)) (fun _ _ _ h => h) (Or.inr ⟨by rfl, rfl⟩) ?_ ?_
               rotate_left
               ·simp only [Act.put, zs, zz, zt, i64_w, i32_w]
                rfl
               refine pure_ (i := 21) (N := some 98) (v := ?_) (a' := ?_) #[false, true, true, true, true, true, true, true, true, true, true, true, true, true, true, true, true, true, true, true, true, true, false, false] rfl rfl (any_of HT_.out (by kernel_rfl)) (fun _ _ _ h => h) (Or.inl ⟨by rfl, ?_⟩) ?_ ?_
               rotate_left
               ·intro w'
                go_simp
                with_reducible rfl
               rotate_left
               ·simp only [Act.put, zs, zz, zt, i64_w, i32_w]
                rfl
               refine take_ (i := 0) (N := some 77) (v := ?_) (a' := ?_) #[true, true, true, true, true, true, true, true, true, true, true, true, true, true, true, true, true, true, true, true, true, true, false, false] rfl rfl (take_ofW HT_.out HW_.out (by kernel_rfl)) (fun _ _ _ h => h) (Or.inl ⟨by rfl, ?_⟩) hHeld ?_ ?_
               rotate_left
               ·rintro w' ⟨s0, s1, s2, s3⟩
                go_simp
                with_reducible rfl
               rotate_left
               ·simp only [Act.put, zs, zz, zt, i64_w, i32_w]
                rfl
               refine one_ (i := 22) (N := none) #[true, true, true, true, true, true, true, true, true, true, true, true, true, true, true, true, true, true, true, true, true, true, true, false] rfl rfl (one_of HT_.out (by kernel_rfl)) (by decide) (fun K hK => ?_)
               have hs85 : w84.cell? ⟨gb196, 0, none⟩ = some (.int .i64 x197000_1) := (blk_cell Zc.out 0).trans rfl
               have hfs85 := blk_frozen Zc.out 0
               have hns85_1 := Za.out
               have hms85_1 := Zd.out
               have hs86 : w84.cell? ⟨gb196, 1, none⟩ = some (.int .i64 x197001_1) := (blk_cell Zc.out 1).trans rfl
               have hfs86 := blk_frozen Zc.out 1
               have hns86_1 := Za.out
               have hms86_1 := Zd.out
               have hs87 : w84.cell? ⟨gb196, 2, none⟩ = some (.int .i64 x197002_1) := (blk_cell Zc.out 2).trans rfl
               have hfs87 := blk_frozen Zc.out 2
               have hns87_1 := Za.out
               have hms87_1 := Zd.out
               have hs88 : w84.cell? ⟨gb196, 3, none⟩ = some (.string x197003_1) := (blk_cell Zc.out 3).trans rfl
               have hfs88 := blk_frozen Zc.out 3
               have hns88_1 := Za.out
               have hms88_1 := Zd.out
               refine skip_ (w1 := ?_) (by rfl) rfl ?_ ?_
               rotate_left
               ·go_simp
                rfl
               refine hK.out _ _ ⟨((cell_far (p := ⟨gb196, _, none⟩) Za.out _).trans (((cell_far (p := ⟨gb196, _, none⟩) Za.out _).trans (((cell_far (p := ⟨gb196, _, none⟩) Za.out _).trans (((cell_far (p := ⟨gb196, _, none⟩) Za.out _).trans (hHeld.1)))))))), ((cell_far (p := ⟨gb196, _, none⟩) Za.out _).trans (((cell_far (p := ⟨gb196, _, none⟩) Za.out _).trans (((cell_far (p := ⟨gb196, _, none⟩) Za.out _).trans (((cell_far (p := ⟨gb196, _, none⟩) Za.out _).trans (hHeld.2.1)))))))), ((cell_far (p := ⟨gb196, _, none⟩) Za.out _).trans (((cell_far (p := ⟨gb196, _, none⟩) Za.out _).trans (((cell_far (p := ⟨gb196, _, none⟩) Za.out _).trans (((cell_far (p := ⟨gb196, _, none⟩) Za.out _).trans (hHeld.2.2.1)))))))), ((cell_far (p := ⟨gb196, _, none⟩) Za.out _).trans (((cell_far (p := ⟨gb196, _, none⟩) Za.out _).trans (((cell_far (p := ⟨gb196, _, none⟩) Za.out _).trans (((cell_far (p := ⟨gb196, _, none⟩) Za.out _).trans (hHeld.2.2.2))))))))⟩ (fun hHeld => ?_)
               clear hK K
               refine pure_ (i := 23) (N := some 3) (v := ?_) (a' := ?_) #[true, true, true, true, true, true, true, true, true, true, true, true, true, true, true, true, true, true, true, true, true, true, true, true] rfl rfl (any_of HT_.out (by kernel_rfl)) (fun _ _ _ h => h) (Or.inl ⟨by rfl, ?_⟩) ?_ ?_
               rotate_left
               ·intro w'
                go_simp
                with_reducible rfl
               rotate_left
               ·simp only [Act.put, zs, zz, zt, i64_w, i32_w]
                rfl
               refine done_ (done_of HT_.out (by kernel_rfl)) ?_
               try go_wp2
               refine bodyPost_ret (results_ct rfl _ _ gb196 23 #[.int .i64 x16_1, .int .i64 x204001_16, .int .i64 x204002_16, .string x204003_16] (0, 0) _ rfl (by (with_reducible repeat (first | refine blk_drewN ?_ _ | refine blk_drew ?_ | refine blk_alloc ?_ _)); refine blk_put (cs := #[.int .i64 x16_1, .int .i64 x204001_16, .int .i64 x204002_16, .string x197003_1]) ?_ 3 _ rfl; (with_reducible repeat (first | refine blk_drewN ?_ _ | refine blk_drew ?_ | refine blk_alloc ?_ _)); refine blk_put (cs := #[.int .i64 x16_1, .int .i64 x204001_16, .int .i64 x197002_1, .string x197003_1]) ?_ 2 _ rfl; (with_reducible repeat (first | refine blk_drewN ?_ _ | refine blk_drew ?_ | refine blk_alloc ?_ _)); refine blk_put (cs := #[.int .i64 x16_1, .int .i64 x197001_1, .int .i64 x197002_1, .string x197003_1]) ?_ 1 _ rfl; (with_reducible repeat (first | refine blk_drewN ?_ _ | refine blk_drew ?_ | refine blk_alloc ?_ _)); refine blk_put (cs := #[.int .i64 x197000_1, .int .i64 x197001_1, .int .i64 x197002_1, .string x197003_1]) ?_ 0 _ rfl; (with_reducible repeat (first | refine blk_drewN ?_ _ | refine blk_drew ?_ | refine blk_alloc ?_ _)); exact Zc.out) Tryd.underlying23 rfl (by kernel_rfl)) rfl ?_
               exact ⟨by first | rfl | (simp [errW_none, errW_some] <;> rfl) | (simp [*, errW_none, errW_some] <;> rfl), zg_3 HB.out Ze.out Zf.out⟩
             ·replace c50 := Bool.eq_false_iff.mpr c50
              subst c50
              have H1 : (some (x16_1, x204001_16, x204002_16, x204003_16, false)) = some (r1, r2, r3, r4, r5) := by rw [if_neg (show ¬ (false = true) by decide)] at H; exact H
              clear H
              have H := H1
              clear H1
              simp only [Option.some.injEq, Prod.mk.injEq] at H
              obtain ⟨rfl, rfl, rfl, rfl, rfl⟩ := H
              try go_wp2
              have n0_ := zm (blk_drew Zc.out)
              have n1_ := zm (blk_drew Zb.out)
              have n2_ := zm (below_drew1 HB.out)
              clear Zc
              clear Zb
              clear HB
              have Zc := n0_
              have Zb := n1_
              have HB := n2_
              clear n0_ n1_ n2_
              refine start_ (n := 24) (S := fun w' => w'.cell? ⟨gb203, 0, none⟩ = some (.int .i64 x16_1) ∧ w'.cell? ⟨gb203, 1, none⟩ = some (.int .i64 x204001_16) ∧ w'.cell? ⟨gb203, 2, none⟩ = some (.int .i64 x204002_16) ∧ w'.cell? ⟨gb203, 3, none⟩ = some (.string x204003_16)) (ds := []) #[false, false, false, false, false, false, false, false, false, false, false, false, false, false, false, false, false, false, false, false, false, false, false, false] (by kernel_rfl) rfl rfl ⟨(blk_cell Zb.out 0).trans rfl, (blk_cell Zb.out 1).trans rfl, (blk_cell Zb.out 2).trans rfl, (blk_cell Zb.out 3).trans rfl⟩ (fun hHeld => ?_); refine with_tabW impl_reqOf.tab15 impl_reqOf.bits15 (fun HT_ HW_ => ?_)
              generalize wc.drew = w89 at Zc Zb HB hHeld ⊢
              refine pure_ (i := 1) (N := some 78) (v := ?_) (a' := ?_) #[false, true, false, false, false, false, false, false, false, false, false, false, false, false, false, false, false, false, false, false, false, false, false, false] rfl rfl (any_of HT_.out (by kernel_rfl)) (fun _ _ _ h => h) (Or.inl ⟨by rfl, ?_⟩) ?_ ?_
              rotate_left
              ·intro w'
               go_simp
               with_reducible rfl
              rotate_left
              ·simp only [Act.put, zs, zz, zt, i64_w, i32_w]
               rfl
              refine pure_ (i := 2) (N := some 79) (v := ?_) (a' := ?_) #[false, true, true, false, false, false, false, false, false, false, false, false, false, false, false, false, false, false, false, false, false, false, false, false] rfl rfl (any_of HT_.out (by kernel_rfl)) (fun _ _ _ h => h) (Or.inl ⟨by rfl, ?_⟩) ?_ ?_
              rotate_left
              ·intro w'
               go_simp
               with_reducible rfl
              rotate_left
              ·simp only [Act.put, zs, zz, zt, i64_w, i32_w]
               rfl
              refine pure_ (i := 3) (N := some 80) (v := undef) (a' := ?_) #[false, true, true, true, false, false, false, false, false, false, false, false, false, false, false, false, false, false, false, false, false, false, false, false] rfl rfl (any_of HT_.out (by kernel_rfl)) (fun _ _ _ h => h) (Or.inr ⟨by rfl, rfl⟩) ?_ ?_
              rotate_left
              ·simp only [Act.put, zs, zz, zt, i64_w, i32_w]
               rfl
              refine pure_ (i := 4) (N := some 81) (v := ?_) (a' := ?_) #[false, true, true, true, true, false, false, false, false, false, false, false, false, false, false, false, false, false, false, false, false, false, false, false] rfl rfl (any_of HT_.out (by kernel_rfl)) (fun _ _ _ h => h) (Or.inl ⟨by rfl, ?_⟩) ?_ ?_
              rotate_left
              ·intro w'
               go_simp
               with_reducible rfl
              rotate_left
              ·simp only [Act.put, zs, zz, zt, i64_w, i32_w]
               rfl
              refine pure_ (i := 5) (N := some 82) (v := ?_) (a' := ?_) #[false, true, true, true, true, true, false, false, false, false, false, false, false, false, false, false, false, false, false, false, false, false, false, false] rfl rfl (any_of HT_.out (by kernel_rfl)) (fun _ _ _ h => h) (Or.inl ⟨by rfl, ?_⟩) ?_ ?_
              rotate_left
              ·intro w'
               go_simp
               with_reducible rfl
              rotate_left
              ·simp only [Act.put, zs, zz, zt, i64_w, i32_w]
               rfl
              refine pure_ (i := 6) (N := some 83) (v := undef) (a' := ?_) #[false, true, true, true, true, true, true, false, false, false, false, false, false, false, false, false, false, false, false, false, false, false, false, false] rfl rfl (any_of HT_.out (by kernel_rfl)) (fun _ _ _ h => h) (Or.inr ⟨by rfl, rfl⟩) ?_ ?_
              rotate_left
              ·simp only [Act.put, zs, zz, zt, i64_w, i32_w]
               rfl
              refine pure_ (i := 7) (N := some 84) (v := undef) (a' := ?_) #[false, true, true, true, true, true, true, true, false, false, false, false, false, false, false, false, false, false, false, false, false, false, false, false] rfl rfl (any_of HT_.out (by kernel_rfl)) (fun _ _ _ h => h) (Or.inr ⟨by rfl, rfl⟩) ?_ ?_
              rotate_left
              ·simp only [Act.put, zs, zz, zt, i64_w, i32_w]
               rfl
              refine pure_ (i := 8) (N := some 85) (v := ?_) (a' := ?_) #[false, true, true, true, true, true, true, true, true, false, false, false, false, false, false, false, false, false, false, false, false, false, false, false] rfl rfl (any_of HT_.out (by kernel_rfl)) (fun _ _ _ h => h) (Or.inl ⟨by rfl, ?_⟩) ?_ ?_
              rotate_left
              ·intro w'
               go_simp
               with_reducible rfl
              rotate_left
              ·simp only [Act.put, zs, zz, zt, i64_w, i32_w]
               rfl
              refine pure_ (i := 9) (N := some 86) (v := ?_) (a' := ?_) #[false, true, true, true, true, true, true, true, true, true, false, false, false, false, false, false, false, false, false, false, false, false, false, false] rfl rfl (any_of HT_.out (by kernel_rfl)) (fun _ _ _ h => h) (Or.inl ⟨by rfl, ?_⟩) ?_ ?_
              rotate_left
              ·intro w'
               go_simp
               with_reducible rfl
              rotate_left
              ·simp only [Act.put, zs, zz, zt, i64_w, i32_w]
               rfl
              refine pure_ (i := 10) (N := some 87) (v := undef) (a' := ?_) #[false, true, true, true, true, true, true, true, true, true, true, false, false, false, false, false, false, false, false, false, false, false, false, false] rfl rfl (any_of HT_.out (by kernel_rfl)) (fun _ _ _ h => h) (Or.inr ⟨by rfl, rfl⟩) ?_ ?_
              rotate_left
              ·simp only [Act.put, zs, zz, zt, i64_w, i32_w]
               rfl
              refine pure_ (i := 11) (N := some 88) (v := undef) (a' := ?_) #[false, true, true, true, true, true, true, true, true, true, true, true, false, false, false, false, false, false, false, false, false, false, false, false] rfl rfl (any_of HT_.out (by kernel_rfl)) (fun _ _ _ h => h) (Or.inr ⟨by rfl, rfl⟩) ?_ ?_
              rotate_left
              ·simp only [Act.put, zs, zz, zt, i64_w, i32_w]
               rfl
              refine pure_ (i := 12) (N := some 89) (v := ?_) (a' := ?_) #[false, true, true, true, true, true, true, true, true, true, true, true, true, false, false, false, false, false, false, false, false, false, false, false] rfl rfl (any_of HT_.out (by kernel_rfl)) (fun _ _ _ h => h) (Or.inl ⟨by rfl, ?_⟩) ?_ ?_
              rotate_left
              ·intro w'
               go_simp
               with_reducible rfl
              rotate_left
              ·simp only [Act.put, zs, zz, zt, i64_w, i32_w]
               rfl
              refine pure_ (i := 13) (N := some 90) (v := ?_) (a' := ?_) #[false, true, true, true, true, true, true, true, true, true, true, true, true, true, false, false, false, false, false, false, false, false, false, false] rfl rfl (any_of HT_.out (by kernel_rfl)) (fun _ _ _ h => h) (Or.inl ⟨by rfl, ?_⟩) ?_ ?_
              rotate_left
              ·intro w'
               go_simp
               with_reducible rfl
              rotate_left
              ·simp only [Act.put, zs, zz, zt, i64_w, i32_w]
               rfl
              refine pure_ (i := 14) (N := some 91) (v := undef) (a' := ?_) #[false, true, true, true, true, true, true, true, true, true, true, true, true, true, true, false, false, false, false, false, false, false, false, false] rfl rfl (any_of HT_.out (by kernel_rfl)) (fun _ _ _ h => h) (Or.inr ⟨by rfl, rfl⟩) ?_ ?_
              rotate_left
              ·simp only [Act.put, zs, zz, zt, i64_w, i32_w]
               rfl
              refine pure_ (i := 15) (N := some 92) (v := undef) (a' := ?_) #[false, true, true, true, true, true, true, true, true, true, true, true, true, true, true, true, false, false, false, false, false, false, false, false] rfl rfl (any_of HT_.out (by kernel_rfl)) (fun _ _ _ h => h) (Or.inr ⟨by rfl, rfl⟩) ?_ ?_
              rotate_left
              ·simp only [Act.put, zs, zz, zt, i64_w, i32_w]
               rfl
              refine pure_ (i := 16) (N := some 93) (v := undef) (a' := ?_) #[false, true, true, true, true, true, true, true, true, true, true, true, true, true, true, true, true, false, false, false, false, false, false, false] rfl rfl (any_of HT_.out (by kernel_rfl)) (fun _ _ _ h => h) (Or.inr ⟨by rfl, rfl⟩) ?_ ?_
              rotate_left
              ·simp only [Act.put, zs, zz, zt, i64_w, i32_w]
               rfl
              refine pure_ (i := 17) (N := some 94) (v := undef) (a' := ?_) #[false, true, true, true, true, true, true, true, true, true, true, true, true, true, true, true, true, true, false, false, false, false, false, false] rfl rfl (any_of HT_.out (by kernel_rfl)) (fun _ _ _ h => h) (Or.inr ⟨by rfl, rfl⟩) ?_ ?_
              rotate_left
              ·simp only [Act.put, zs, zz, zt, i64_w, i32_w]
               rfl
              refine pure_ (i := 18) (N := some 95) (v := undef) (a' := ?_) #[false, true, true, true, true, true, true, true, true, true, true, true, true, true, true, true, true, true, true, false, false, false, false, false] rfl rfl (any_of HT_.out (by kernel_rfl)) (fun _ _ _ h => h) (Or.inr ⟨by rfl, rfl⟩) ?_ ?_
              rotate_left
              ·simp only [Act.put, zs, zz, zt, i64_w, i32_w]
               rfl
              refine pure_ (i := 19) (N := some 96) (v := undef) (a' := ?_) #[false, true, true, true, true, true, true, true, true, true, true, true, true, true, true, true, true, true, true, true, false, false, false, false] rfl rfl (any_of HT_.out (by kernel_rfl)) (fun _ _ _ h => h) (Or.inr ⟨by rfl, rfl⟩) ?_ ?_
              rotate_left
              ·simp only [Act.put, zs, zz, zt, i64_w, i32_w]
               rfl
              refine pure_ (i := 20) (N := some 97) (v := undef) (a' := ?_) #[false, true, true, true, true, true, true, true, true, true, true, true, true, true, true, true, true, true, true, true, true, false, false, false] rfl rfl (any_of HT_.out (by kernel_rfl)) (fun _ _ _ h => h) (Or.inr ⟨by rfl, rfl⟩) ?_ ?_
              rotate_left
              ·simp only [Act.put, zs, zz, zt, i64_w, i32_w]
               rfl
              refine pure_ (i := 21) (N := some 98) (v := ?_) (a' := ?_) #[false, true, true, true, true, true, true, true, true, true, true, true, true, true, true, true, true, true, true, true, true, true, false, false] rfl rfl (any_of HT_.out (by kernel_rfl)) (fun _ _ _ h => h) (Or.inl ⟨by rfl, ?_⟩) ?_ ?_
              rotate_left
              ·intro w'
               go_simp
               with_reducible rfl
              rotate_left
              ·simp only [Act.put, zs, zz, zt, i64_w, i32_w]
               rfl
              refine take_ (i := 0) (N := some 77) (v := ?_) (a' := ?_) #[true, true, true, true, true, true, true, true, true, true, true, true, true, true, true, true, true, true, true, true, true, true, false, false] rfl rfl (take_ofW HT_.out HW_.out (by kernel_rfl)) (fun _ _ _ h => h) (Or.inl ⟨by rfl, ?_⟩) hHeld ?_ ?_
              rotate_left
              ·rintro w' ⟨s0, s1, s2, s3⟩
               go_simp
               with_reducible rfl
              rotate_left
              ·simp only [Act.put, zs, zz, zt, i64_w, i32_w]
               rfl
              refine one_ (i := 22) (N := none) #[true, true, true, true, true, true, true, true, true, true, true, true, true, true, true, true, true, true, true, true, true, true, true, false] rfl rfl (one_of HT_.out (by kernel_rfl)) (by decide) (fun K hK => ?_)
              have hs90 : w89.cell? ⟨gb196, 0, none⟩ = some (.int .i64 x197000_1) := (blk_cell Zc.out 0).trans rfl
              have hfs90 := blk_frozen Zc.out 0
              have hns90_1 := Za.out
              have hms90_1 := Zd.out
              have hs91 : w89.cell? ⟨gb196, 1, none⟩ = some (.int .i64 x197001_1) := (blk_cell Zc.out 1).trans rfl
              have hfs91 := blk_frozen Zc.out 1
              have hns91_1 := Za.out
              have hms91_1 := Zd.out
              have hs92 : w89.cell? ⟨gb196, 2, none⟩ = some (.int .i64 x197002_1) := (blk_cell Zc.out 2).trans rfl
              have hfs92 := blk_frozen Zc.out 2
              have hns92_1 := Za.out
              have hms92_1 := Zd.out
              have hs93 : w89.cell? ⟨gb196, 3, none⟩ = some (.string x197003_1) := (blk_cell Zc.out 3).trans rfl
              have hfs93 := blk_frozen Zc.out 3
              have hns93_1 := Za.out
              have hms93_1 := Zd.out
              refine skip_ (w1 := ?_) (by rfl) rfl ?_ ?_
              rotate_left
              ·go_simp
               rfl
              refine hK.out _ _ ⟨((cell_far (p := ⟨gb196, _, none⟩) Za.out _).trans (((cell_far (p := ⟨gb196, _, none⟩) Za.out _).trans (((cell_far (p := ⟨gb196, _, none⟩) Za.out _).trans (((cell_far (p := ⟨gb196, _, none⟩) Za.out _).trans (hHeld.1)))))))), ((cell_far (p := ⟨gb196, _, none⟩) Za.out _).trans (((cell_far (p := ⟨gb196, _, none⟩) Za.out _).trans (((cell_far (p := ⟨gb196, _, none⟩) Za.out _).trans (((cell_far (p := ⟨gb196, _, none⟩) Za.out _).trans (hHeld.2.1)))))))), ((cell_far (p := ⟨gb196, _, none⟩) Za.out _).trans (((cell_far (p := ⟨gb196, _, none⟩) Za.out _).trans (((cell_far (p := ⟨gb196, _, none⟩) Za.out _).trans (((cell_far (p := ⟨gb196, _, none⟩) Za.out _).trans (hHeld.2.2.1)))))))), ((cell_far (p := ⟨gb196, _, none⟩) Za.out _).trans (((cell_far (p := ⟨gb196, _, none⟩) Za.out _).trans (((cell_far (p := ⟨gb196, _, none⟩) Za.out _).trans (((cell_far (p := ⟨gb196, _, none⟩) Za.out _).trans (hHeld.2.2.2))))))))⟩ (fun hHeld => ?_)
              clear hK K
              refine pure_ (i := 23) (N := some 3) (v := ?_) (a' := ?_) #[true, true, true, true, true, true, true, true, true, true, true, true, true, true, true, true, true, true, true, true, true, true, true, true] rfl rfl (any_of HT_.out (by kernel_rfl)) (fun _ _ _ h => h) (Or.inl ⟨by rfl, ?_⟩) ?_ ?_
              rotate_left
              ·intro w'
               go_simp
               with_reducible rfl
              rotate_left
              ·simp only [Act.put, zs, zz, zt, i64_w, i32_w]
               rfl
              refine done_ (done_of HT_.out (by kernel_rfl)) ?_
              try go_wp2
              refine bodyPost_ret (results_ct rfl _ _ gb196 23 #[.int .i64 x16_1, .int .i64 x204001_16, .int .i64 x204002_16, .string x204003_16] (0, 0) _ rfl (by (with_reducible repeat (first | refine blk_drewN ?_ _ | refine blk_drew ?_ | refine blk_alloc ?_ _)); refine blk_put (cs := #[.int .i64 x16_1, .int .i64 x204001_16, .int .i64 x204002_16, .string x197003_1]) ?_ 3 _ rfl; (with_reducible repeat (first | refine blk_drewN ?_ _ | refine blk_drew ?_ | refine blk_alloc ?_ _)); refine blk_put (cs := #[.int .i64 x16_1, .int .i64 x204001_16, .int .i64 x197002_1, .string x197003_1]) ?_ 2 _ rfl; (with_reducible repeat (first | refine blk_drewN ?_ _ | refine blk_drew ?_ | refine blk_alloc ?_ _)); refine blk_put (cs := #[.int .i64 x16_1, .int .i64 x197001_1, .int .i64 x197002_1, .string x197003_1]) ?_ 1 _ rfl; (with_reducible repeat (first | refine blk_drewN ?_ _ | refine blk_drew ?_ | refine blk_alloc ?_ _)); refine blk_put (cs := #[.int .i64 x197000_1, .int .i64 x197001_1, .int .i64 x197002_1, .string x197003_1]) ?_ 0 _ rfl; (with_reducible repeat (first | refine blk_drewN ?_ _ | refine blk_drew ?_ | refine blk_alloc ?_ _)); exact Zc.out) Tryd.underlying23 rfl (by kernel_rfl)) rfl ?_
              exact ⟨by first | rfl | (simp [errW_none, errW_some] <;> rfl) | (simp [*, errW_none, errW_some] <;> rfl), zg_3 HB.out Ze.out Zf.out⟩
          ·rw [if_neg c16] at H
           exact absurd H (by simp)
      ·rw [if_neg c11] at H
       exact absurd H (by simp)
     ·rw [if_neg c10] at H
      exact absurd H (by simp)
    ·rw [if_neg c9] at H
     have c9b0 : decide (x16_1 < (t197.length : Int)) = false := decide_eq_false c9
     clear c9
     simp only [Option.some.injEq, Prod.mk.injEq] at H
     obtain ⟨rfl, rfl, rfl, rfl, rfl⟩ := H
     have hcz94_0 : wr.cell? ⟨gb196, 0, none⟩ = some (.int .i64 x197000_1) := (blk_cell Zc.out 0).trans rfl
     have hcz94_1 : wr.cell? ⟨gb196, 1, none⟩ = some (.int .i64 x197001_1) := (blk_cell Zc.out 1).trans rfl
     have hcz94_2 : wr.cell? ⟨gb196, 2, none⟩ = some (.int .i64 x197002_1) := (blk_cell Zc.out 2).trans rfl
     have hcz94_3 : wr.cell? ⟨gb196, 3, none⟩ = some (.string x197003_1) := (blk_cell Zc.out 3).trans rfl
     have hfz94_0 := blk_frozen Zc.out 0
     have hfz94_1 := blk_frozen Zc.out 1
     have hfz94_2 := blk_frozen Zc.out 2
     have hfz94_3 := blk_frozen Zc.out 3
     go_wp2
     refine bodyPost_ret (results_ct rfl _ _ gb196 23 #[.int .i64 0, .int .i64 0, .int .i64 0, .string (⟨#[]⟩ : ByteArray)] (0, 0) _ rfl (by (with_reducible repeat (first | refine blk_drewN ?_ _ | refine blk_drew ?_ | refine blk_alloc ?_ _)); refine blk_put (cs := #[.int .i64 0, .int .i64 0, .int .i64 0, .string x197003_1]) ?_ 3 _ rfl; (with_reducible repeat (first | refine blk_drewN ?_ _ | refine blk_drew ?_ | refine blk_alloc ?_ _)); refine blk_put (cs := #[.int .i64 0, .int .i64 0, .int .i64 x197002_1, .string x197003_1]) ?_ 2 _ rfl; (with_reducible repeat (first | refine blk_drewN ?_ _ | refine blk_drew ?_ | refine blk_alloc ?_ _)); refine blk_put (cs := #[.int .i64 0, .int .i64 x197001_1, .int .i64 x197002_1, .string x197003_1]) ?_ 1 _ rfl; (with_reducible repeat (first | refine blk_drewN ?_ _ | refine blk_drew ?_ | refine blk_alloc ?_ _)); refine blk_put (cs := #[.int .i64 x197000_1, .int .i64 x197001_1, .int .i64 x197002_1, .string x197003_1]) ?_ 0 _ rfl; (with_reducible repeat (first | refine blk_drewN ?_ _ | refine blk_drew ?_ | refine blk_alloc ?_ _)); exact Zc.out) Tryd.underlying23 rfl (by kernel_rfl)) rfl ?_
     exact ⟨by first | rfl | (simp [errW_none, errW_some] <;> rfl) | (simp [*, errW_none, errW_some] <;> rfl), zg_2 HB.out Ze.out⟩
end Go.Proofs.YtniceoohmhjjlaaDoor.Q
