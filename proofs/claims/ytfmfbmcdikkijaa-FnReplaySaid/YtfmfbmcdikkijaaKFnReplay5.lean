/- What laws.FnReplay reaches, part 5: the functions as Lean functions, the proofs that the program's functions answer so, and plain laws about them. -/
import Derived.Test.YtfmfbmcdikkijaaKFnReplay1
import Derived.Test.YtfmfbmcdikkijaaKFnReplay2
import Derived.Test.YtfmfbmcdikkijaaKFnReplay4
namespace Go.Proofs.Ytfmfbmcdikkijaa.Q
open Go.RowKit Go.Proofs.Ytfmfbmcdikkijaa.Ext Go.Proofs.YtfmfbmcdikkijaaW.PrintWords Go.Proofs.YtfmfbmcdikkijaaW.PrintLast Go.Proofs.YtfmfbmcdikkijaaW.PrintMore
attribute [local go_sem] max2_int min2_int max_two min_two max_three min_three max_four min_four   -- for this text's walks alone
set_option linter.unusedVariables false
set_option linter.unusedSimpArgs false

set_option linter.unusedVariables false
set_option linter.unusedSimpArgs false
mutual
def impl_Disk_waiting.j0 : Nat → Int → Int → List Int → Bool → List ByteArray → List (S75) → Option ((List (S45)) × Int × Bool)
  | 0, _, _, _, _, _, _ => none
  | k + 1, x1, x2, x10, x40, x362000, x362001 => if x40 = true then (some (([] : List (S45)), 0, false)) else (if 0 < (x10.length : Int) then (impl_Disk_waiting.l0 k x1 x2 x10 (([] : List (S45))) (rd x10 0) 0 x362000 x362001) else (none))
def impl_Disk_waiting.l0 : Nat → Int → Int → List Int → List (S45) → Int → Int → List ByteArray → List (S75) → Option ((List (S45)) × Int × Bool)
  | 0, _, _, _, _, _, _, _, _ => none
  | k + 1, x1, x2, x10, x12, x44, x45, x362000, x362001 => if x45 < x44 then ((impl_slot.f x2).bind fun t374 => ((impl_Disk_read.f x362000 x362001 x1 (wrap64 ((wrap64 (t374 + 1)) + x45))).bind fun t375 => ((impl_updateOf.f k t375).bind fun bt376 => (if bt376.2.2 = true then (if x12.length < 5864062014805 then (impl_Disk_waiting.l0 k x1 x2 x10 (x12 ++ [(⟨bt376.1, bt376.2.1⟩ : S45)]) x44 (wrap64 (x45 + 1)) x362000 x362001) else (none)) else (some (([] : List (S45)), 0, false)))))) else (if 1 < (x10.length : Int) then (some (x12, rd x10 1, true)) else (none))
end
def impl_Disk_waiting.f (k : Nat) (l0_0 : List ByteArray) (l0_1 : List (S75)) (a1 : Int) (a2 : Int) : Option ((List (S45)) × Int × Bool) := (impl_slot.f a2).bind fun t362 => ((impl_Disk_read.f l0_0 l0_1 a1 t362).bind fun t363 => (if t363.toList = ([] : List UInt8) then (some (([] : List (S45)), 0, true)) else ((impl_open.f k t363 7).bind fun bt364 => (if bt364.2 = true then (if (bt364.1.length : Int) = 2 then (if 0 < (bt364.1.length : Int) then (impl_Disk_waiting.j0 k a1 a2 bt364.1 (decide ((rd bt364.1 0) > 5)) l0_0 l0_1) else (none)) else (impl_Disk_waiting.j0 k a1 a2 bt364.1 true l0_0 l0_1)) else (impl_Disk_waiting.j0 k a1 a2 bt364.1 true l0_0 l0_1)))))
theorem impl_Disk_waiting.mono_l : ∀ k, (∀ y0 y1 y2 y3 y4 y5, LeO (impl_Disk_waiting.j0 k y0 y1 y2 y3 y4 y5) (impl_Disk_waiting.j0 (k + 1) y0 y1 y2 y3 y4 y5)) ∧ (∀ y0 y1 y2 y3 y4 y5 y6 y7, LeO (impl_Disk_waiting.l0 k y0 y1 y2 y3 y4 y5 y6 y7) (impl_Disk_waiting.l0 (k + 1) y0 y1 y2 y3 y4 y5 y6 y7))
  | 0 => ⟨fun _ _ _ _ _ _ r h => by simp [impl_Disk_waiting.j0] at h, fun _ _ _ _ _ _ _ _ r h => by simp [impl_Disk_waiting.l0] at h⟩
  | k + 1 => by
    obtain ⟨ih0, ih1⟩ := impl_Disk_waiting.mono_l k
    refine ⟨?_, ?_⟩
    · intro y0 y1 y2 y3 y4 y5
      unfold impl_Disk_waiting.j0
      repeat' first| (with_reducible first | exact ih0 _ _ _ _ _ _ | exact ih1 _ _ _ _ _ _ _ _ | exact impl_open.mono _ _ _ | exact impl_updateOf.mono _ _ | exact LeO.refl _ | exact LeO.none _ | refine LeO.ite ?_ ?_ | refine LeO.bind ?_ (fun _ => ?_)) | exact ih0 _ _ _ _ _ _ | exact ih1 _ _ _ _ _ _ _ _ | exact impl_open.mono _ _ _ | exact impl_updateOf.mono _ _ | exact LeO.none _ | refine LeO.ite ?_ ?_ | refine LeO.bind ?_ (fun _ => ?_)
    · intro y0 y1 y2 y3 y4 y5 y6 y7
      unfold impl_Disk_waiting.l0
      repeat' first| (with_reducible first | exact ih0 _ _ _ _ _ _ | exact ih1 _ _ _ _ _ _ _ _ | exact impl_open.mono _ _ _ | exact impl_updateOf.mono _ _ | exact LeO.refl _ | exact LeO.none _ | refine LeO.ite ?_ ?_ | refine LeO.bind ?_ (fun _ => ?_)) | exact ih0 _ _ _ _ _ _ | exact ih1 _ _ _ _ _ _ _ _ | exact impl_open.mono _ _ _ | exact impl_updateOf.mono _ _ | exact LeO.none _ | refine LeO.ite ?_ ?_ | refine LeO.bind ?_ (fun _ => ?_)
theorem impl_Disk_waiting.mono : ∀ a0 a1 a2 a3 k, LeO (impl_Disk_waiting.f k a0 a1 a2 a3) (impl_Disk_waiting.f (k + 1) a0 a1 a2 a3) := by
  intro a0 a1 a2 a3 k
  obtain ⟨ih0, ih1⟩ := impl_Disk_waiting.mono_l k
  unfold impl_Disk_waiting.f
  repeat' first| (with_reducible first | exact ih0 _ _ _ _ _ _ | exact ih1 _ _ _ _ _ _ _ _ | exact impl_open.mono _ _ _ | exact impl_updateOf.mono _ _ | exact LeO.refl _ | exact LeO.none _ | refine LeO.ite ?_ ?_ | refine LeO.bind ?_ (fun _ => ?_)) | exact ih0 _ _ _ _ _ _ | exact ih1 _ _ _ _ _ _ _ _ | exact impl_open.mono _ _ _ | exact impl_updateOf.mono _ _ | exact LeO.none _ | refine LeO.ite ?_ ?_ | refine LeO.bind ?_ (fun _ => ?_)
def impl_Disk_waiting.T11 : Bool × List (List Nat × List Nat) := (true, [([], []), ([], []), ([], []), ([2], [2]), ([3], [3]), ([], []), ([4, 5], [4, 5]), ([0, 1, 6, 3], [0, 1, 6]), ([7, 7], [7]), ([8], [8]), ([9], [9]), ([9], [9]), ([], []), ([12, 10, 8, 0, 1, 2, 3, 4, 5, 6, 7, 8, 9, 10, 12], [10, 12]), ([11, 13, 0, 1, 2, 3, 4, 5, 6, 7, 8, 9, 10, 11, 12, 13], [11])])
def impl_Disk_waiting.B11 : List Nat := [0, 0, 0, 4, 12, 0, 60, 127, 255, 511, 1023, 1023, 0, 6143, 16383]
theorem impl_Disk_waiting.tab11 : rtab .any (opsOf Try.f49 11) = impl_Disk_waiting.T11 := by kernel_rfl
theorem impl_Disk_waiting.bits11 : waitsOk impl_Disk_waiting.T11.2 impl_Disk_waiting.B11 = true := by kernel_rfl
set_option maxHeartbeats 8000000 in
set_option maxRecDepth 100000 in
theorem impl_Disk_waiting.calls (k : Nat) (A0_0 : Option Addr) (c0_0 : Nat) (l0_0 : List ByteArray) (A0_1 : Option Addr) (c0_1 : Nat) (l0_1 : List (S75)) (a1 : Int) (a2 : Int) (r1 : List (S45)) (r2 : Int) (r3 : Bool) (w : World) (hr0_0 : Kd.C Kd.string w A0_0 l0_0.length l0_0) (hc0_0 : l0_0.length ≤ c0_0) (hr0_1 : Kd.C k75 w A0_1 l0_1.length l0_1) (hc0_1 : l0_1.length ≤ c0_1) (h : impl_Disk_waiting.f k l0_0 l0_1 a1 a2 = some (r1, r2, r3)) :
    Calls Try.prog 49 #[.agg #[.slice A0_0 l0_0.length c0_0, .slice A0_1 l0_1.length c0_1], .int .i64 a1, .int .i64 a2] w fun e w' => ∃ v0_ : Value, e = .returned (.tuple #[v0_, .int .i64 r2, .bool r3]) ∧ Kd.R k45 45 w' w.heap.size (fun _ => True) v0_ r1 ∧ Below w.heap.size w w' := by
 have hu32 := Try.underlying32; have hu45 := Try.underlying45; have Zj := zm hr0_0; have Zk := zm hc0_0; clear hr0_0 hc0_0; have Zl := zm hr0_1; have Zm := zm hc0_1; clear hr0_1 hc0_1; have HB := zm (Below.refl w.heap.size w); have H := h
 unfold impl_Disk_waiting.f at H
 clear h; replace H := Option.bind_eq_some_iff.mp H
 obtain ⟨t362, A40, H⟩ := H
 try dsimp only at H
 have A4 := zm A40; clear A40; replace H := Option.bind_eq_some_iff.mp H
 obtain ⟨t363, A50, H⟩ := H
 try dsimp only at H
 have A5 := zm A50; clear A50
 by_cases c6 : t363.toList = ([] : List UInt8)
 ·rw [if_pos c6] at H
  have c6b0 : (t363.toList == ([] : List UInt8)) = true := beq_iff_eq.mpr c6
  have c6b1 : (t363.toList != ([] : List UInt8)) = false := bne_eq_false_iff_eq.mpr c6
  clear c6
  simp only [Option.some.injEq, Prod.mk.injEq] at H
  obtain ⟨rfl, rfl, rfl⟩ := H
  go_enter Try.func49, Try.ntmps49
  try go_wp2_with (first | ((with_reducible refine gate_dst (N := 3) rfl ?_); (try (refine gate_guard (by rfl) ?_; dsimp only)); refine box_event ?hg (N := 3) ?hd (cs := #[.slice A0_0 l0_0.length c0_0, .slice A0_1 l0_1.length c0_1]) (t := 32) ?hr ?_; (case hd => rfl); (case hg => rfl); (case hr => first | (go_simp; done) | (go_simp; rfl)); intro gb361 hg w7 hbox hb; have n0_ := zm (below_step (zg_0 HB.out) hb); have n1_ := zm (hbox); have n2_ := zm ((by rw [hg]; exact (below_size (zg_0 HB.out)) : w.heap.size ≤ gb361)); have n3_ := zm ((by rw [hg]; exact (below_size (zg_0 HB.out)) : w.heap.size ≤ gb361)); replace HB := n0_; have Za := n1_; have Zp := n2_; have Zd := n3_; clear n0_ n1_ n2_ n3_; clear hb hbox hg))
  have n0_ := zm (blk_drew Za.out); have n1_ := zm (below_drew1 HB.out); clear Za; clear HB; have Za := n0_; have HB := n1_; clear n0_ n1_
  refine start_ (n := 6) (S := fun w' => w'.cell? ⟨gb361, 0, none⟩ = some (.slice A0_0 l0_0.length c0_0) ∧ w'.cell? ⟨gb361, 1, none⟩ = some (.slice A0_1 l0_1.length c0_1)) (ds := []) #[false, false, false, false, false, false] (by kernel_rfl) rfl rfl ⟨(blk_cell Za.out 0).trans rfl, (blk_cell Za.out 1).trans rfl⟩ (fun hHeld => ?_)
  generalize w7.drew = w8 at Za HB hHeld ⊢
  refine pure_ (i := 1) (N := some 17) (v := ?_) (a' := ?_) #[false, true, false, false, false, false] rfl rfl (by kernel_rfl) (fun _ _ _ h => h) (Or.inl ⟨by rfl, ?_⟩) ?_ ?_
  rotate_left
  ·intro w'
   go_simp
   with_reducible rfl
  rotate_left
  ·simp only [Act.put, zs, zz, zt, i64_w, i32_w]
   rfl
  refine pure_ (i := 2) (N := some 18) (v := ?_) (a' := ?_) #[false, true, true, false, false, false] rfl rfl (by kernel_rfl) (fun _ _ _ h => h) (Or.inl ⟨by rfl, ?_⟩) ?_ ?_
  rotate_left
  ·intro w'
   go_simp
   with_reducible rfl
  rotate_left
  ·simp only [Act.put, zs, zz, zt, i64_w, i32_w]
   rfl
  refine take_ (i := 0) (N := some 16) (v := ?_) (a' := ?_) #[true, true, true, false, false, false] rfl rfl (by kernel_rfl) (fun _ _ _ h => h) (Or.inl ⟨by rfl, ?_⟩) hHeld ?_ ?_
  rotate_left
  ·rintro w' ⟨s0, s1⟩
   go_simp
   with_reducible rfl
  rotate_left
  ·simp only [Act.put, zs, zz, zt, i64_w, i32_w]
   rfl
  refine one_ (i := 3) (N := some 19) #[true, true, true, true, false, false] rfl rfl (by kernel_rfl) (by decide) (fun K hK => ?_)
  refine goes_ Try.func35 (by kernel_rfl) rfl #[.int .i64 a2] (by rfl) rfl rfl zq ?_
  with_reducible refine (impl_slot.calls a2 t362 _ A4.out).mono ?_
  rintro e w' ⟨rfl, ⟨nd, rfl⟩⟩
  refine ⟨_, rfl, ?_⟩
  refine hK.out _ _ ⟨(blk_cell Za.out 0).trans rfl, (blk_cell Za.out 1).trans rfl⟩ (fun hHeld => ?_)
  clear hK K
  refine norm_ (a' := ?_) ?_ ?_
  rotate_left
  ·show Act.put _ (some 19) _ = _
   simp only [Act.put, zs, zz, zt, i64_w, i32_w]
   rfl
  refine one_ (i := 4) (N := some 20) #[true, true, true, true, true, false] rfl rfl (by kernel_rfl) (by decide) (fun K hK => ?_)
  refine goes_ Try.func61 (by kernel_rfl) rfl #[.agg #[.slice A0_0 l0_0.length c0_0, .slice A0_1 l0_1.length c0_1], .int .i64 a1, .int .i64 t362] (by rfl) rfl rfl zq ?_
  with_reducible refine (impl_Disk_read.calls _ _ l0_0 _ _ l0_1 a1 t362 t363 _ ?side1 ?side2 ?side3 ?side4 A5.out).mono ?_
  (case side1 => exact zC (Kd.C_below Zj.out (zg_1 HB.out Zd.out)))
  (case side2 => exact Zk.out)
  (case side3 => exact zC (Kd.C_below Zl.out (zg_1 HB.out Zd.out)))
  (case side4 => exact Zm.out)
  rintro e w9 ⟨rfl, hb⟩
  refine ⟨_, rfl, ?_⟩
  have n0_ := zm (blk_below (g := gb361) (o := .cells #[.slice A0_0 l0_0.length c0_0, .slice A0_1 l0_1.length c0_1] 32 (0, 0)) (zg_3 Za.out) hb); have n1_ := zm (below_step (zg_1 HB.out Zd.out) hb); clear Za; clear HB; have Za := n0_; have HB := n1_; clear n0_ n1_
  (try clear hb)
  (try clear hb2)
  (try clear hk)
  (try clear hi)
  refine hK.out _ _ ⟨(blk_cell Za.out 0).trans rfl, (blk_cell Za.out 1).trans rfl⟩ (fun hHeld => ?_)
  clear hK K
  refine norm_ (a' := ?_) ?_ ?_
  rotate_left
  ·show Act.put _ (some 20) _ = _
   simp only [Act.put, zs, zz, zt, i64_w, i32_w]
   rfl
  refine pure_ (i := 5) (N := some 9) (v := ?_) (a' := ?_) #[true, true, true, true, true, true] rfl rfl (by kernel_rfl) (fun _ _ _ h => h) (Or.inl ⟨by rfl, ?_⟩) ?_ ?_
  rotate_left
  ·intro w'
   go_simp
   with_reducible rfl
  rotate_left
  ·simp only [Act.put, zs, zz, zt, i64_w, i32_w]
   rfl
  refine done_ (by kernel_rfl) ?_
  try go_wp2
  go_ret3
  exact ⟨_, ze, by first | exact Kd.R_nil _ _ _ _ _ | exact Kd.N_nil _ _ _ _ _ | exact Kd.V_nil _ _ _ _ _ | exact Kd.Q_nil _ _ _ _ _ | exact Kd.S_nil _ _ _ _ _, zg_1 HB.out Zd.out⟩
 ·rw [if_neg c6] at H
  have c6b0 : (t363.toList == ([] : List UInt8)) = false := beq_eq_false_iff_ne.mpr c6
  have c6b1 : (t363.toList != ([] : List UInt8)) = true := bne_iff_ne.mpr c6
  replace H := Option.bind_eq_some_iff.mp H
  obtain ⟨⟨t364, t365⟩, A100, H⟩ := H
  try dsimp only at H
  have A10 := zm A100; clear A100; have Zo := zm H; clear H
  go_enter Try.func49, Try.ntmps49
  try go_wp2_with (first | ((with_reducible refine gate_dst (N := 3) rfl ?_); (try (refine gate_guard (by rfl) ?_; dsimp only)); refine box_event ?hg (N := 3) ?hd (cs := #[.slice A0_0 l0_0.length c0_0, .slice A0_1 l0_1.length c0_1]) (t := 32) ?hr ?_; (case hd => rfl); (case hg => rfl); (case hr => first | (go_simp; done) | (go_simp; rfl)); intro gb361 hg w12 hbox hb; have n0_ := zm (below_step (zg_0 HB.out) hb); have n1_ := zm (hbox); have n2_ := zm ((by rw [hg]; exact (below_size (zg_0 HB.out)) : w.heap.size ≤ gb361)); have n3_ := zm ((by rw [hg]; exact (below_size (zg_0 HB.out)) : w.heap.size ≤ gb361)); replace HB := n0_; have Za := n1_; have Zp := n2_; have Zd := n3_; clear n0_ n1_ n2_ n3_; clear hb hbox hg))
  have n0_ := zm (blk_drew Za.out); have n1_ := zm (below_drew1 HB.out); clear Za; clear HB; have Za := n0_; have HB := n1_; clear n0_ n1_
  refine start_ (n := 6) (S := fun w' => w'.cell? ⟨gb361, 0, none⟩ = some (.slice A0_0 l0_0.length c0_0) ∧ w'.cell? ⟨gb361, 1, none⟩ = some (.slice A0_1 l0_1.length c0_1)) (ds := []) #[false, false, false, false, false, false] (by kernel_rfl) rfl rfl ⟨(blk_cell Za.out 0).trans rfl, (blk_cell Za.out 1).trans rfl⟩ (fun hHeld => ?_)
  generalize w12.drew = w13 at Za HB hHeld ⊢
  refine pure_ (i := 1) (N := some 17) (v := ?_) (a' := ?_) #[false, true, false, false, false, false] rfl rfl (by kernel_rfl) (fun _ _ _ h => h) (Or.inl ⟨by rfl, ?_⟩) ?_ ?_
  rotate_left
  ·intro w'
   go_simp
   with_reducible rfl
  rotate_left
  ·simp only [Act.put, zs, zz, zt, i64_w, i32_w]
   rfl
  refine pure_ (i := 2) (N := some 18) (v := ?_) (a' := ?_) #[false, true, true, false, false, false] rfl rfl (by kernel_rfl) (fun _ _ _ h => h) (Or.inl ⟨by rfl, ?_⟩) ?_ ?_
  rotate_left
  ·intro w'
   go_simp
   with_reducible rfl
  rotate_left
  ·simp only [Act.put, zs, zz, zt, i64_w, i32_w]
   rfl
  refine take_ (i := 0) (N := some 16) (v := ?_) (a' := ?_) #[true, true, true, false, false, false] rfl rfl (by kernel_rfl) (fun _ _ _ h => h) (Or.inl ⟨by rfl, ?_⟩) hHeld ?_ ?_
  rotate_left
  ·rintro w' ⟨s0, s1⟩
   go_simp
   with_reducible rfl
  rotate_left
  ·simp only [Act.put, zs, zz, zt, i64_w, i32_w]
   rfl
  refine one_ (i := 3) (N := some 19) #[true, true, true, true, false, false] rfl rfl (by kernel_rfl) (by decide) (fun K hK => ?_)
  refine goes_ Try.func35 (by kernel_rfl) rfl #[.int .i64 a2] (by rfl) rfl rfl zq ?_
  with_reducible refine (impl_slot.calls a2 t362 _ A4.out).mono ?_
  rintro e w' ⟨rfl, ⟨nd, rfl⟩⟩
  refine ⟨_, rfl, ?_⟩
  refine hK.out _ _ ⟨(blk_cell Za.out 0).trans rfl, (blk_cell Za.out 1).trans rfl⟩ (fun hHeld => ?_)
  clear hK K
  refine norm_ (a' := ?_) ?_ ?_
  rotate_left
  ·show Act.put _ (some 19) _ = _
   simp only [Act.put, zs, zz, zt, i64_w, i32_w]
   rfl
  refine one_ (i := 4) (N := some 20) #[true, true, true, true, true, false] rfl rfl (by kernel_rfl) (by decide) (fun K hK => ?_)
  refine goes_ Try.func61 (by kernel_rfl) rfl #[.agg #[.slice A0_0 l0_0.length c0_0, .slice A0_1 l0_1.length c0_1], .int .i64 a1, .int .i64 t362] (by rfl) rfl rfl zq ?_
  with_reducible refine (impl_Disk_read.calls _ _ l0_0 _ _ l0_1 a1 t362 t363 _ ?side1 ?side2 ?side3 ?side4 A5.out).mono ?_
  (case side1 => exact zC (Kd.C_below Zj.out (zg_1 HB.out Zd.out)))
  (case side2 => exact Zk.out)
  (case side3 => exact zC (Kd.C_below Zl.out (zg_1 HB.out Zd.out)))
  (case side4 => exact Zm.out)
  rintro e w14 ⟨rfl, hb⟩
  refine ⟨_, rfl, ?_⟩
  have n0_ := zm (blk_below (g := gb361) (o := .cells #[.slice A0_0 l0_0.length c0_0, .slice A0_1 l0_1.length c0_1] 32 (0, 0)) (zg_3 Za.out) hb); have n1_ := zm (below_step (zg_1 HB.out Zd.out) hb); clear Za; clear HB; have Za := n0_; have HB := n1_; clear n0_ n1_
  (try clear hb)
  (try clear hb2)
  (try clear hk)
  (try clear hi)
  refine hK.out _ _ ⟨(blk_cell Za.out 0).trans rfl, (blk_cell Za.out 1).trans rfl⟩ (fun hHeld => ?_)
  clear hK K
  refine norm_ (a' := ?_) ?_ ?_
  rotate_left
  ·show Act.put _ (some 20) _ = _
   simp only [Act.put, zs, zz, zt, i64_w, i32_w]
   rfl
  refine pure_ (i := 5) (N := some 9) (v := ?_) (a' := ?_) #[true, true, true, true, true, true] rfl rfl (by kernel_rfl) (fun _ _ _ h => h) (Or.inl ⟨by rfl, ?_⟩) ?_ ?_
  rotate_left
  ·intro w'
   go_simp
   with_reducible rfl
  rotate_left
  ·simp only [Act.put, zs, zz, zt, i64_w, i32_w]
   rfl
  refine done_ (by kernel_rfl) ?_
  go_upto_region 5 with (first | ((with_reducible refine gate_callee (f := 62) rfl ?_); refine goesL_ (some 25) rfl rfl Try.func62 (by kernel_rfl) rfl #[.string t363, .int .i64 7] rfl zq ?_; (with_reducible refine (impl_open.calls k t363 7 t364 t365 _ A10.out).mono ?_); rintro e w15 ⟨v366, rfl, ho0, hb⟩; refine ⟨_, rfl, ?_⟩; have n0_ := zm (Kd.R_lower ho0 (below_size (zg_1 HB.out Zd.out))); have n1_ := zm (blk_below (g := gb361) (o := .cells #[.slice A0_0 l0_0.length c0_0, .slice A0_1 l0_1.length c0_1] 32 (0, 0)) (zg_3 Za.out) hb); have n2_ := zm (below_step (zg_1 HB.out Zd.out) hb); have Zn := n0_; replace Za := n1_; replace HB := n2_; clear n0_ n1_ n2_; (try clear hb); (try clear hb2); (try clear hk); (try clear hi); (try clear ho0)))
  (try simp only [Act.put, zs, zz, zt])
  go_cut [40] (fun v40 wc => ∃ (kq : Nat) (x40_10 : Bool), v40 = .bool x40_10 ∧ Aside0 (impl_Disk_waiting.j0 kq a1 a2 t364 x40_10 l0_0 l0_1 = some (r1, r2, r3)) ∧ Aside0 (kq ≤ k) ∧ Aside0 (Kd.R (Kd.int .i64) 3 wc w.heap.size (fun _ => True) v366 t364) ∧ Aside0 (wc.heap[gb361]? = some (.cells #[(.slice A0_0 l0_0.length c0_0), (.slice A0_1 l0_1.length c0_1)] 32 (0, 0))) ∧ Aside0 (Below w.heap.size w wc))
  case first =>
   have H := Zo.out; clear Zo
   by_cases c16 : t365 = true
   ·subst c16
    replace H : (if (t364.length : Int) = 2 then (if 0 < (t364.length : Int) then (impl_Disk_waiting.j0 k a1 a2 t364 (decide ((rd t364 0) > 5)) l0_0 l0_1) else (none)) else (impl_Disk_waiting.j0 k a1 a2 t364 true l0_0 l0_1)) = some (r1, r2, r3) := by rw [if_pos rfl] at H; exact H
    by_cases c17 : (t364.length : Int) = 2
    ·rw [if_pos c17] at H
     have c17b0 : ((t364.length : Int) == 2) = true := beq_iff_eq.mpr c17
     have c17b1 : ((t364.length : Int) != 2) = false := bne_eq_false_iff_eq.mpr c17
     clear c17
     (first | rw [c17b0] | (simp only [i64_w, i32_w]; rw [c17b0]) | skip)
     by_cases c18 : 0 < (t364.length : Int)
     ·rw [if_pos c18] at H
      have c18b0 := decide_eq_true c18
      have c18b1 : decide (0 < t364.length) = true := decide_eq_true (by omega)
      clear c18
      have H' := zm H
      clear H
      obtain ⟨Ao19, co19, eo19⟩ := Kd.R_slice Zn.out
      subst eo19
      have p368 : 0 ≤ (0 : Int) := (by omega)
      have q368 : 0 < (t364.length : Int) := zd
      obtain ⟨ad368, e368, hx368_0⟩ := Kd.at_int (Kd.R_reads' Zn.out).2.2 0 p368 q368
      cases e368
      have qi368 : (0 < t364.length) = True := eq_true (by omega)
      (try rw [show ((0 : Int)).toNat = 0 from rfl] at hx368_0)
      (try rw [Addr.add_zero'] at hx368_0)
      replace p368 := eq_true p368; replace q368 := eq_true q368
      go_wp2
      go_meet
      case rel => exact ⟨_, (decide ((rd t364 0) > 5)), zr, H', ⟨by first | omega | exact Nat.le_refl _⟩, ⟨zlR Zn.out⟩, ⟨zl Za.out⟩, ⟨zg_1 HB.out Zd.out⟩⟩
     ·rw [if_neg c18] at H
      exact absurd H (by simp)
    ·rw [if_neg c17] at H
     have c17b0 : ((t364.length : Int) == 2) = false := beq_eq_false_iff_ne.mpr c17
     have c17b1 : ((t364.length : Int) != 2) = true := bne_iff_ne.mpr c17
     (first | rw [c17b0] | (simp only [i64_w, i32_w]; rw [c17b0]) | skip)
     have H' := zm H
     clear H
     obtain ⟨Ao20, co20, eo20⟩ := Kd.R_slice Zn.out
     subst eo20
     go_wp2
     go_meet
     case rel => exact ⟨_, (true), zr, H', ⟨by first | omega | exact Nat.le_refl _⟩, ⟨zlR Zn.out⟩, ⟨zl Za.out⟩, ⟨zg_1 HB.out Zd.out⟩⟩
   ·replace c16 := Bool.eq_false_iff.mpr c16
    subst c16
    replace H : (impl_Disk_waiting.j0 k a1 a2 t364 true l0_0 l0_1) = some (r1, r2, r3) := by rw [if_neg (show ¬ (false = true) by decide)] at H; exact H
    have H' := zm H
    clear H
    go_wp2
    go_meet
    case rel => exact ⟨_, (true), zr, H', ⟨by first | omega | exact Nat.le_refl _⟩, ⟨zlR Zn.out⟩, ⟨zl Za.out⟩, ⟨zg_1 HB.out Zd.out⟩⟩
  case rest =>
   clear Zo
   try clear c1
   try clear p2
   try clear c3
   try clear p3
   try clear q3
   try clear hx3
   try clear qi3
   try clear c4
   try clear c6
   try clear c6b0
   try clear c6b1
   try clear c16
   try clear c17
   try clear c17b0
   try clear c17b1
   try clear c18
   try clear c18b0
   try clear c18b1
   try clear hx368_0
   try clear p368
   try clear q368
   obtain ⟨kq, x40_10, rfl, HA, HJ10, Zb, Za, HB⟩ := hcut
   cases kq with
   | zero => exact absurd HA.out (by simp [impl_Disk_waiting.j0])
   | succ kj10 =>
    have H := HA.out; clear HA
    simp only [impl_Disk_waiting.j0] at H
    by_cases c21 : x40_10 = true
    ·subst c21
     replace H : (some (([] : List (S45)), 0, false)) = some (r1, r2, r3) := by rw [if_pos rfl] at H; exact H
     simp only [Option.some.injEq, Prod.mk.injEq] at H
     obtain ⟨rfl, rfl, rfl⟩ := H
     go_wp2
     go_ret3
     exact ⟨_, ze, by first | exact Kd.R_nil _ _ _ _ _ | exact Kd.N_nil _ _ _ _ _ | exact Kd.V_nil _ _ _ _ _ | exact Kd.Q_nil _ _ _ _ _ | exact Kd.S_nil _ _ _ _ _, zg_1 HB.out Zd.out⟩
    ·replace c21 := Bool.eq_false_iff.mpr c21
     subst c21
     replace H : (if 0 < (t364.length : Int) then (impl_Disk_waiting.l0 kj10 a1 a2 t364 (([] : List (S45))) (rd t364 0) 0 l0_0 l0_1) else (none)) = some (r1, r2, r3) := by rw [if_neg (show ¬ (false = true) by decide)] at H; exact H
     obtain ⟨y369, hy369⟩ : ∃ y_ : List (S45), y_ = (([] : List (S45))) := ⟨_, rfl⟩
     replace H : (if 0 < (t364.length : Int) then (impl_Disk_waiting.l0 kj10 a1 a2 t364 y369 (rd t364 0) 0 l0_0 l0_1) else (none)) = some (r1, r2, r3) := by first | (rw [hy369]; with_reducible exact H) | (have H2_ := (Option.bind_some _ _).symm.trans H; rw [hy369]; with_reducible exact H2_) | (have H2_ := (Option.bind_some _ _).symm.trans H; with_reducible exact H2_) | with_reducible exact H | (rw [hy369]; exact H) | exact H
     have Ny369 := zm hy369; clear hy369
     by_cases c22 : 0 < (t364.length : Int)
     ·rw [if_pos c22] at H
      have c22b0 := decide_eq_true c22
      have c22b1 : decide (0 < t364.length) = true := decide_eq_true (by omega)
      clear c22
      have H' := zm H
      clear H
      go_wp2_with (first | ((with_reducible refine gate_dst (N := 41) rfl ?_); (try (refine gate_guard (by rfl) ?_; dsimp only)); refine Kd.R_lit k45 _ 45 ?hg (N := 41) ?hd (xs := ([] : List (S45))) (inner := []) (ok := fun _ => True) (okp := fun _ => True) ?hr ?hp (fun _ hk => hk) trivial (Below.refl _ _) (Nat.le_refl _) (by simp) ?_; (case hd => rfl); (case hg => rfl); (case hr => first | (go_simp; done) | (go_simp; rfl)); (case hp => exact (Reps.none _ _)); intro v370 w23 ho24 hb hg_ hnew_; clear hg_ hnew_; (first | rw [← Ny369.out] at ho24 | (simp only [Int.reduceToNat] at ho24; rw [← Ny369.out] at ho24)); have n0_ := zm (Kd.R_below (zg_2 Zb.out) hb); have n1_ := zm (Kd.R_lower ho24 (below_size (zg_1 HB.out Zd.out))); have n2_ := zm (blk_below (g := gb361) (o := .cells #[.slice A0_0 l0_0.length c0_0, .slice A0_1 l0_1.length c0_1] 32 (0, 0)) (zg_3 Za.out) hb); have n3_ := zm (below_step (zg_1 HB.out Zd.out) hb); replace Zb := n0_; have Zq := n1_; replace Za := n2_; replace HB := n3_; clear n0_ n1_ n2_ n3_; clear hb ho24; obtain ⟨Ao25, co25, eo25⟩ := Kd.R_slice Zb.out; subst eo25; have p372 : 0 ≤ (0 : Int) := (by omega); have q372 : 0 < (t364.length : Int) := zd; obtain ⟨ad372, e372, hx372_0⟩ := Kd.at_int (Kd.R_reads' Zb.out).2.2 0 p372 q372; cases e372; have qi372 : (0 < t364.length) = True := eq_true (by omega); (try rw [show ((0 : Int)).toNat = 0 from rfl] at hx372_0); (try rw [Addr.add_zero'] at hx372_0); replace p372 := eq_true p372; replace q372 := eq_true q372))
      go_loopg [12, 45] kj10 (fun kq v12 v45 w' => ∃ (x12_2 : List (S45)) (x45_2 : Int), v45 = .int .i64 x45_2 ∧ Aside0 (impl_Disk_waiting.l0 kq a1 a2 t364 x12_2 (rd t364 0) x45_2 l0_0 l0_1 = some (r1, r2, r3)) ∧ Aside0 (kq ≤ kj10) ∧ Aside0 (Kd.R (Kd.int .i64) 3 w' w.heap.size (fun _ => True) (.slice (some ad372) t364.length co25) t364) ∧ Aside0 (Kd.R k45 45 w' w.heap.size (fun _ => True) v12 x12_2) ∧ Aside0 (w'.heap[gb361]? = some (.cells #[(.slice A0_0 l0_0.length c0_0), (.slice A0_1 l0_1.length c0_1)] 32 (0, 0))) ∧ Aside0 (Below w.heap.size w w'))
      case atStart => exact ⟨(y369), (0), zr, H', ⟨Nat.le_refl _⟩, ⟨zlR Zb.out⟩, ⟨zlR Zq.out⟩, ⟨zl Za.out⟩, ⟨zg_1 HB.out Zd.out⟩⟩
      case round =>
       clear H'
       try clear c1
       try clear c2
       try clear p2
       try clear c3
       try clear p3
       try clear q3
       try clear hx3
       try clear qi3
       try clear c4
       try clear c6
       try clear c6b0
       try clear c6b1
       try clear c16
       try clear c17
       try clear c17b0
       try clear c17b1
       try clear c18
       try clear c18b0
       try clear c18b1
       try clear c21
       try clear c22
       try clear c22b0
       try clear c22b1
       try clear hx368_0
       try clear hx372_0
       try clear p2
       try clear p3
       try clear p368
       try clear p372
       try clear q3
       try clear q368
       try clear q372
       obtain ⟨x12_2, x45_2, rfl, HA, HK2, Zb, Zc, Za, HB⟩ := hrel
       cases gk with
       | zero => exact absurd HA.out (by simp [impl_Disk_waiting.l0])
       | succ k2 =>
        have H := HA.out; clear HA
        simp only [impl_Disk_waiting.l0] at H
        by_cases c26 : x45_2 < (rd t364 0)
        ·rw [if_pos c26] at H
         have c26b0 := decide_eq_true c26; clear c26; replace H := Option.bind_eq_some_iff.mp H
         obtain ⟨t374, A270, H⟩ := H
         try dsimp only at H
         have A27 := zm A270; clear A270; replace H := Option.bind_eq_some_iff.mp H
         obtain ⟨t375, A280, H⟩ := H
         try dsimp only at H
         have A28 := zm A280; clear A280; replace H := Option.bind_eq_some_iff.mp H
         obtain ⟨⟨t376, t377, t378⟩, A290, H⟩ := H
         try dsimp only at H
         have A29 := zm A290; clear A290
         by_cases c30 : t378 = true
         ·subst c30
          replace H : (if x12_2.length < 5864062014805 then (impl_Disk_waiting.l0 k2 a1 a2 t364 (x12_2 ++ [(⟨t376, t377⟩ : S45)]) (rd t364 0) (wrap64 (x45_2 + 1)) l0_0 l0_1) else (none)) = some (r1, r2, r3) := by rw [if_pos rfl] at H; exact H
          by_cases c31 : x12_2.length < 5864062014805
          ·rw [if_pos c31] at H
           have LMc31 := zm c31; clear c31
           obtain ⟨y380, hy380⟩ : ∃ y_ : List (S45), y_ = (x12_2 ++ [(⟨t376, t377⟩ : S45)]) := ⟨_, rfl⟩
           replace H : (impl_Disk_waiting.l0 k2 a1 a2 t364 y380 (rd t364 0) (wrap64 (x45_2 + 1)) l0_0 l0_1) = some (r1, r2, r3) := by first | (rw [hy380]; with_reducible exact H) | (have H2_ := (Option.bind_some _ _).symm.trans H; rw [hy380]; with_reducible exact H2_) | (have H2_ := (Option.bind_some _ _).symm.trans H; with_reducible exact H2_) | with_reducible exact H | (rw [hy380]; exact H) | exact H
           have Ny380 := zm hy380; clear hy380
           have H' := zm H
           clear H
           try go_wp2
           have n0_ := zm (Kd.R_drew Zb.out); have n1_ := zm (Kd.R_drew Zc.out); have n2_ := zm (blk_drew Za.out); have n3_ := zm (below_drew1 HB.out); clear Zb; clear Zc; clear Za; clear HB; have Zb := n0_; have Zc := n1_; have Za := n2_; have HB := n3_; clear n0_ n1_ n2_ n3_
           refine start_ (n := 15) (S := fun w' => w'.cell? ⟨gb361, 0, none⟩ = some (.slice A0_0 l0_0.length c0_0) ∧ w'.cell? ⟨gb361, 1, none⟩ = some (.slice A0_1 l0_1.length c0_1)) (ds := []) #[false, false, false, false, false, false, false, false, false, false, false, false, false, false, false] (by kernel_rfl) rfl rfl ⟨(blk_cell Za.out 0).trans rfl, (blk_cell Za.out 1).trans rfl⟩ (fun hHeld => ?_); refine with_tabW impl_Disk_waiting.tab11 impl_Disk_waiting.bits11 (fun HT_ HW_ => ?_)
           generalize wr.drew = w32 at Zb Zc Za HB hHeld ⊢
           refine pure_ (i := 1) (N := some 50) (v := ?_) (a' := ?_) #[false, true, false, false, false, false, false, false, false, false, false, false, false, false, false] rfl rfl (any_of HT_.out (by kernel_rfl)) (fun _ _ _ h => h) (Or.inl ⟨by rfl, ?_⟩) ?_ ?_
           rotate_left
           ·intro w'
            go_simp
            with_reducible rfl
           rotate_left
           ·simp only [Act.put, zs, zz, zt, i64_w, i32_w]
            rfl
           refine pure_ (i := 2) (N := some 51) (v := ?_) (a' := ?_) #[false, true, true, false, false, false, false, false, false, false, false, false, false, false, false] rfl rfl (any_of HT_.out (by kernel_rfl)) (fun _ _ _ h => h) (Or.inl ⟨by rfl, ?_⟩) ?_ ?_
           rotate_left
           ·intro w'
            go_simp
            with_reducible rfl
           rotate_left
           ·simp only [Act.put, zs, zz, zt, i64_w, i32_w]
            rfl
           refine pure_ (i := 5) (N := some 54) (v := ?_) (a' := ?_) #[false, true, true, false, false, true, false, false, false, false, false, false, false, false, false] rfl rfl (any_of HT_.out (by kernel_rfl)) (fun _ _ _ h => h) (Or.inl ⟨by rfl, ?_⟩) ?_ ?_
           rotate_left
           ·intro w'
            go_simp
            with_reducible rfl
           rotate_left
           ·simp only [Act.put, zs, zz, zt, i64_w, i32_w]
            rfl
           refine take_ (i := 0) (N := some 49) (v := ?_) (a' := ?_) #[true, true, true, false, false, true, false, false, false, false, false, false, false, false, false] rfl rfl (take_ofW HT_.out HW_.out (by kernel_rfl)) (fun _ _ _ h => h) (Or.inl ⟨by rfl, ?_⟩) hHeld ?_ ?_
           rotate_left
           ·rintro w' ⟨s0, s1⟩
            go_simp
            with_reducible rfl
           rotate_left
           ·simp only [Act.put, zs, zz, zt, i64_w, i32_w]
            rfl
           refine join_ (σ := Nat) 2 #[true, true, true, true, true, true, true, true, true, true, true, true, true, false, false] (fun s_ => [(52, .int .i64 t374), (56, .string t375), (57, .tuple #[.agg #[.int .i64 t376, .string t377], .bool true]), (14, .pointer (some ⟨s_, 0, none⟩)), (53, .int .i64 (wrap64 (t374 + 1))), (55, .int .i64 (wrap64 ((wrap64 (t374 + 1)) + x45_2))), (48, .tuple #[.agg #[.int .i64 t376, .string t377], .bool true]), (58, .agg #[.int .i64 t376, .string t377]), (59, .bool true)]) (fun s_ w' => (w'.cell? ⟨gb361, 0, none⟩ = some (.slice A0_0 l0_0.length c0_0) ∧ w'.cell? ⟨gb361, 1, none⟩ = some (.slice A0_1 l0_1.length c0_1)) ∧ (Kd.R (Kd.int .i64) 3 w' w.heap.size (fun _ => True) (.slice (some ad372) t364.length co25) t364) ∧ (Kd.R k45 45 w' w.heap.size (fun k_ => k_ ≠ s_) u12 x12_2) ∧ (w'.heap[gb361]? = some (.cells #[.slice A0_0 l0_0.length c0_0, .slice A0_1 l0_1.length c0_1] 32 (0, 0))) ∧ (w'.heap[s_]? = some (.cells #[.int .i64 0, .string (⟨#[]⟩ : ByteArray)] 45 (0, 0))) ∧ (w.heap.size ≤ s_) ∧ (w.heap.size ≤ s_) ∧ (gb361 ≠ s_) ∧ (s_ ≠ gb361) ∧ (Below w.heap.size w w')) ?_ ?_
           rotate_left
           ·intro hCont
            refine two_ (i := 3) (j := 12) (Ni := some 52) (Nj := some 14) #[true, true, true, true, false, true, false, false, false, false, false, false, false, false, false] #[true, true, true, false, false, true, false, false, false, false, false, false, true, false, false] rfl rfl rfl rfl (two_of HT_.out (by kernel_rfl)) (by decide) (by decide) (fun K hK => ?_) (fun K hK => ?_)
            ·skip
             refine goes_ Try.func35 (by kernel_rfl) rfl #[.int .i64 a2] (by rfl) rfl rfl zq ?_
             with_reducible refine (impl_slot.calls a2 t374 _ A27.out).mono ?_
             rintro e w' ⟨rfl, ⟨nd, rfl⟩⟩
             refine ⟨_, rfl, ?_⟩
             refine hK.out _ _ ⟨(blk_cell Za.out 0).trans rfl, (blk_cell Za.out 1).trans rfl⟩ (fun hHeld => ?_)
             clear hK K
             refine norm_ (a' := ?_) ?_ ?_
             rotate_left
             ·show Act.put _ (some 52) _ = _
              simp only [Act.put, zs, zz, zt, i64_w, i32_w]
              rfl
             refine pure_ (i := 4) (N := some 53) (v := ?_) (a' := ?_) #[true, true, true, true, true, true, false, false, false, false, false, false, false, false, false] rfl rfl (any_of HT_.out (by kernel_rfl)) (fun _ _ _ h => h) (Or.inl ⟨by rfl, ?_⟩) ?_ ?_
             rotate_left
             ·intro w'
              go_simp
              with_reducible rfl
             rotate_left
             ·simp only [Act.put, zs, zz, zt, i64_w, i32_w]
              rfl
             refine pure_ (i := 6) (N := some 55) (v := ?_) (a' := ?_) #[true, true, true, true, true, true, true, false, false, false, false, false, false, false, false] rfl rfl (any_of HT_.out (by kernel_rfl)) (fun _ _ _ h => h) (Or.inl ⟨by rfl, ?_⟩) ?_ ?_
             rotate_left
             ·intro w'
              go_simp
              with_reducible rfl
             rotate_left
             ·simp only [Act.put, zs, zz, zt, i64_w, i32_w]
              rfl
             refine two_ (i := 7) (j := 12) (Ni := some 56) (Nj := some 14) #[true, true, true, true, true, true, true, true, false, false, false, false, false, false, false] #[true, true, true, true, true, true, true, false, false, false, false, false, true, false, false] rfl rfl rfl rfl (two_of HT_.out (by kernel_rfl)) (by decide) (by decide) (fun K hK => ?_) (fun K hK => ?_)
             ·skip
              refine goes_ Try.func61 (by kernel_rfl) rfl #[.agg #[.slice A0_0 l0_0.length c0_0, .slice A0_1 l0_1.length c0_1], .int .i64 a1, .int .i64 (wrap64 ((wrap64 (t374 + 1)) + x45_2))] (by rfl) rfl rfl zq ?_
              with_reducible refine (impl_Disk_read.calls _ _ l0_0 _ _ l0_1 a1 (wrap64 ((wrap64 (t374 + 1)) + x45_2)) t375 _ ?side1 ?side2 ?side3 ?side4 A28.out).mono ?_
              (case side1 => exact zC (Kd.C_below Zj.out (zg_1 HB.out Zd.out)))
              (case side2 => exact Zk.out)
              (case side3 => exact zC (Kd.C_below Zl.out (zg_1 HB.out Zd.out)))
              (case side4 => exact Zm.out)
              rintro e w33 ⟨rfl, hb⟩
              refine ⟨_, rfl, ?_⟩
              have n0_ := zm (Kd.R_below (zg_2 Zb.out) hb); have n1_ := zm (Kd.R_below (zg_2 Zc.out) hb); have n2_ := zm (blk_below (g := gb361) (o := .cells #[.slice A0_0 l0_0.length c0_0, .slice A0_1 l0_1.length c0_1] 32 (0, 0)) (zg_3 Za.out) hb); have n3_ := zm (below_step (zg_1 HB.out Zd.out) hb); clear Zb; clear Zc; clear Za; clear HB; have Zb := n0_; have Zc := n1_; have Za := n2_; have HB := n3_; clear n0_ n1_ n2_ n3_
              (try clear hb)
              (try clear hb2)
              (try clear hk)
              (try clear hi)
              refine hK.out _ _ ⟨(blk_cell Za.out 0).trans rfl, (blk_cell Za.out 1).trans rfl⟩ (fun hHeld => ?_)
              clear hK K
              refine norm_ (a' := ?_) ?_ ?_
              rotate_left
              ·show Act.put _ (some 56) _ = _
               simp only [Act.put, zs, zz, zt, i64_w, i32_w]
               rfl
              refine two_ (i := 8) (j := 12) (Ni := some 57) (Nj := some 14) #[true, true, true, true, true, true, true, true, true, false, false, false, false, false, false] #[true, true, true, true, true, true, true, true, false, false, false, false, true, false, false] rfl rfl rfl rfl (two_of HT_.out (by kernel_rfl)) (by decide) (by decide) (fun K hK => ?_) (fun K hK => ?_)
              ·skip
               refine goes_ Try.func63 (by kernel_rfl) rfl #[.string t375] (by rfl) rfl rfl zq ?_
               with_reducible refine (impl_updateOf.calls k2 t375 t376 t377 true _ A29.out).mono ?_
               rintro e w34 ⟨rfl, hb⟩
               refine ⟨_, rfl, ?_⟩
               have n0_ := zm (Kd.R_below (zg_2 Zb.out) hb); have n1_ := zm (Kd.R_below (zg_2 Zc.out) hb); have n2_ := zm (blk_below (g := gb361) (o := .cells #[.slice A0_0 l0_0.length c0_0, .slice A0_1 l0_1.length c0_1] 32 (0, 0)) (zg_3 Za.out) hb); have n3_ := zm (below_step (zg_1 HB.out Zd.out) hb); clear Zb; clear Zc; clear Za; clear HB; have Zb := n0_; have Zc := n1_; have Za := n2_; have HB := n3_; clear n0_ n1_ n2_ n3_
               (try clear hb)
               (try clear hb2)
               (try clear hk)
               (try clear hi)
               refine hK.out _ _ ⟨(blk_cell Za.out 0).trans rfl, (blk_cell Za.out 1).trans rfl⟩ (fun hHeld => ?_)
               clear hK K
               refine norm_ (a' := ?_) ?_ ?_
               rotate_left
               ·show Act.put _ (some 57) _ = _
                simp only [Act.put, zs, zz, zt, i64_w, i32_w]
                rfl
               refine pure_ (i := 9) (N := some 48) (v := ?_) (a' := ?_) #[true, true, true, true, true, true, true, true, true, true, false, false, false, false, false] rfl rfl (any_of HT_.out (by kernel_rfl)) (fun _ _ _ h => h) (Or.inl ⟨by rfl, ?_⟩) ?_ ?_
               rotate_left
               ·intro w'
                go_simp
                with_reducible rfl
               rotate_left
               ·simp only [Act.put, zs, zz, zt, i64_w, i32_w]
                rfl
               refine pure_ (i := 10) (N := some 58) (v := ?_) (a' := ?_) #[true, true, true, true, true, true, true, true, true, true, true, false, false, false, false] rfl rfl (any_of HT_.out (by kernel_rfl)) (fun _ _ _ h => h) (Or.inl ⟨by rfl, ?_⟩) ?_ ?_
               rotate_left
               ·intro w'
                go_simp
                with_reducible rfl
               rotate_left
               ·simp only [Act.put, zs, zz, zt, i64_w, i32_w]
                rfl
               refine pure_ (i := 11) (N := some 59) (v := ?_) (a' := ?_) #[true, true, true, true, true, true, true, true, true, true, true, true, false, false, false] rfl rfl (any_of HT_.out (by kernel_rfl)) (fun _ _ _ h => h) (Or.inl ⟨by rfl, ?_⟩) ?_ ?_
               rotate_left
               ·intro w'
                go_simp
                with_reducible rfl
               rotate_left
               ·simp only [Act.put, zs, zz, zt, i64_w, i32_w]
                rfl
               refine one_ (i := 12) (N := some 14) #[true, true, true, true, true, true, true, true, true, true, true, true, true, false, false] rfl rfl (one_of HT_.out (by kernel_rfl)) (by decide) (fun K hK => ?_)
               refine box_step ?hg (N := 14) ?hd (cs := #[.int .i64 0, .string (⟨#[]⟩ : ByteArray)]) (t := 45) ?hr ?_; (case hd => rfl); (case hg => rfl); (case hr => first | (go_simp; done) | (go_simp; rfl))
               intro gb379 hg w35 hbox hb
               have n0_ := zm (Kd.R_below (zg_2 Zb.out) hb); have n1_ := zm (Kd.R_below (Kd.R_elderB (zg_2 Zc.out) gb379 (Nat.le_of_eq hg.symm)) hb); have n2_ := zm (blk_below (g := gb361) (o := .cells #[.slice A0_0 l0_0.length c0_0, .slice A0_1 l0_1.length c0_1] 32 (0, 0)) (zg_3 Za.out) hb); have n3_ := zm (below_step (zg_1 HB.out Zd.out) hb); have n4_ := zm (hbox); have n5_ := zm ((by rw [hg]; exact (below_size (zg_1 HB.out Zd.out)) : w.heap.size ≤ gb379)); have n6_ := zm ((by rw [hg]; exact (below_size (zg_1 HB.out Zd.out)) : w.heap.size ≤ gb379)); have n7_ := zm ((by rw [hg]; exact Nat.ne_of_lt (blk_lt (g := gb361) (o := .cells #[.slice A0_0 l0_0.length c0_0, .slice A0_1 l0_1.length c0_1] 32 (0, 0)) (zg_3 Za.out)) : gb361 ≠ gb379)); have n8_ := zm ((by rw [hg]; exact Nat.ne_of_gt (blk_lt (g := gb361) (o := .cells #[.slice A0_0 l0_0.length c0_0, .slice A0_1 l0_1.length c0_1] 32 (0, 0)) (zg_3 Za.out)) : gb379 ≠ gb361)); clear Zb; clear Zc; clear Za; clear HB; have Zb := n0_; have Zc := n1_; have Za := n2_; have HB := n3_; have Zf := n4_; have Zi := n5_; have Zh := n6_; have Ze := n7_; have Zg := n8_; clear n0_ n1_ n2_ n3_ n4_ n5_ n6_ n7_ n8_; clear hb hbox hg
               refine hK.out _ _ ⟨(blk_cell Za.out 0).trans rfl, (blk_cell Za.out 1).trans rfl⟩ (fun hHeld => ?_)
               clear hK K
               refine norm_ (a' := ?_) ?_ ?_
               rotate_left
               ·show Act.put _ (some 14) _ = _
                simp only [Act.put, zs, zz, zt, i64_w, i32_w]
                rfl
               exact norm_ (by simp only [putAll, Act.put, zs, zz, zt]) (hCont (gb379) _ ⟨hHeld, (zg_2 Zb.out), (by (with_reducible repeat (first | apply Kd.R_alloc | apply Kd.R_drewN | apply Kd.R_drew)); exact Kd.R_mono Zc.out (fun _ hk => hk.2)), (zg_3 Za.out), (zg_3 Zf.out), Zi.out, Zh.out, Ze.out, Zg.out, (zg_4 HB.out Zd.out Zh.out)⟩)
              ·skip
               refine box_step ?hg (N := 14) ?hd (cs := #[.int .i64 0, .string (⟨#[]⟩ : ByteArray)]) (t := 45) ?hr ?_; (case hd => rfl); (case hg => rfl); (case hr => first | (go_simp; done) | (go_simp; rfl))
               intro gb379 hg w34 hbox hb
               have n0_ := zm (Kd.R_below (zg_2 Zb.out) hb); have n1_ := zm (Kd.R_below (Kd.R_elderB (zg_2 Zc.out) gb379 (Nat.le_of_eq hg.symm)) hb); have n2_ := zm (blk_below (g := gb361) (o := .cells #[.slice A0_0 l0_0.length c0_0, .slice A0_1 l0_1.length c0_1] 32 (0, 0)) (zg_3 Za.out) hb); have n3_ := zm (below_step (zg_1 HB.out Zd.out) hb); have n4_ := zm (hbox); have n5_ := zm ((by rw [hg]; exact (below_size (zg_1 HB.out Zd.out)) : w.heap.size ≤ gb379)); have n6_ := zm ((by rw [hg]; exact (below_size (zg_1 HB.out Zd.out)) : w.heap.size ≤ gb379)); have n7_ := zm ((by rw [hg]; exact Nat.ne_of_lt (blk_lt (g := gb361) (o := .cells #[.slice A0_0 l0_0.length c0_0, .slice A0_1 l0_1.length c0_1] 32 (0, 0)) (zg_3 Za.out)) : gb361 ≠ gb379)); have n8_ := zm ((by rw [hg]; exact Nat.ne_of_gt (blk_lt (g := gb361) (o := .cells #[.slice A0_0 l0_0.length c0_0, .slice A0_1 l0_1.length c0_1] 32 (0, 0)) (zg_3 Za.out)) : gb379 ≠ gb361)); clear Zb; clear Zc; clear Za; clear HB; have Zb := n0_; have Zc := n1_; have Za := n2_; have HB := n3_; have Zf := n4_; have Zi := n5_; have Zh := n6_; have Ze := n7_; have Zg := n8_; clear n0_ n1_ n2_ n3_ n4_ n5_ n6_ n7_ n8_; clear hb hbox hg
               refine hK.out _ _ ⟨(blk_cell Za.out 0).trans rfl, (blk_cell Za.out 1).trans rfl⟩ (fun hHeld => ?_)
               clear hK K
               refine norm_ (a' := ?_) ?_ ?_
               rotate_left
               ·show Act.put _ (some 14) _ = _
                simp only [Act.put, zs, zz, zt, i64_w, i32_w]
                rfl
               refine one_ (i := 8) (N := some 57) #[true, true, true, true, true, true, true, true, true, false, false, false, true, false, false] rfl rfl (one_of HT_.out (by kernel_rfl)) (by decide) (fun K hK => ?_)
               refine goes_ Try.func63 (by kernel_rfl) rfl #[.string t375] (by rfl) rfl rfl zq ?_
               with_reducible refine (impl_updateOf.calls k2 t375 t376 t377 true _ A29.out).mono ?_
               rintro e w35 ⟨rfl, hb⟩
               refine ⟨_, rfl, ?_⟩
               have n0_ := zm (Kd.R_below (zg_2 Zb.out) hb); have n1_ := zm (Kd.R_below (zg_2 Zc.out) hb); have n2_ := zm (blk_below (g := gb361) (o := .cells #[.slice A0_0 l0_0.length c0_0, .slice A0_1 l0_1.length c0_1] 32 (0, 0)) (zg_3 Za.out) hb); have n3_ := zm (blk_below (g := gb379) (o := .cells #[.int .i64 0, .string (⟨#[]⟩ : ByteArray)] 45 (0, 0)) (zg_3 Zf.out) hb); have n4_ := zm (below_step (zg_4 HB.out Zd.out Zh.out) hb); clear Zb; clear Zc; clear Za; clear Zf; clear HB; have Zb := n0_; have Zc := n1_; have Za := n2_; have Zf := n3_; have HB := n4_; clear n0_ n1_ n2_ n3_ n4_
               (try clear hb)
               (try clear hb2)
               (try clear hk)
               (try clear hi)
               refine hK.out _ _ ⟨(blk_cell Za.out 0).trans rfl, (blk_cell Za.out 1).trans rfl⟩ (fun hHeld => ?_)
               clear hK K
               refine norm_ (a' := ?_) ?_ ?_
               rotate_left
               ·show Act.put _ (some 57) _ = _
                simp only [Act.put, zs, zz, zt, i64_w, i32_w]
                rfl
               refine pure_ (i := 9) (N := some 48) (v := ?_) (a' := ?_) #[true, true, true, true, true, true, true, true, true, true, false, false, true, false, false] rfl rfl (any_of HT_.out (by kernel_rfl)) (fun _ _ _ h => h) (Or.inl ⟨by rfl, ?_⟩) ?_ ?_
               rotate_left
               ·intro w'
                go_simp
                with_reducible rfl
               rotate_left
               ·simp only [Act.put, zs, zz, zt, i64_w, i32_w]
                rfl
               refine pure_ (i := 10) (N := some 58) (v := ?_) (a' := ?_) #[true, true, true, true, true, true, true, true, true, true, true, false, true, false, false] rfl rfl (any_of HT_.out (by kernel_rfl)) (fun _ _ _ h => h) (Or.inl ⟨by rfl, ?_⟩) ?_ ?_
               rotate_left
               ·intro w'
                go_simp
                with_reducible rfl
               rotate_left
               ·simp only [Act.put, zs, zz, zt, i64_w, i32_w]
                rfl
               refine pure_ (i := 11) (N := some 59) (v := ?_) (a' := ?_) #[true, true, true, true, true, true, true, true, true, true, true, true, true, false, false] rfl rfl (any_of HT_.out (by kernel_rfl)) (fun _ _ _ h => h) (Or.inl ⟨by rfl, ?_⟩) ?_ ?_
               rotate_left
               ·intro w'
                go_simp
                with_reducible rfl
               rotate_left
               ·simp only [Act.put, zs, zz, zt, i64_w, i32_w]
                rfl
               exact norm_ (by simp only [putAll, Act.put, zs, zz, zt]) (hCont (gb379) _ ⟨hHeld, (zg_2 Zb.out), (by (with_reducible repeat (first | apply Kd.R_alloc | apply Kd.R_drewN | apply Kd.R_drew)); exact Kd.R_mono Zc.out (fun _ hk => hk.2)), (zg_3 Za.out), (zg_3 Zf.out), Zi.out, Zh.out, Ze.out, Zg.out, (zg_4 HB.out Zd.out Zh.out)⟩)
             ·skip
              refine box_step ?hg (N := 14) ?hd (cs := #[.int .i64 0, .string (⟨#[]⟩ : ByteArray)]) (t := 45) ?hr ?_; (case hd => rfl); (case hg => rfl); (case hr => first | (go_simp; done) | (go_simp; rfl))
              intro gb379 hg w33 hbox hb
              have n0_ := zm (Kd.R_below (zg_2 Zb.out) hb); have n1_ := zm (Kd.R_below (Kd.R_elderB (zg_2 Zc.out) gb379 (Nat.le_of_eq hg.symm)) hb); have n2_ := zm (blk_below (g := gb361) (o := .cells #[.slice A0_0 l0_0.length c0_0, .slice A0_1 l0_1.length c0_1] 32 (0, 0)) (zg_3 Za.out) hb); have n3_ := zm (below_step (zg_1 HB.out Zd.out) hb); have n4_ := zm (hbox); have n5_ := zm ((by rw [hg]; exact (below_size (zg_1 HB.out Zd.out)) : w.heap.size ≤ gb379)); have n6_ := zm ((by rw [hg]; exact (below_size (zg_1 HB.out Zd.out)) : w.heap.size ≤ gb379)); have n7_ := zm ((by rw [hg]; exact Nat.ne_of_lt (blk_lt (g := gb361) (o := .cells #[.slice A0_0 l0_0.length c0_0, .slice A0_1 l0_1.length c0_1] 32 (0, 0)) (zg_3 Za.out)) : gb361 ≠ gb379)); have n8_ := zm ((by rw [hg]; exact Nat.ne_of_gt (blk_lt (g := gb361) (o := .cells #[.slice A0_0 l0_0.length c0_0, .slice A0_1 l0_1.length c0_1] 32 (0, 0)) (zg_3 Za.out)) : gb379 ≠ gb361)); clear Zb; clear Zc; clear Za; clear HB; have Zb := n0_; have Zc := n1_; have Za := n2_; have HB := n3_; have Zf := n4_; have Zi := n5_; have Zh := n6_; have Ze := n7_; have Zg := n8_; clear n0_ n1_ n2_ n3_ n4_ n5_ n6_ n7_ n8_; clear hb hbox hg
              refine hK.out _ _ ⟨(blk_cell Za.out 0).trans rfl, (blk_cell Za.out 1).trans rfl⟩ (fun hHeld => ?_)
              clear hK K
              refine norm_ (a' := ?_) ?_ ?_
              rotate_left
              ·show Act.put _ (some 14) _ = _
               simp only [Act.put, zs, zz, zt, i64_w, i32_w]
               rfl
              refine one_ (i := 7) (N := some 56) #[true, true, true, true, true, true, true, true, false, false, false, false, true, false, false] rfl rfl (one_of HT_.out (by kernel_rfl)) (by decide) (fun K hK => ?_)
              refine goes_ Try.func61 (by kernel_rfl) rfl #[.agg #[.slice A0_0 l0_0.length c0_0, .slice A0_1 l0_1.length c0_1], .int .i64 a1, .int .i64 (wrap64 ((wrap64 (t374 + 1)) + x45_2))] (by rfl) rfl rfl zq ?_
              with_reducible refine (impl_Disk_read.calls _ _ l0_0 _ _ l0_1 a1 (wrap64 ((wrap64 (t374 + 1)) + x45_2)) t375 _ ?side1 ?side2 ?side3 ?side4 A28.out).mono ?_
              (case side1 => exact zC (Kd.C_below Zj.out HB.out))
              (case side2 => exact Zk.out)
              (case side3 => exact zC (Kd.C_below Zl.out HB.out))
              (case side4 => exact Zm.out)
              rintro e w34 ⟨rfl, hb⟩
              refine ⟨_, rfl, ?_⟩
              have n0_ := zm (Kd.R_below (zg_2 Zb.out) hb); have n1_ := zm (Kd.R_below (zg_2 Zc.out) hb); have n2_ := zm (blk_below (g := gb361) (o := .cells #[.slice A0_0 l0_0.length c0_0, .slice A0_1 l0_1.length c0_1] 32 (0, 0)) (zg_3 Za.out) hb); have n3_ := zm (blk_below (g := gb379) (o := .cells #[.int .i64 0, .string (⟨#[]⟩ : ByteArray)] 45 (0, 0)) (zg_3 Zf.out) hb); have n4_ := zm (below_step (zg_4 HB.out Zd.out Zh.out) hb); clear Zb; clear Zc; clear Za; clear Zf; clear HB; have Zb := n0_; have Zc := n1_; have Za := n2_; have Zf := n3_; have HB := n4_; clear n0_ n1_ n2_ n3_ n4_
              (try clear hb)
              (try clear hb2)
              (try clear hk)
              (try clear hi)
              refine hK.out _ _ ⟨(blk_cell Za.out 0).trans rfl, (blk_cell Za.out 1).trans rfl⟩ (fun hHeld => ?_)
              clear hK K
              refine norm_ (a' := ?_) ?_ ?_
              rotate_left
              ·show Act.put _ (some 56) _ = _
               simp only [Act.put, zs, zz, zt, i64_w, i32_w]
               rfl
              refine one_ (i := 8) (N := some 57) #[true, true, true, true, true, true, true, true, true, false, false, false, true, false, false] rfl rfl (one_of HT_.out (by kernel_rfl)) (by decide) (fun K hK => ?_)
              refine goes_ Try.func63 (by kernel_rfl) rfl #[.string t375] (by rfl) rfl rfl zq ?_
              with_reducible refine (impl_updateOf.calls k2 t375 t376 t377 true _ A29.out).mono ?_
              rintro e w35 ⟨rfl, hb⟩
              refine ⟨_, rfl, ?_⟩
              have n0_ := zm (Kd.R_below (zg_2 Zb.out) hb); have n1_ := zm (Kd.R_below (zg_2 Zc.out) hb); have n2_ := zm (blk_below (g := gb361) (o := .cells #[.slice A0_0 l0_0.length c0_0, .slice A0_1 l0_1.length c0_1] 32 (0, 0)) (zg_3 Za.out) hb); have n3_ := zm (blk_below (g := gb379) (o := .cells #[.int .i64 0, .string (⟨#[]⟩ : ByteArray)] 45 (0, 0)) (zg_3 Zf.out) hb); have n4_ := zm (below_step (zg_4 HB.out Zd.out Zh.out) hb); clear Zb; clear Zc; clear Za; clear Zf; clear HB; have Zb := n0_; have Zc := n1_; have Za := n2_; have Zf := n3_; have HB := n4_; clear n0_ n1_ n2_ n3_ n4_
              (try clear hb)
              (try clear hb2)
              (try clear hk)
              (try clear hi)
              refine hK.out _ _ ⟨(blk_cell Za.out 0).trans rfl, (blk_cell Za.out 1).trans rfl⟩ (fun hHeld => ?_)
              clear hK K
              refine norm_ (a' := ?_) ?_ ?_
              rotate_left
              ·show Act.put _ (some 57) _ = _
               simp only [Act.put, zs, zz, zt, i64_w, i32_w]
               rfl
              refine pure_ (i := 9) (N := some 48) (v := ?_) (a' := ?_) #[true, true, true, true, true, true, true, true, true, true, false, false, true, false, false] rfl rfl (any_of HT_.out (by kernel_rfl)) (fun _ _ _ h => h) (Or.inl ⟨by rfl, ?_⟩) ?_ ?_
              rotate_left
              ·intro w'
               go_simp
               with_reducible rfl
              rotate_left
              ·simp only [Act.put, zs, zz, zt, i64_w, i32_w]
               rfl
              refine pure_ (i := 10) (N := some 58) (v := ?_) (a' := ?_) #[true, true, true, true, true, true, true, true, true, true, true, false, true, false, false] rfl rfl (any_of HT_.out (by kernel_rfl)) (fun _ _ _ h => h) (Or.inl ⟨by rfl, ?_⟩) ?_ ?_
              rotate_left
              ·intro w'
               go_simp
               with_reducible rfl
              rotate_left
              ·simp only [Act.put, zs, zz, zt, i64_w, i32_w]
               rfl
              refine pure_ (i := 11) (N := some 59) (v := ?_) (a' := ?_) #[true, true, true, true, true, true, true, true, true, true, true, true, true, false, false] rfl rfl (any_of HT_.out (by kernel_rfl)) (fun _ _ _ h => h) (Or.inl ⟨by rfl, ?_⟩) ?_ ?_
              rotate_left
              ·intro w'
               go_simp
               with_reducible rfl
              rotate_left
              ·simp only [Act.put, zs, zz, zt, i64_w, i32_w]
               rfl
              exact norm_ (by simp only [putAll, Act.put, zs, zz, zt]) (hCont (gb379) _ ⟨hHeld, (zg_2 Zb.out), (by (with_reducible repeat (first | apply Kd.R_alloc | apply Kd.R_drewN | apply Kd.R_drew)); exact Kd.R_mono Zc.out (fun _ hk => hk.2)), (zg_3 Za.out), (zg_3 Zf.out), Zi.out, Zh.out, Ze.out, Zg.out, (zg_4 HB.out Zd.out Zh.out)⟩)
            ·skip
             refine box_step ?hg (N := 14) ?hd (cs := #[.int .i64 0, .string (⟨#[]⟩ : ByteArray)]) (t := 45) ?hr ?_; (case hd => rfl); (case hg => rfl); (case hr => first | (go_simp; done) | (go_simp; rfl))
             intro gb379 hg w33 hbox hb
             have n0_ := zm (Kd.R_below (zg_2 Zb.out) hb); have n1_ := zm (Kd.R_below (Kd.R_elderB (zg_2 Zc.out) gb379 (Nat.le_of_eq hg.symm)) hb); have n2_ := zm (blk_below (g := gb361) (o := .cells #[.slice A0_0 l0_0.length c0_0, .slice A0_1 l0_1.length c0_1] 32 (0, 0)) (zg_3 Za.out) hb); have n3_ := zm (below_step (zg_1 HB.out Zd.out) hb); have n4_ := zm (hbox); have n5_ := zm ((by rw [hg]; exact (below_size (zg_1 HB.out Zd.out)) : w.heap.size ≤ gb379)); have n6_ := zm ((by rw [hg]; exact (below_size (zg_1 HB.out Zd.out)) : w.heap.size ≤ gb379)); have n7_ := zm ((by rw [hg]; exact Nat.ne_of_lt (blk_lt (g := gb361) (o := .cells #[.slice A0_0 l0_0.length c0_0, .slice A0_1 l0_1.length c0_1] 32 (0, 0)) (zg_3 Za.out)) : gb361 ≠ gb379)); have n8_ := zm ((by rw [hg]; exact Nat.ne_of_gt (blk_lt (g := gb361) (o := .cells #[.slice A0_0 l0_0.length c0_0, .slice A0_1 l0_1.length c0_1] 32 (0, 0)) (zg_3 Za.out)) : gb379 ≠ gb361)); clear Zb; clear Zc; clear Za; clear HB; have Zb := n0_; have Zc := n1_; have Za := n2_; have HB := n3_; have Zf := n4_; have Zi := n5_; have Zh := n6_; have Ze := n7_; have Zg := n8_; clear n0_ n1_ n2_ n3_ n4_ n5_ n6_ n7_ n8_; clear hb hbox hg
             refine hK.out _ _ ⟨(blk_cell Za.out 0).trans rfl, (blk_cell Za.out 1).trans rfl⟩ (fun hHeld => ?_)
             clear hK K
             refine norm_ (a' := ?_) ?_ ?_
             rotate_left
             ·show Act.put _ (some 14) _ = _
              simp only [Act.put, zs, zz, zt, i64_w, i32_w]
              rfl
             refine one_ (i := 3) (N := some 52) #[true, true, true, true, false, true, false, false, false, false, false, false, true, false, false] rfl rfl (one_of HT_.out (by kernel_rfl)) (by decide) (fun K hK => ?_)
             refine goes_ Try.func35 (by kernel_rfl) rfl #[.int .i64 a2] (by rfl) rfl rfl zq ?_
             with_reducible refine (impl_slot.calls a2 t374 _ A27.out).mono ?_
             rintro e w' ⟨rfl, ⟨nd, rfl⟩⟩
             refine ⟨_, rfl, ?_⟩
             refine hK.out _ _ ⟨(blk_cell Za.out 0).trans rfl, (blk_cell Za.out 1).trans rfl⟩ (fun hHeld => ?_)
             clear hK K
             refine norm_ (a' := ?_) ?_ ?_
             rotate_left
             ·show Act.put _ (some 52) _ = _
              simp only [Act.put, zs, zz, zt, i64_w, i32_w]
              rfl
             refine pure_ (i := 4) (N := some 53) (v := ?_) (a' := ?_) #[true, true, true, true, true, true, false, false, false, false, false, false, true, false, false] rfl rfl (any_of HT_.out (by kernel_rfl)) (fun _ _ _ h => h) (Or.inl ⟨by rfl, ?_⟩) ?_ ?_
             rotate_left
             ·intro w'
              go_simp
              with_reducible rfl
             rotate_left
             ·simp only [Act.put, zs, zz, zt, i64_w, i32_w]
              rfl
             refine pure_ (i := 6) (N := some 55) (v := ?_) (a' := ?_) #[true, true, true, true, true, true, true, false, false, false, false, false, true, false, false] rfl rfl (any_of HT_.out (by kernel_rfl)) (fun _ _ _ h => h) (Or.inl ⟨by rfl, ?_⟩) ?_ ?_
             rotate_left
             ·intro w'
              go_simp
              with_reducible rfl
             rotate_left
             ·simp only [Act.put, zs, zz, zt, i64_w, i32_w]
              rfl
             refine one_ (i := 7) (N := some 56) #[true, true, true, true, true, true, true, true, false, false, false, false, true, false, false] rfl rfl (one_of HT_.out (by kernel_rfl)) (by decide) (fun K hK => ?_)
             refine goes_ Try.func61 (by kernel_rfl) rfl #[.agg #[.slice A0_0 l0_0.length c0_0, .slice A0_1 l0_1.length c0_1], .int .i64 a1, .int .i64 (wrap64 ((wrap64 (t374 + 1)) + x45_2))] (by rfl) rfl rfl zq ?_
             with_reducible refine (impl_Disk_read.calls _ _ l0_0 _ _ l0_1 a1 (wrap64 ((wrap64 (t374 + 1)) + x45_2)) t375 _ ?side1 ?side2 ?side3 ?side4 A28.out).mono ?_
             (case side1 => exact zC (Kd.C_below Zj.out (zg_4 HB.out Zd.out Zh.out)))
             (case side2 => exact Zk.out)
             (case side3 => exact zC (Kd.C_below Zl.out (zg_4 HB.out Zd.out Zh.out)))
             (case side4 => exact Zm.out)
             rintro e w34 ⟨rfl, hb⟩
             refine ⟨_, rfl, ?_⟩
             have n0_ := zm (Kd.R_below (zg_2 Zb.out) hb); have n1_ := zm (Kd.R_below (zg_2 Zc.out) hb); have n2_ := zm (blk_below (g := gb361) (o := .cells #[.slice A0_0 l0_0.length c0_0, .slice A0_1 l0_1.length c0_1] 32 (0, 0)) (zg_3 Za.out) hb); have n3_ := zm (blk_below (g := gb379) (o := .cells #[.int .i64 0, .string (⟨#[]⟩ : ByteArray)] 45 (0, 0)) (zg_3 Zf.out) hb); have n4_ := zm (below_step (zg_4 HB.out Zd.out Zh.out) hb); clear Zb; clear Zc; clear Za; clear Zf; clear HB; have Zb := n0_; have Zc := n1_; have Za := n2_; have Zf := n3_; have HB := n4_; clear n0_ n1_ n2_ n3_ n4_
             (try clear hb)
             (try clear hb2)
             (try clear hk)
             (try clear hi)
             refine hK.out _ _ ⟨(blk_cell Za.out 0).trans rfl, (blk_cell Za.out 1).trans rfl⟩ (fun hHeld => ?_)
             clear hK K
             refine norm_ (a' := ?_) ?_ ?_
             rotate_left
             ·show Act.put _ (some 56) _ = _
              simp only [Act.put, zs, zz, zt, i64_w, i32_w]
              rfl
             refine one_ (i := 8) (N := some 57) #[true, true, true, true, true, true, true, true, true, false, false, false, true, false, false] rfl rfl (one_of HT_.out (by kernel_rfl)) (by decide) (fun K hK => ?_)
             refine goes_ Try.func63 (by kernel_rfl) rfl #[.string t375] (by rfl) rfl rfl zq ?_
             with_reducible refine (impl_updateOf.calls k2 t375 t376 t377 true _ A29.out).mono ?_
             rintro e w35 ⟨rfl, hb⟩
             refine ⟨_, rfl, ?_⟩
             have n0_ := zm (Kd.R_below (zg_2 Zb.out) hb); have n1_ := zm (Kd.R_below (zg_2 Zc.out) hb); have n2_ := zm (blk_below (g := gb361) (o := .cells #[.slice A0_0 l0_0.length c0_0, .slice A0_1 l0_1.length c0_1] 32 (0, 0)) (zg_3 Za.out) hb); have n3_ := zm (blk_below (g := gb379) (o := .cells #[.int .i64 0, .string (⟨#[]⟩ : ByteArray)] 45 (0, 0)) (zg_3 Zf.out) hb); have n4_ := zm (below_step (zg_4 HB.out Zd.out Zh.out) hb); clear Zb; clear Zc; clear Za; clear Zf; clear HB; have Zb := n0_; have Zc := n1_; have Za := n2_; have Zf := n3_; have HB := n4_; clear n0_ n1_ n2_ n3_ n4_
             (try clear hb)
             (try clear hb2)
             (try clear hk)
             (try clear hi)
             refine hK.out _ _ ⟨(blk_cell Za.out 0).trans rfl, (blk_cell Za.out 1).trans rfl⟩ (fun hHeld => ?_)
             clear hK K
             refine norm_ (a' := ?_) ?_ ?_
             rotate_left
             ·show Act.put _ (some 57) _ = _
              simp only [Act.put, zs, zz, zt, i64_w, i32_w]
              rfl
             refine pure_ (i := 9) (N := some 48) (v := ?_) (a' := ?_) #[true, true, true, true, true, true, true, true, true, true, false, false, true, false, false] rfl rfl (any_of HT_.out (by kernel_rfl)) (fun _ _ _ h => h) (Or.inl ⟨by rfl, ?_⟩) ?_ ?_
             rotate_left
             ·intro w'
              go_simp
              with_reducible rfl
             rotate_left
             ·simp only [Act.put, zs, zz, zt, i64_w, i32_w]
              rfl
             refine pure_ (i := 10) (N := some 58) (v := ?_) (a' := ?_) #[true, true, true, true, true, true, true, true, true, true, true, false, true, false, false] rfl rfl (any_of HT_.out (by kernel_rfl)) (fun _ _ _ h => h) (Or.inl ⟨by rfl, ?_⟩) ?_ ?_
             rotate_left
             ·intro w'
              go_simp
              with_reducible rfl
             rotate_left
             ·simp only [Act.put, zs, zz, zt, i64_w, i32_w]
              rfl
             refine pure_ (i := 11) (N := some 59) (v := ?_) (a' := ?_) #[true, true, true, true, true, true, true, true, true, true, true, true, true, false, false] rfl rfl (any_of HT_.out (by kernel_rfl)) (fun _ _ _ h => h) (Or.inl ⟨by rfl, ?_⟩) ?_ ?_
             rotate_left
             ·intro w'
              go_simp
              with_reducible rfl
             rotate_left
             ·simp only [Act.put, zs, zz, zt, i64_w, i32_w]
              rfl
             exact norm_ (by simp only [putAll, Act.put, zs, zz, zt]) (hCont (gb379) _ ⟨hHeld, (zg_2 Zb.out), (by (with_reducible repeat (first | apply Kd.R_alloc | apply Kd.R_drewN | apply Kd.R_drew)); exact Kd.R_mono Zc.out (fun _ hk => hk.2)), (zg_3 Za.out), (zg_3 Zf.out), Zi.out, Zh.out, Ze.out, Zg.out, (zg_4 HB.out Zd.out Zh.out)⟩)
           rintro gb379 w36 ⟨hS_, h0_, h1_, h2_, h3_, h4_, h5_, h6_, h7_, h8_⟩
           have n0_ : Aside0 (Kd.R (Kd.int .i64) 3 w36 w.heap.size (fun _ => True) (.slice (some ad372) t364.length co25) t364) := ⟨h0_⟩
           have n1_ : Aside0 (Kd.R k45 45 w36 w.heap.size (fun k_ => k_ ≠ gb379) u12 x12_2) := ⟨h1_⟩
           have n2_ : Aside0 (w36.heap[gb361]? = some (.cells #[.slice A0_0 l0_0.length c0_0, .slice A0_1 l0_1.length c0_1] 32 (0, 0))) := ⟨h2_⟩
           have n3_ : Aside0 (w36.heap[gb379]? = some (.cells #[.int .i64 0, .string (⟨#[]⟩ : ByteArray)] 45 (0, 0))) := ⟨h3_⟩
           have n4_ : Aside0 (w.heap.size ≤ gb379) := ⟨h4_⟩
           have n5_ : Aside0 (w.heap.size ≤ gb379) := ⟨h5_⟩
           have n6_ : Aside0 (gb361 ≠ gb379) := ⟨h6_⟩
           have n7_ : Aside0 (gb379 ≠ gb361) := ⟨h7_⟩
           have n8_ : Aside0 (Below w.heap.size w w36) := ⟨h8_⟩
           clear Zb; clear Zc; clear Za; clear HB; clear h0_ h1_ h2_ h3_ h4_ h5_ h6_ h7_ h8_; have Zb := n0_; have Zc := n1_; have Za := n2_; have Zf := n3_; have Zi := n4_; have Zh := n5_; have Ze := n6_; have Zg := n7_; have HB := n8_; clear n0_ n1_ n2_ n3_ n4_ n5_ n6_ n7_ n8_
           have hHeld : w36.cell? ⟨gb361, 0, none⟩ = some (.slice A0_0 l0_0.length c0_0) ∧ w36.cell? ⟨gb361, 1, none⟩ = some (.slice A0_1 l0_1.length c0_1) := hS_
           refine norm_ (a' := ?_) ?_ ?_
           rotate_left
           ·simp only [putAll, Act.put, zs, zz, zt]
            rfl
           refine one_ (i := 13) (N := none) #[true, true, true, true, true, true, true, true, true, true, true, true, true, true, false] rfl rfl (one_of HT_.out (by kernel_rfl)) (by decide) (fun K hK => ?_)
           have hs37 : w36.cell? ⟨gb379, 0, none⟩ = some (.int .i64 0) := (blk_cell Zf.out 0).trans rfl
           have hfs37 := blk_frozen Zf.out 0; have hns37_0 := Ze.out; have hms37_0 := Zg.out
           have hs38 : w36.cell? ⟨gb379, 1, none⟩ = some (.string (⟨#[]⟩ : ByteArray)) := (blk_cell Zf.out 1).trans rfl
           have hfs38 := blk_frozen Zf.out 1; have hns38_0 := Ze.out; have hms38_0 := Zg.out
           refine skip_ (w1 := ?_) (by rfl) rfl ?_ ?_
           rotate_left
           ·go_simp
            rfl
           refine hK.out _ _ ⟨((cell_far (p := ⟨gb379, _, none⟩) Ze.out _).trans (((cell_far (p := ⟨gb379, _, none⟩) Ze.out _).trans (hHeld.1)))), ((cell_far (p := ⟨gb379, _, none⟩) Ze.out _).trans (((cell_far (p := ⟨gb379, _, none⟩) Ze.out _).trans (hHeld.2))))⟩ (fun hHeld => ?_)
           clear hK K
           refine pure_ (i := 14) (N := some 15) (v := ?_) (a' := ?_) #[true, true, true, true, true, true, true, true, true, true, true, true, true, true, true] rfl rfl (any_of HT_.out (by kernel_rfl)) (fun _ _ _ h => h) (Or.inl ⟨by rfl, ?_⟩) ?_ ?_
           rotate_left
           ·intro w'
            go_simp
            with_reducible rfl
           rotate_left
           ·simp only [Act.put, zs, zz, zt, i64_w, i32_w]
            rfl
           refine done_ (done_of HT_.out (by kernel_rfl)) ?_
           have hnb39 := Zg.out; have hnc39 := Ze.out
           obtain ⟨hcz40_0, hcz40_1, hfz40_0, hfz40_1⟩ := zb2 Zf.out
           try go_wp2_with (first | ((with_reducible refine gate_builtin (b := .append) (xs := #[.tmp 62, .tmp 64]) rfl ?_); (try (refine gate_guard (by rfl) ?_; dsimp only)); at_builtin; refine Kd.R_append k45 (w0 := w) w.heap.size rfl (.tmp 62) (.tmp 64) 23 45 (.agg #[(.int .i64 0), (.string ⟨#[]⟩)]) 24 rfl Try.underlying23 info45 rfl (by decide) (by omega) u12 x12_2 (⟨t376, t377⟩ : S45) [.int .i64 t376, .string t377] (fun k_ => k_ ≠ gb379) (fun _ => False) rfl (by first | (go_simp; done) | (go_simp; rfl)) ?aP (fun _ hk => hk.elim) ?aF ?aO ?aB ?aS ?aL ?_; (case aP => exact k45_mkM _ _ _ (⟨t376, t377⟩ : S45)); (case aB => exact (zg_4 HB.out Zd.out Zh.out)); (case aF => exact (fun k_ hk => Kd.freshB (g := gb379) (o := .cells #[.int .i64 t376, .string t377] 45 (0, 0)) (by (with_reducible repeat (first | refine blk_drewN ?_ _ | refine blk_drew ?_ | refine blk_alloc ?_ _)); refine blk_put (cs := #[.int .i64 t376, .string (⟨#[]⟩ : ByteArray)]) ?_ 1 _ rfl; (with_reducible repeat (first | refine blk_drewN ?_ _ | refine blk_drew ?_ | refine blk_alloc ?_ _)); refine blk_put (cs := #[.int .i64 0, .string (⟨#[]⟩ : ByteArray)]) ?_ 0 _ rfl; (with_reducible repeat (first | refine blk_drewN ?_ _ | refine blk_drew ?_ | refine blk_alloc ?_ _)); exact Zf.out) k_ hk)); (case aO => exact (by (with_reducible repeat (first | apply Kd.R_alloc | apply Kd.R_drewN | apply Kd.R_drew)); exact Kd.R_mono (Kd.R_far (Kd.R_far (Kd.R_mono Zc.out (fun k_ hk => (⟨hk, hk⟩ : _ ∧ k_ ≠ gb379))) (fun _ hk => hk.2) _) (fun _ hk => hk.2) _) (fun _ hk => hk.1))); (case aS => exact (below_size (zg_4 HB.out Zd.out Zh.out))); (case aL => have := LMc31.out; omega); intro v381 w41 ho hb hg hat; rw [← Ny380.out] at ho; have n0_ := zm (Kd.R_over' (by (with_reducible repeat (first | apply Kd.R_alloc | apply Kd.R_drewN | apply Kd.R_drew)); exact (Kd.R_mono (Kd.R_far (Kd.R_far (Kd.R_types Zb.out Zf.out (by decide)) (fun _ hk => hk.2) _) (fun _ hk => hk.2) _) (fun _ h_ => h_.1))) (Kd.R_typed (by (with_reducible repeat (first | apply Kd.R_alloc | apply Kd.R_drewN | apply Kd.R_drew)); exact (Kd.R_mono (Kd.R_far (Kd.R_far (Kd.R_mono Zc.out (fun k_ hk => (⟨hk, hk⟩ : _ ∧ k_ ≠ gb379))) (fun _ hk => hk.2) _) (fun _ hk => hk.2) _) (fun _ h_ => h_.1)))) (by decide) hg); have n1_ := zm (blk_grown (g := gb361) (o := .cells #[.slice A0_0 l0_0.length c0_0, .slice A0_1 l0_1.length c0_1] 32 (0, 0)) (by (with_reducible repeat (first | refine blk_drewN ?_ _ | refine blk_drew ?_ | refine blk_alloc ?_ _)); refine blk_far ?_ Ze.out _; (with_reducible repeat (first | refine blk_drewN ?_ _ | refine blk_drew ?_ | refine blk_alloc ?_ _)); refine blk_far ?_ Ze.out _; (with_reducible repeat (first | refine blk_drewN ?_ _ | refine blk_drew ?_ | refine blk_alloc ?_ _)); exact Za.out) hg (Kd.R_ne Zc.out Za.out (by decide))); have n2_ := zm (blk_grown (g := gb379) (o := .cells #[.int .i64 t376, .string t377] 45 (0, 0)) (by (with_reducible repeat (first | refine blk_drewN ?_ _ | refine blk_drew ?_ | refine blk_alloc ?_ _)); refine blk_put (cs := #[.int .i64 t376, .string (⟨#[]⟩ : ByteArray)]) ?_ 1 _ rfl; (with_reducible repeat (first | refine blk_drewN ?_ _ | refine blk_drew ?_ | refine blk_alloc ?_ _)); refine blk_put (cs := #[.int .i64 0, .string (⟨#[]⟩ : ByteArray)]) ?_ 0 _ rfl; (with_reducible repeat (first | refine blk_drewN ?_ _ | refine blk_drew ?_ | refine blk_alloc ?_ _)); exact Zf.out) hg (Kd.R_away Zc.out (fun _ hk => hk))); have n3_ := zm (hb); have n4_ := zm (ho); clear Zc; replace Zb := n0_; replace Za := n1_; replace Zf := n2_; replace HB := n3_; have Zr := n4_; clear n0_ n1_ n2_ n3_ n4_; clear ho hb hg hat))
           go_roundg k2
           case measure => have := HJ10.out; have := HK2.out; omega
           case rel => exact ⟨(y380), (wrap64 (x45_2 + 1)), zr, H', ⟨by have := HJ10.out; have := HK2.out; omega⟩, ⟨zlR Zb.out⟩, ⟨by (with_reducible repeat (first | apply Kd.R_alloc | apply Kd.R_drewN | apply Kd.R_drew)); exact Kd.R_mono Zr.out (fun _ hk => trivial)⟩, ⟨zl Za.out⟩, ⟨zg_4 HB.out Zd.out Zh.out⟩⟩
          ·rw [if_neg c31] at H
           exact absurd H (by simp)
         ·replace c30 := Bool.eq_false_iff.mpr c30
          subst c30
          replace H : (some (([] : List (S45)), 0, false)) = some (r1, r2, r3) := by rw [if_neg (show ¬ (false = true) by decide)] at H; exact H
          simp only [Option.some.injEq, Prod.mk.injEq] at H
          obtain ⟨rfl, rfl, rfl⟩ := H
          try go_wp2
          have n0_ := zm (Kd.R_drew Zb.out); have n1_ := zm (Kd.R_drew Zc.out); have n2_ := zm (blk_drew Za.out); have n3_ := zm (below_drew1 HB.out); clear Zb; clear Zc; clear Za; clear HB; have Zb := n0_; have Zc := n1_; have Za := n2_; have HB := n3_; clear n0_ n1_ n2_ n3_
          refine start_ (n := 15) (S := fun w' => w'.cell? ⟨gb361, 0, none⟩ = some (.slice A0_0 l0_0.length c0_0) ∧ w'.cell? ⟨gb361, 1, none⟩ = some (.slice A0_1 l0_1.length c0_1)) (ds := []) #[false, false, false, false, false, false, false, false, false, false, false, false, false, false, false] (by kernel_rfl) rfl rfl ⟨(blk_cell Za.out 0).trans rfl, (blk_cell Za.out 1).trans rfl⟩ (fun hHeld => ?_); refine with_tabW impl_Disk_waiting.tab11 impl_Disk_waiting.bits11 (fun HT_ HW_ => ?_)
          generalize wr.drew = w42 at Zb Zc Za HB hHeld ⊢
          refine pure_ (i := 1) (N := some 50) (v := ?_) (a' := ?_) #[false, true, false, false, false, false, false, false, false, false, false, false, false, false, false] rfl rfl (any_of HT_.out (by kernel_rfl)) (fun _ _ _ h => h) (Or.inl ⟨by rfl, ?_⟩) ?_ ?_
          rotate_left
          ·intro w'
           go_simp
           with_reducible rfl
          rotate_left
          ·simp only [Act.put, zs, zz, zt, i64_w, i32_w]
           rfl
          refine pure_ (i := 2) (N := some 51) (v := ?_) (a' := ?_) #[false, true, true, false, false, false, false, false, false, false, false, false, false, false, false] rfl rfl (any_of HT_.out (by kernel_rfl)) (fun _ _ _ h => h) (Or.inl ⟨by rfl, ?_⟩) ?_ ?_
          rotate_left
          ·intro w'
           go_simp
           with_reducible rfl
          rotate_left
          ·simp only [Act.put, zs, zz, zt, i64_w, i32_w]
           rfl
          refine pure_ (i := 5) (N := some 54) (v := ?_) (a' := ?_) #[false, true, true, false, false, true, false, false, false, false, false, false, false, false, false] rfl rfl (any_of HT_.out (by kernel_rfl)) (fun _ _ _ h => h) (Or.inl ⟨by rfl, ?_⟩) ?_ ?_
          rotate_left
          ·intro w'
           go_simp
           with_reducible rfl
          rotate_left
          ·simp only [Act.put, zs, zz, zt, i64_w, i32_w]
           rfl
          refine take_ (i := 0) (N := some 49) (v := ?_) (a' := ?_) #[true, true, true, false, false, true, false, false, false, false, false, false, false, false, false] rfl rfl (take_ofW HT_.out HW_.out (by kernel_rfl)) (fun _ _ _ h => h) (Or.inl ⟨by rfl, ?_⟩) hHeld ?_ ?_
          rotate_left
          ·rintro w' ⟨s0, s1⟩
           go_simp
           with_reducible rfl
          rotate_left
          ·simp only [Act.put, zs, zz, zt, i64_w, i32_w]
           rfl
          refine join_ (σ := Nat) 2 #[true, true, true, true, true, true, true, true, true, true, true, true, true, false, false] (fun s_ => [(52, .int .i64 t374), (56, .string t375), (57, .tuple #[.agg #[.int .i64 t376, .string t377], .bool false]), (14, .pointer (some ⟨s_, 0, none⟩)), (53, .int .i64 (wrap64 (t374 + 1))), (55, .int .i64 (wrap64 ((wrap64 (t374 + 1)) + x45_2))), (48, .tuple #[.agg #[.int .i64 t376, .string t377], .bool false]), (58, .agg #[.int .i64 t376, .string t377]), (59, .bool false)]) (fun s_ w' => (w'.cell? ⟨gb361, 0, none⟩ = some (.slice A0_0 l0_0.length c0_0) ∧ w'.cell? ⟨gb361, 1, none⟩ = some (.slice A0_1 l0_1.length c0_1)) ∧ (Kd.R (Kd.int .i64) 3 w' w.heap.size (fun _ => True) (.slice (some ad372) t364.length co25) t364) ∧ (Kd.R k45 45 w' w.heap.size (fun k_ => k_ ≠ s_) u12 x12_2) ∧ (w'.heap[gb361]? = some (.cells #[.slice A0_0 l0_0.length c0_0, .slice A0_1 l0_1.length c0_1] 32 (0, 0))) ∧ (w'.heap[s_]? = some (.cells #[.int .i64 0, .string (⟨#[]⟩ : ByteArray)] 45 (0, 0))) ∧ (w.heap.size ≤ s_) ∧ (w.heap.size ≤ s_) ∧ (gb361 ≠ s_) ∧ (s_ ≠ gb361) ∧ (Below w.heap.size w w')) ?_ ?_
          rotate_left
          ·intro hCont
           refine two_ (i := 3) (j := 12) (Ni := some 52) (Nj := some 14) #[true, true, true, true, false, true, false, false, false, false, false, false, false, false, false] #[true, true, true, false, false, true, false, false, false, false, false, false, true, false, false] rfl rfl rfl rfl (two_of HT_.out (by kernel_rfl)) (by decide) (by decide) (fun K hK => ?_) (fun K hK => ?_)
           ·skip
            refine goes_ Try.func35 (by kernel_rfl) rfl #[.int .i64 a2] (by rfl) rfl rfl zq ?_
            with_reducible refine (impl_slot.calls a2 t374 _ A27.out).mono ?_
            rintro e w' ⟨rfl, ⟨nd, rfl⟩⟩
            refine ⟨_, rfl, ?_⟩
            refine hK.out _ _ ⟨(blk_cell Za.out 0).trans rfl, (blk_cell Za.out 1).trans rfl⟩ (fun hHeld => ?_)
            clear hK K
            refine norm_ (a' := ?_) ?_ ?_
            rotate_left
            ·show Act.put _ (some 52) _ = _
             simp only [Act.put, zs, zz, zt, i64_w, i32_w]
             rfl
            refine pure_ (i := 4) (N := some 53) (v := ?_) (a' := ?_) #[true, true, true, true, true, true, false, false, false, false, false, false, false, false, false] rfl rfl (any_of HT_.out (by kernel_rfl)) (fun _ _ _ h => h) (Or.inl ⟨by rfl, ?_⟩) ?_ ?_
            rotate_left
            ·intro w'
             go_simp
             with_reducible rfl
            rotate_left
            ·simp only [Act.put, zs, zz, zt, i64_w, i32_w]
             rfl
            refine pure_ (i := 6) (N := some 55) (v := ?_) (a' := ?_) #[true, true, true, true, true, true, true, false, false, false, false, false, false, false, false] rfl rfl (any_of HT_.out (by kernel_rfl)) (fun _ _ _ h => h) (Or.inl ⟨by rfl, ?_⟩) ?_ ?_
            rotate_left
            ·intro w'
             go_simp
             with_reducible rfl
            rotate_left
            ·simp only [Act.put, zs, zz, zt, i64_w, i32_w]
             rfl
            refine two_ (i := 7) (j := 12) (Ni := some 56) (Nj := some 14) #[true, true, true, true, true, true, true, true, false, false, false, false, false, false, false] #[true, true, true, true, true, true, true, false, false, false, false, false, true, false, false] rfl rfl rfl rfl (two_of HT_.out (by kernel_rfl)) (by decide) (by decide) (fun K hK => ?_) (fun K hK => ?_)
            ·skip
             refine goes_ Try.func61 (by kernel_rfl) rfl #[.agg #[.slice A0_0 l0_0.length c0_0, .slice A0_1 l0_1.length c0_1], .int .i64 a1, .int .i64 (wrap64 ((wrap64 (t374 + 1)) + x45_2))] (by rfl) rfl rfl zq ?_
             with_reducible refine (impl_Disk_read.calls _ _ l0_0 _ _ l0_1 a1 (wrap64 ((wrap64 (t374 + 1)) + x45_2)) t375 _ ?side1 ?side2 ?side3 ?side4 A28.out).mono ?_
             (case side1 => exact zC (Kd.C_below Zj.out (zg_1 HB.out Zd.out)))
             (case side2 => exact Zk.out)
             (case side3 => exact zC (Kd.C_below Zl.out (zg_1 HB.out Zd.out)))
             (case side4 => exact Zm.out)
             rintro e w43 ⟨rfl, hb⟩
             refine ⟨_, rfl, ?_⟩
             have n0_ := zm (Kd.R_below (zg_2 Zb.out) hb); have n1_ := zm (Kd.R_below (zg_2 Zc.out) hb); have n2_ := zm (blk_below (g := gb361) (o := .cells #[.slice A0_0 l0_0.length c0_0, .slice A0_1 l0_1.length c0_1] 32 (0, 0)) (zg_3 Za.out) hb); have n3_ := zm (below_step (zg_1 HB.out Zd.out) hb); clear Zb; clear Zc; clear Za; clear HB; have Zb := n0_; have Zc := n1_; have Za := n2_; have HB := n3_; clear n0_ n1_ n2_ n3_
             (try clear hb)
             (try clear hb2)
             (try clear hk)
             (try clear hi)
             refine hK.out _ _ ⟨(blk_cell Za.out 0).trans rfl, (blk_cell Za.out 1).trans rfl⟩ (fun hHeld => ?_)
             clear hK K
             refine norm_ (a' := ?_) ?_ ?_
             rotate_left
             ·show Act.put _ (some 56) _ = _
              simp only [Act.put, zs, zz, zt, i64_w, i32_w]
              rfl
             refine two_ (i := 8) (j := 12) (Ni := some 57) (Nj := some 14) #[true, true, true, true, true, true, true, true, true, false, false, false, false, false, false] #[true, true, true, true, true, true, true, true, false, false, false, false, true, false, false] rfl rfl rfl rfl (two_of HT_.out (by kernel_rfl)) (by decide) (by decide) (fun K hK => ?_) (fun K hK => ?_)
             ·skip
              refine goes_ Try.func63 (by kernel_rfl) rfl #[.string t375] (by rfl) rfl rfl zq ?_
              with_reducible refine (impl_updateOf.calls k2 t375 t376 t377 false _ A29.out).mono ?_
              rintro e w44 ⟨rfl, hb⟩
              refine ⟨_, rfl, ?_⟩
              have n0_ := zm (Kd.R_below (zg_2 Zb.out) hb); have n1_ := zm (Kd.R_below (zg_2 Zc.out) hb); have n2_ := zm (blk_below (g := gb361) (o := .cells #[.slice A0_0 l0_0.length c0_0, .slice A0_1 l0_1.length c0_1] 32 (0, 0)) (zg_3 Za.out) hb); have n3_ := zm (below_step (zg_1 HB.out Zd.out) hb); clear Zb; clear Zc; clear Za; clear HB; have Zb := n0_; have Zc := n1_; have Za := n2_; have HB := n3_; clear n0_ n1_ n2_ n3_
              (try clear hb)
              (try clear hb2)
              (try clear hk)
              (try clear hi)
              refine hK.out _ _ ⟨(blk_cell Za.out 0).trans rfl, (blk_cell Za.out 1).trans rfl⟩ (fun hHeld => ?_)
              clear hK K
              refine norm_ (a' := ?_) ?_ ?_
              rotate_left
              ·show Act.put _ (some 57) _ = _
               simp only [Act.put, zs, zz, zt, i64_w, i32_w]
               rfl
              refine pure_ (i := 9) (N := some 48) (v := ?_) (a' := ?_) #[true, true, true, true, true, true, true, true, true, true, false, false, false, false, false] rfl rfl (any_of HT_.out (by kernel_rfl)) (fun _ _ _ h => h) (Or.inl ⟨by rfl, ?_⟩) ?_ ?_
              rotate_left
              ·intro w'
               go_simp
               with_reducible rfl
              rotate_left
              ·simp only [Act.put, zs, zz, zt, i64_w, i32_w]
               rfl
              refine pure_ (i := 10) (N := some 58) (v := ?_) (a' := ?_) #[true, true, true, true, true, true, true, true, true, true, true, false, false, false, false] rfl rfl (any_of HT_.out (by kernel_rfl)) (fun _ _ _ h => h) (Or.inl ⟨by rfl, ?_⟩) ?_ ?_
              rotate_left
              ·intro w'
               go_simp
               with_reducible rfl
              rotate_left
              ·simp only [Act.put, zs, zz, zt, i64_w, i32_w]
               rfl
              refine pure_ (i := 11) (N := some 59) (v := ?_) (a' := ?_) #[true, true, true, true, true, true, true, true, true, true, true, true, false, false, false] rfl rfl (any_of HT_.out (by kernel_rfl)) (fun _ _ _ h => h) (Or.inl ⟨by rfl, ?_⟩) ?_ ?_
              rotate_left
              ·intro w'
               go_simp
               with_reducible rfl
              rotate_left
              ·simp only [Act.put, zs, zz, zt, i64_w, i32_w]
               rfl
              refine one_ (i := 12) (N := some 14) #[true, true, true, true, true, true, true, true, true, true, true, true, true, false, false] rfl rfl (one_of HT_.out (by kernel_rfl)) (by decide) (fun K hK => ?_)
              refine box_step ?hg (N := 14) ?hd (cs := #[.int .i64 0, .string (⟨#[]⟩ : ByteArray)]) (t := 45) ?hr ?_; (case hd => rfl); (case hg => rfl); (case hr => first | (go_simp; done) | (go_simp; rfl))
              intro gb379 hg w45 hbox hb
              have n0_ := zm (Kd.R_below (zg_2 Zb.out) hb); have n1_ := zm (Kd.R_below (Kd.R_elderB (zg_2 Zc.out) gb379 (Nat.le_of_eq hg.symm)) hb); have n2_ := zm (blk_below (g := gb361) (o := .cells #[.slice A0_0 l0_0.length c0_0, .slice A0_1 l0_1.length c0_1] 32 (0, 0)) (zg_3 Za.out) hb); have n3_ := zm (below_step (zg_1 HB.out Zd.out) hb); have n4_ := zm (hbox); have n5_ := zm ((by rw [hg]; exact (below_size (zg_1 HB.out Zd.out)) : w.heap.size ≤ gb379)); have n6_ := zm ((by rw [hg]; exact (below_size (zg_1 HB.out Zd.out)) : w.heap.size ≤ gb379)); have n7_ := zm ((by rw [hg]; exact Nat.ne_of_lt (blk_lt (g := gb361) (o := .cells #[.slice A0_0 l0_0.length c0_0, .slice A0_1 l0_1.length c0_1] 32 (0, 0)) (zg_3 Za.out)) : gb361 ≠ gb379)); have n8_ := zm ((by rw [hg]; exact Nat.ne_of_gt (blk_lt (g := gb361) (o := .cells #[.slice A0_0 l0_0.length c0_0, .slice A0_1 l0_1.length c0_1] 32 (0, 0)) (zg_3 Za.out)) : gb379 ≠ gb361)); clear Zb; clear Zc; clear Za; clear HB; have Zb := n0_; have Zc := n1_; have Za := n2_; have HB := n3_; have Zf := n4_; have Zi := n5_; have Zh := n6_; have Ze := n7_; have Zg := n8_; clear n0_ n1_ n2_ n3_ n4_ n5_ n6_ n7_ n8_; clear hb hbox hg
              refine hK.out _ _ ⟨(blk_cell Za.out 0).trans rfl, (blk_cell Za.out 1).trans rfl⟩ (fun hHeld => ?_)
              clear hK K
              refine norm_ (a' := ?_) ?_ ?_
              rotate_left
              ·show Act.put _ (some 14) _ = _
               simp only [Act.put, zs, zz, zt, i64_w, i32_w]
               rfl
              exact norm_ (by simp only [putAll, Act.put, zs, zz, zt]) (hCont (gb379) _ ⟨hHeld, (zg_2 Zb.out), (by (with_reducible repeat (first | apply Kd.R_alloc | apply Kd.R_drewN | apply Kd.R_drew)); exact Kd.R_mono Zc.out (fun _ hk => hk.2)), (zg_3 Za.out), (zg_3 Zf.out), Zi.out, Zh.out, Ze.out, Zg.out, (zg_4 HB.out Zd.out Zh.out)⟩)
             ·skip
              refine box_step ?hg (N := 14) ?hd (cs := #[.int .i64 0, .string (⟨#[]⟩ : ByteArray)]) (t := 45) ?hr ?_; (case hd => rfl); (case hg => rfl); (case hr => first | (go_simp; done) | (go_simp; rfl))
              intro gb379 hg w44 hbox hb
              have n0_ := zm (Kd.R_below (zg_2 Zb.out) hb); have n1_ := zm (Kd.R_below (Kd.R_elderB (zg_2 Zc.out) gb379 (Nat.le_of_eq hg.symm)) hb); have n2_ := zm (blk_below (g := gb361) (o := .cells #[.slice A0_0 l0_0.length c0_0, .slice A0_1 l0_1.length c0_1] 32 (0, 0)) (zg_3 Za.out) hb); have n3_ := zm (below_step (zg_1 HB.out Zd.out) hb); have n4_ := zm (hbox); have n5_ := zm ((by rw [hg]; exact (below_size (zg_1 HB.out Zd.out)) : w.heap.size ≤ gb379)); have n6_ := zm ((by rw [hg]; exact (below_size (zg_1 HB.out Zd.out)) : w.heap.size ≤ gb379)); have n7_ := zm ((by rw [hg]; exact Nat.ne_of_lt (blk_lt (g := gb361) (o := .cells #[.slice A0_0 l0_0.length c0_0, .slice A0_1 l0_1.length c0_1] 32 (0, 0)) (zg_3 Za.out)) : gb361 ≠ gb379)); have n8_ := zm ((by rw [hg]; exact Nat.ne_of_gt (blk_lt (g := gb361) (o := .cells #[.slice A0_0 l0_0.length c0_0, .slice A0_1 l0_1.length c0_1] 32 (0, 0)) (zg_3 Za.out)) : gb379 ≠ gb361)); clear Zb; clear Zc; clear Za; clear HB; have Zb := n0_; have Zc := n1_; have Za := n2_; have HB := n3_; have Zf := n4_; have Zi := n5_; have Zh := n6_; have Ze := n7_; have Zg := n8_; clear n0_ n1_ n2_ n3_ n4_ n5_ n6_ n7_ n8_; clear hb hbox hg
              refine hK.out _ _ ⟨(blk_cell Za.out 0).trans rfl, (blk_cell Za.out 1).trans rfl⟩ (fun hHeld => ?_)
              clear hK K
              refine norm_ (a' := ?_) ?_ ?_
              rotate_left
              ·show Act.put _ (some 14) _ = _
               simp only [Act.put, zs, zz, zt, i64_w, i32_w]
               rfl
              refine one_ (i := 8) (N := some 57) #[true, true, true, true, true, true, true, true, true, false, false, false, true, false, false] rfl rfl (one_of HT_.out (by kernel_rfl)) (by decide) (fun K hK => ?_)
              refine goes_ Try.func63 (by kernel_rfl) rfl #[.string t375] (by rfl) rfl rfl zq ?_
              with_reducible refine (impl_updateOf.calls k2 t375 t376 t377 false _ A29.out).mono ?_
              rintro e w45 ⟨rfl, hb⟩
              refine ⟨_, rfl, ?_⟩
              have n0_ := zm (Kd.R_below (zg_2 Zb.out) hb); have n1_ := zm (Kd.R_below (zg_2 Zc.out) hb); have n2_ := zm (blk_below (g := gb361) (o := .cells #[.slice A0_0 l0_0.length c0_0, .slice A0_1 l0_1.length c0_1] 32 (0, 0)) (zg_3 Za.out) hb); have n3_ := zm (blk_below (g := gb379) (o := .cells #[.int .i64 0, .string (⟨#[]⟩ : ByteArray)] 45 (0, 0)) (zg_3 Zf.out) hb); have n4_ := zm (below_step (zg_4 HB.out Zd.out Zh.out) hb); clear Zb; clear Zc; clear Za; clear Zf; clear HB; have Zb := n0_; have Zc := n1_; have Za := n2_; have Zf := n3_; have HB := n4_; clear n0_ n1_ n2_ n3_ n4_
              (try clear hb)
              (try clear hb2)
              (try clear hk)
              (try clear hi)
              refine hK.out _ _ ⟨(blk_cell Za.out 0).trans rfl, (blk_cell Za.out 1).trans rfl⟩ (fun hHeld => ?_)
              clear hK K
              refine norm_ (a' := ?_) ?_ ?_
              rotate_left
              ·show Act.put _ (some 57) _ = _
               simp only [Act.put, zs, zz, zt, i64_w, i32_w]
               rfl
              refine pure_ (i := 9) (N := some 48) (v := ?_) (a' := ?_) #[true, true, true, true, true, true, true, true, true, true, false, false, true, false, false] rfl rfl (any_of HT_.out (by kernel_rfl)) (fun _ _ _ h => h) (Or.inl ⟨by rfl, ?_⟩) ?_ ?_
              rotate_left
              ·intro w'
               go_simp
               with_reducible rfl
              rotate_left
              ·simp only [Act.put, zs, zz, zt, i64_w, i32_w]
               rfl
              refine pure_ (i := 10) (N := some 58) (v := ?_) (a' := ?_) #[true, true, true, true, true, true, true, true, true, true, true, false, true, false, false] rfl rfl (any_of HT_.out (by kernel_rfl)) (fun _ _ _ h => h) (Or.inl ⟨by rfl, ?_⟩) ?_ ?_
              rotate_left
              ·intro w'
               go_simp
               with_reducible rfl
              rotate_left
              ·simp only [Act.put, zs, zz, zt, i64_w, i32_w]
               rfl
              refine pure_ (i := 11) (N := some 59) (v := ?_) (a' := ?_) #[true, true, true, true, true, true, true, true, true, true, true, true, true, false, false] rfl rfl (any_of HT_.out (by kernel_rfl)) (fun _ _ _ h => h) (Or.inl ⟨by rfl, ?_⟩) ?_ ?_
              rotate_left
              ·intro w'
               go_simp
               with_reducible rfl
              rotate_left
              ·simp only [Act.put, zs, zz, zt, i64_w, i32_w]
               rfl
              exact norm_ (by simp only [putAll, Act.put, zs, zz, zt]) (hCont (gb379) _ ⟨hHeld, (zg_2 Zb.out), (by (with_reducible repeat (first | apply Kd.R_alloc | apply Kd.R_drewN | apply Kd.R_drew)); exact Kd.R_mono Zc.out (fun _ hk => hk.2)), (zg_3 Za.out), (zg_3 Zf.out), Zi.out, Zh.out, Ze.out, Zg.out, (zg_4 HB.out Zd.out Zh.out)⟩)
            ·skip
             refine box_step ?hg (N := 14) ?hd (cs := #[.int .i64 0, .string (⟨#[]⟩ : ByteArray)]) (t := 45) ?hr ?_; (case hd => rfl); (case hg => rfl); (case hr => first | (go_simp; done) | (go_simp; rfl))
             intro gb379 hg w43 hbox hb
             have n0_ := zm (Kd.R_below (zg_2 Zb.out) hb); have n1_ := zm (Kd.R_below (Kd.R_elderB (zg_2 Zc.out) gb379 (Nat.le_of_eq hg.symm)) hb); have n2_ := zm (blk_below (g := gb361) (o := .cells #[.slice A0_0 l0_0.length c0_0, .slice A0_1 l0_1.length c0_1] 32 (0, 0)) (zg_3 Za.out) hb); have n3_ := zm (below_step (zg_1 HB.out Zd.out) hb); have n4_ := zm (hbox); have n5_ := zm ((by rw [hg]; exact (below_size (zg_1 HB.out Zd.out)) : w.heap.size ≤ gb379)); have n6_ := zm ((by rw [hg]; exact (below_size (zg_1 HB.out Zd.out)) : w.heap.size ≤ gb379)); have n7_ := zm ((by rw [hg]; exact Nat.ne_of_lt (blk_lt (g := gb361) (o := .cells #[.slice A0_0 l0_0.length c0_0, .slice A0_1 l0_1.length c0_1] 32 (0, 0)) (zg_3 Za.out)) : gb361 ≠ gb379)); have n8_ := zm ((by rw [hg]; exact Nat.ne_of_gt (blk_lt (g := gb361) (o := .cells #[.slice A0_0 l0_0.length c0_0, .slice A0_1 l0_1.length c0_1] 32 (0, 0)) (zg_3 Za.out)) : gb379 ≠ gb361)); clear Zb; clear Zc; clear Za; clear HB; have Zb := n0_; have Zc := n1_; have Za := n2_; have HB := n3_; have Zf := n4_; have Zi := n5_; have Zh := n6_; have Ze := n7_; have Zg := n8_; clear n0_ n1_ n2_ n3_ n4_ n5_ n6_ n7_ n8_; clear hb hbox hg
             refine hK.out _ _ ⟨(blk_cell Za.out 0).trans rfl, (blk_cell Za.out 1).trans rfl⟩ (fun hHeld => ?_)
             clear hK K
             refine norm_ (a' := ?_) ?_ ?_
             rotate_left
             ·show Act.put _ (some 14) _ = _
              simp only [Act.put, zs, zz, zt, i64_w, i32_w]
              rfl
             refine one_ (i := 7) (N := some 56) #[true, true, true, true, true, true, true, true, false, false, false, false, true, false, false] rfl rfl (one_of HT_.out (by kernel_rfl)) (by decide) (fun K hK => ?_)
             refine goes_ Try.func61 (by kernel_rfl) rfl #[.agg #[.slice A0_0 l0_0.length c0_0, .slice A0_1 l0_1.length c0_1], .int .i64 a1, .int .i64 (wrap64 ((wrap64 (t374 + 1)) + x45_2))] (by rfl) rfl rfl zq ?_
             with_reducible refine (impl_Disk_read.calls _ _ l0_0 _ _ l0_1 a1 (wrap64 ((wrap64 (t374 + 1)) + x45_2)) t375 _ ?side1 ?side2 ?side3 ?side4 A28.out).mono ?_
             (case side1 => exact zC (Kd.C_below Zj.out HB.out))
             (case side2 => exact Zk.out)
             (case side3 => exact zC (Kd.C_below Zl.out HB.out))
             (case side4 => exact Zm.out)
             rintro e w44 ⟨rfl, hb⟩
             refine ⟨_, rfl, ?_⟩
             have n0_ := zm (Kd.R_below (zg_2 Zb.out) hb); have n1_ := zm (Kd.R_below (zg_2 Zc.out) hb); have n2_ := zm (blk_below (g := gb361) (o := .cells #[.slice A0_0 l0_0.length c0_0, .slice A0_1 l0_1.length c0_1] 32 (0, 0)) (zg_3 Za.out) hb); have n3_ := zm (blk_below (g := gb379) (o := .cells #[.int .i64 0, .string (⟨#[]⟩ : ByteArray)] 45 (0, 0)) (zg_3 Zf.out) hb); have n4_ := zm (below_step (zg_4 HB.out Zd.out Zh.out) hb); clear Zb; clear Zc; clear Za; clear Zf; clear HB; have Zb := n0_; have Zc := n1_; have Za := n2_; have Zf := n3_; have HB := n4_; clear n0_ n1_ n2_ n3_ n4_
             (try clear hb)
             (try clear hb2)
             (try clear hk)
             (try clear hi)
             refine hK.out _ _ ⟨(blk_cell Za.out 0).trans rfl, (blk_cell Za.out 1).trans rfl⟩ (fun hHeld => ?_)
             clear hK K
             refine norm_ (a' := ?_) ?_ ?_
             rotate_left
             ·show Act.put _ (some 56) _ = _
              simp only [Act.put, zs, zz, zt, i64_w, i32_w]
              rfl
             refine one_ (i := 8) (N := some 57) #[true, true, true, true, true, true, true, true, true, false, false, false, true, false, false] rfl rfl (one_of HT_.out (by kernel_rfl)) (by decide) (fun K hK => ?_)
             refine goes_ Try.func63 (by kernel_rfl) rfl #[.string t375] (by rfl) rfl rfl zq ?_
             with_reducible refine (impl_updateOf.calls k2 t375 t376 t377 false _ A29.out).mono ?_
             rintro e w45 ⟨rfl, hb⟩
             refine ⟨_, rfl, ?_⟩
             have n0_ := zm (Kd.R_below (zg_2 Zb.out) hb); have n1_ := zm (Kd.R_below (zg_2 Zc.out) hb); have n2_ := zm (blk_below (g := gb361) (o := .cells #[.slice A0_0 l0_0.length c0_0, .slice A0_1 l0_1.length c0_1] 32 (0, 0)) (zg_3 Za.out) hb); have n3_ := zm (blk_below (g := gb379) (o := .cells #[.int .i64 0, .string (⟨#[]⟩ : ByteArray)] 45 (0, 0)) (zg_3 Zf.out) hb); have n4_ := zm (below_step (zg_4 HB.out Zd.out Zh.out) hb); clear Zb; clear Zc; clear Za; clear Zf; clear HB; have Zb := n0_; have Zc := n1_; have Za := n2_; have Zf := n3_; have HB := n4_; clear n0_ n1_ n2_ n3_ n4_
             (try clear hb)
             (try clear hb2)
             (try clear hk)
             (try clear hi)
             refine hK.out _ _ ⟨(blk_cell Za.out 0).trans rfl, (blk_cell Za.out 1).trans rfl⟩ (fun hHeld => ?_)
             clear hK K
             refine norm_ (a' := ?_) ?_ ?_
             rotate_left
             ·show Act.put _ (some 57) _ = _
              simp only [Act.put, zs, zz, zt, i64_w, i32_w]
              rfl
             refine pure_ (i := 9) (N := some 48) (v := ?_) (a' := ?_) #[true, true, true, true, true, true, true, true, true, true, false, false, true, false, false] rfl rfl (any_of HT_.out (by kernel_rfl)) (fun _ _ _ h => h) (Or.inl ⟨by rfl, ?_⟩) ?_ ?_
             rotate_left
             ·intro w'
              go_simp
              with_reducible rfl
             rotate_left
             ·simp only [Act.put, zs, zz, zt, i64_w, i32_w]
              rfl
             refine pure_ (i := 10) (N := some 58) (v := ?_) (a' := ?_) #[true, true, true, true, true, true, true, true, true, true, true, false, true, false, false] rfl rfl (any_of HT_.out (by kernel_rfl)) (fun _ _ _ h => h) (Or.inl ⟨by rfl, ?_⟩) ?_ ?_
             rotate_left
             ·intro w'
              go_simp
              with_reducible rfl
             rotate_left
             ·simp only [Act.put, zs, zz, zt, i64_w, i32_w]
              rfl
             refine pure_ (i := 11) (N := some 59) (v := ?_) (a' := ?_) #[true, true, true, true, true, true, true, true, true, true, true, true, true, false, false] rfl rfl (any_of HT_.out (by kernel_rfl)) (fun _ _ _ h => h) (Or.inl ⟨by rfl, ?_⟩) ?_ ?_
             rotate_left
             ·intro w'
              go_simp
              with_reducible rfl
             rotate_left
             ·simp only [Act.put, zs, zz, zt, i64_w, i32_w]
              rfl
             exact norm_ (by simp only [putAll, Act.put, zs, zz, zt]) (hCont (gb379) _ ⟨hHeld, (zg_2 Zb.out), (by (with_reducible repeat (first | apply Kd.R_alloc | apply Kd.R_drewN | apply Kd.R_drew)); exact Kd.R_mono Zc.out (fun _ hk => hk.2)), (zg_3 Za.out), (zg_3 Zf.out), Zi.out, Zh.out, Ze.out, Zg.out, (zg_4 HB.out Zd.out Zh.out)⟩)
           ·skip
            refine box_step ?hg (N := 14) ?hd (cs := #[.int .i64 0, .string (⟨#[]⟩ : ByteArray)]) (t := 45) ?hr ?_; (case hd => rfl); (case hg => rfl); (case hr => first | (go_simp; done) | (go_simp; rfl))
            intro gb379 hg w43 hbox hb
            have n0_ := zm (Kd.R_below (zg_2 Zb.out) hb); have n1_ := zm (Kd.R_below (Kd.R_elderB (zg_2 Zc.out) gb379 (Nat.le_of_eq hg.symm)) hb); have n2_ := zm (blk_below (g := gb361) (o := .cells #[.slice A0_0 l0_0.length c0_0, .slice A0_1 l0_1.length c0_1] 32 (0, 0)) (zg_3 Za.out) hb); have n3_ := zm (below_step (zg_1 HB.out Zd.out) hb); have n4_ := zm (hbox); have n5_ := zm ((by rw [hg]; exact (below_size (zg_1 HB.out Zd.out)) : w.heap.size ≤ gb379)); have n6_ := zm ((by rw [hg]; exact (below_size (zg_1 HB.out Zd.out)) : w.heap.size ≤ gb379)); have n7_ := zm ((by rw [hg]; exact Nat.ne_of_lt (blk_lt (g := gb361) (o := .cells #[.slice A0_0 l0_0.length c0_0, .slice A0_1 l0_1.length c0_1] 32 (0, 0)) (zg_3 Za.out)) : gb361 ≠ gb379)); have n8_ := zm ((by rw [hg]; exact Nat.ne_of_gt (blk_lt (g := gb361) (o := .cells #[.slice A0_0 l0_0.length c0_0, .slice A0_1 l0_1.length c0_1] 32 (0, 0)) (zg_3 Za.out)) : gb379 ≠ gb361)); clear Zb; clear Zc; clear Za; clear HB; have Zb := n0_; have Zc := n1_; have Za := n2_; have HB := n3_; have Zf := n4_; have Zi := n5_; have Zh := n6_; have Ze := n7_; have Zg := n8_; clear n0_ n1_ n2_ n3_ n4_ n5_ n6_ n7_ n8_; clear hb hbox hg
            refine hK.out _ _ ⟨(blk_cell Za.out 0).trans rfl, (blk_cell Za.out 1).trans rfl⟩ (fun hHeld => ?_)
            clear hK K
            refine norm_ (a' := ?_) ?_ ?_
            rotate_left
            ·show Act.put _ (some 14) _ = _
             simp only [Act.put, zs, zz, zt, i64_w, i32_w]
             rfl
            refine one_ (i := 3) (N := some 52) #[true, true, true, true, false, true, false, false, false, false, false, false, true, false, false] rfl rfl (one_of HT_.out (by kernel_rfl)) (by decide) (fun K hK => ?_)
            refine goes_ Try.func35 (by kernel_rfl) rfl #[.int .i64 a2] (by rfl) rfl rfl zq ?_
            with_reducible refine (impl_slot.calls a2 t374 _ A27.out).mono ?_
            rintro e w' ⟨rfl, ⟨nd, rfl⟩⟩
            refine ⟨_, rfl, ?_⟩
            refine hK.out _ _ ⟨(blk_cell Za.out 0).trans rfl, (blk_cell Za.out 1).trans rfl⟩ (fun hHeld => ?_)
            clear hK K
            refine norm_ (a' := ?_) ?_ ?_
            rotate_left
            ·show Act.put _ (some 52) _ = _
             simp only [Act.put, zs, zz, zt, i64_w, i32_w]
             rfl
            refine pure_ (i := 4) (N := some 53) (v := ?_) (a' := ?_) #[true, true, true, true, true, true, false, false, false, false, false, false, true, false, false] rfl rfl (any_of HT_.out (by kernel_rfl)) (fun _ _ _ h => h) (Or.inl ⟨by rfl, ?_⟩) ?_ ?_
            rotate_left
            ·intro w'
             go_simp
             with_reducible rfl
            rotate_left
            ·simp only [Act.put, zs, zz, zt, i64_w, i32_w]
             rfl
            refine pure_ (i := 6) (N := some 55) (v := ?_) (a' := ?_) #[true, true, true, true, true, true, true, false, false, false, false, false, true, false, false] rfl rfl (any_of HT_.out (by kernel_rfl)) (fun _ _ _ h => h) (Or.inl ⟨by rfl, ?_⟩) ?_ ?_
            rotate_left
            ·intro w'
             go_simp
             with_reducible rfl
            rotate_left
            ·simp only [Act.put, zs, zz, zt, i64_w, i32_w]
             rfl
            refine one_ (i := 7) (N := some 56) #[true, true, true, true, true, true, true, true, false, false, false, false, true, false, false] rfl rfl (one_of HT_.out (by kernel_rfl)) (by decide) (fun K hK => ?_)
            refine goes_ Try.func61 (by kernel_rfl) rfl #[.agg #[.slice A0_0 l0_0.length c0_0, .slice A0_1 l0_1.length c0_1], .int .i64 a1, .int .i64 (wrap64 ((wrap64 (t374 + 1)) + x45_2))] (by rfl) rfl rfl zq ?_
            with_reducible refine (impl_Disk_read.calls _ _ l0_0 _ _ l0_1 a1 (wrap64 ((wrap64 (t374 + 1)) + x45_2)) t375 _ ?side1 ?side2 ?side3 ?side4 A28.out).mono ?_
            (case side1 => exact zC (Kd.C_below Zj.out (zg_4 HB.out Zd.out Zh.out)))
            (case side2 => exact Zk.out)
            (case side3 => exact zC (Kd.C_below Zl.out (zg_4 HB.out Zd.out Zh.out)))
            (case side4 => exact Zm.out)
            rintro e w44 ⟨rfl, hb⟩
            refine ⟨_, rfl, ?_⟩
            have n0_ := zm (Kd.R_below (zg_2 Zb.out) hb); have n1_ := zm (Kd.R_below (zg_2 Zc.out) hb); have n2_ := zm (blk_below (g := gb361) (o := .cells #[.slice A0_0 l0_0.length c0_0, .slice A0_1 l0_1.length c0_1] 32 (0, 0)) (zg_3 Za.out) hb); have n3_ := zm (blk_below (g := gb379) (o := .cells #[.int .i64 0, .string (⟨#[]⟩ : ByteArray)] 45 (0, 0)) (zg_3 Zf.out) hb); have n4_ := zm (below_step (zg_4 HB.out Zd.out Zh.out) hb); clear Zb; clear Zc; clear Za; clear Zf; clear HB; have Zb := n0_; have Zc := n1_; have Za := n2_; have Zf := n3_; have HB := n4_; clear n0_ n1_ n2_ n3_ n4_
            (try clear hb)
            (try clear hb2)
            (try clear hk)
            (try clear hi)
            refine hK.out _ _ ⟨(blk_cell Za.out 0).trans rfl, (blk_cell Za.out 1).trans rfl⟩ (fun hHeld => ?_)
            clear hK K
            refine norm_ (a' := ?_) ?_ ?_
            rotate_left
            ·show Act.put _ (some 56) _ = _
             simp only [Act.put, zs, zz, zt, i64_w, i32_w]
             rfl
            refine one_ (i := 8) (N := some 57) #[true, true, true, true, true, true, true, true, true, false, false, false, true, false, false] rfl rfl (one_of HT_.out (by kernel_rfl)) (by decide) (fun K hK => ?_)
            refine goes_ Try.func63 (by kernel_rfl) rfl #[.string t375] (by rfl) rfl rfl zq ?_
            with_reducible refine (impl_updateOf.calls k2 t375 t376 t377 false _ A29.out).mono ?_
            rintro e w45 ⟨rfl, hb⟩
            refine ⟨_, rfl, ?_⟩
            have n0_ := zm (Kd.R_below (zg_2 Zb.out) hb); have n1_ := zm (Kd.R_below (zg_2 Zc.out) hb); have n2_ := zm (blk_below (g := gb361) (o := .cells #[.slice A0_0 l0_0.length c0_0, .slice A0_1 l0_1.length c0_1] 32 (0, 0)) (zg_3 Za.out) hb); have n3_ := zm (blk_below (g := gb379) (o := .cells #[.int .i64 0, .string (⟨#[]⟩ : ByteArray)] 45 (0, 0)) (zg_3 Zf.out) hb); have n4_ := zm (below_step (zg_4 HB.out Zd.out Zh.out) hb); clear Zb; clear Zc; clear Za; clear Zf; clear HB; have Zb := n0_; have Zc := n1_; have Za := n2_; have Zf := n3_; have HB := n4_; clear n0_ n1_ n2_ n3_ n4_
            (try clear hb)
            (try clear hb2)
            (try clear hk)
            (try clear hi)
            refine hK.out _ _ ⟨(blk_cell Za.out 0).trans rfl, (blk_cell Za.out 1).trans rfl⟩ (fun hHeld => ?_)
            clear hK K
            refine norm_ (a' := ?_) ?_ ?_
            rotate_left
            ·show Act.put _ (some 57) _ = _
             simp only [Act.put, zs, zz, zt, i64_w, i32_w]
             rfl
            refine pure_ (i := 9) (N := some 48) (v := ?_) (a' := ?_) #[true, true, true, true, true, true, true, true, true, true, false, false, true, false, false] rfl rfl (any_of HT_.out (by kernel_rfl)) (fun _ _ _ h => h) (Or.inl ⟨by rfl, ?_⟩) ?_ ?_
            rotate_left
            ·intro w'
             go_simp
             with_reducible rfl
            rotate_left
            ·simp only [Act.put, zs, zz, zt, i64_w, i32_w]
             rfl
            refine pure_ (i := 10) (N := some 58) (v := ?_) (a' := ?_) #[true, true, true, true, true, true, true, true, true, true, true, false, true, false, false] rfl rfl (any_of HT_.out (by kernel_rfl)) (fun _ _ _ h => h) (Or.inl ⟨by rfl, ?_⟩) ?_ ?_
            rotate_left
            ·intro w'
             go_simp
             with_reducible rfl
            rotate_left
            ·simp only [Act.put, zs, zz, zt, i64_w, i32_w]
             rfl
            refine pure_ (i := 11) (N := some 59) (v := ?_) (a' := ?_) #[true, true, true, true, true, true, true, true, true, true, true, true, true, false, false] rfl rfl (any_of HT_.out (by kernel_rfl)) (fun _ _ _ h => h) (Or.inl ⟨by rfl, ?_⟩) ?_ ?_
            rotate_left
            ·intro w'
             go_simp
             with_reducible rfl
            rotate_left
            ·simp only [Act.put, zs, zz, zt, i64_w, i32_w]
             rfl
            exact norm_ (by simp only [putAll, Act.put, zs, zz, zt]) (hCont (gb379) _ ⟨hHeld, (zg_2 Zb.out), (by (with_reducible repeat (first | apply Kd.R_alloc | apply Kd.R_drewN | apply Kd.R_drew)); exact Kd.R_mono Zc.out (fun _ hk => hk.2)), (zg_3 Za.out), (zg_3 Zf.out), Zi.out, Zh.out, Ze.out, Zg.out, (zg_4 HB.out Zd.out Zh.out)⟩)
          rintro gb379 w46 ⟨hS_, h0_, h1_, h2_, h3_, h4_, h5_, h6_, h7_, h8_⟩
          have n0_ : Aside0 (Kd.R (Kd.int .i64) 3 w46 w.heap.size (fun _ => True) (.slice (some ad372) t364.length co25) t364) := ⟨h0_⟩
          have n1_ : Aside0 (Kd.R k45 45 w46 w.heap.size (fun k_ => k_ ≠ gb379) u12 x12_2) := ⟨h1_⟩
          have n2_ : Aside0 (w46.heap[gb361]? = some (.cells #[.slice A0_0 l0_0.length c0_0, .slice A0_1 l0_1.length c0_1] 32 (0, 0))) := ⟨h2_⟩
          have n3_ : Aside0 (w46.heap[gb379]? = some (.cells #[.int .i64 0, .string (⟨#[]⟩ : ByteArray)] 45 (0, 0))) := ⟨h3_⟩
          have n4_ : Aside0 (w.heap.size ≤ gb379) := ⟨h4_⟩
          have n5_ : Aside0 (w.heap.size ≤ gb379) := ⟨h5_⟩
          have n6_ : Aside0 (gb361 ≠ gb379) := ⟨h6_⟩
          have n7_ : Aside0 (gb379 ≠ gb361) := ⟨h7_⟩
          have n8_ : Aside0 (Below w.heap.size w w46) := ⟨h8_⟩
          clear Zb; clear Zc; clear Za; clear HB; clear h0_ h1_ h2_ h3_ h4_ h5_ h6_ h7_ h8_; have Zb := n0_; have Zc := n1_; have Za := n2_; have Zf := n3_; have Zi := n4_; have Zh := n5_; have Ze := n6_; have Zg := n7_; have HB := n8_; clear n0_ n1_ n2_ n3_ n4_ n5_ n6_ n7_ n8_
          have hHeld : w46.cell? ⟨gb361, 0, none⟩ = some (.slice A0_0 l0_0.length c0_0) ∧ w46.cell? ⟨gb361, 1, none⟩ = some (.slice A0_1 l0_1.length c0_1) := hS_
          refine norm_ (a' := ?_) ?_ ?_
          rotate_left
          ·simp only [putAll, Act.put, zs, zz, zt]
           rfl
          refine one_ (i := 13) (N := none) #[true, true, true, true, true, true, true, true, true, true, true, true, true, true, false] rfl rfl (one_of HT_.out (by kernel_rfl)) (by decide) (fun K hK => ?_)
          have hs47 : w46.cell? ⟨gb379, 0, none⟩ = some (.int .i64 0) := (blk_cell Zf.out 0).trans rfl
          have hfs47 := blk_frozen Zf.out 0; have hns47_0 := Ze.out; have hms47_0 := Zg.out
          have hs48 : w46.cell? ⟨gb379, 1, none⟩ = some (.string (⟨#[]⟩ : ByteArray)) := (blk_cell Zf.out 1).trans rfl
          have hfs48 := blk_frozen Zf.out 1; have hns48_0 := Ze.out; have hms48_0 := Zg.out
          refine skip_ (w1 := ?_) (by rfl) rfl ?_ ?_
          rotate_left
          ·go_simp
           rfl
          refine hK.out _ _ ⟨((cell_far (p := ⟨gb379, _, none⟩) Ze.out _).trans (((cell_far (p := ⟨gb379, _, none⟩) Ze.out _).trans (hHeld.1)))), ((cell_far (p := ⟨gb379, _, none⟩) Ze.out _).trans (((cell_far (p := ⟨gb379, _, none⟩) Ze.out _).trans (hHeld.2))))⟩ (fun hHeld => ?_)
          clear hK K
          refine pure_ (i := 14) (N := some 15) (v := ?_) (a' := ?_) #[true, true, true, true, true, true, true, true, true, true, true, true, true, true, true] rfl rfl (any_of HT_.out (by kernel_rfl)) (fun _ _ _ h => h) (Or.inl ⟨by rfl, ?_⟩) ?_ ?_
          rotate_left
          ·intro w'
           go_simp
           with_reducible rfl
          rotate_left
          ·simp only [Act.put, zs, zz, zt, i64_w, i32_w]
           rfl
          refine done_ (done_of HT_.out (by kernel_rfl)) ?_
          try go_wp2
          go_ret3
          exact ⟨_, ze, by first | exact Kd.R_nil _ _ _ _ _ | exact Kd.N_nil _ _ _ _ _ | exact Kd.V_nil _ _ _ _ _ | exact Kd.Q_nil _ _ _ _ _ | exact Kd.S_nil _ _ _ _ _, zg_4 HB.out Zd.out Zh.out⟩
        ·rw [if_neg c26] at H
         have c26b0 := decide_eq_false c26; clear c26
         by_cases c49 : 1 < (t364.length : Int)
         ·rw [if_pos c49] at H
          have c49b0 := decide_eq_true c49
          have c49b1 : decide (1 < t364.length) = true := decide_eq_true (by omega)
          clear c49
          simp only [Option.some.injEq, Prod.mk.injEq] at H
          obtain ⟨rfl, rfl, rfl⟩ := H
          try go_wp2
          have n0_ := zm (Kd.R_drew Zb.out); have n1_ := zm (Kd.R_drew Zc.out); have n2_ := zm (blk_drew Za.out); have n3_ := zm (below_drew1 HB.out); clear Zb; clear Zc; clear Za; clear HB; have Zb := n0_; have Zc := n1_; have Za := n2_; have HB := n3_; clear n0_ n1_ n2_ n3_
          have p373 : 0 ≤ (1 : Int) := (by omega)
          have q373 : 1 < (t364.length : Int) := zd
          obtain ⟨ad373, e373, hx373_0⟩ := Kd.at_int (Kd.R_reads' Zb.out).2.2 1 p373 q373
          obtain rfl : ad372 = ad373 := (by injection e373)
          (try simp only [show (1 : Int).toNat = 1 from rfl, Nat.reduceMul, Nat.reduceEqDiff, Go.Addr.add, ↓reduceIte] at hx373_0)
          have qi373 : (1 < t364.length) = True := eq_true (by omega)
          (try rw [show ((1 : Int)).toNat = 1 from rfl] at hx373_0)
          replace p373 := eq_true p373; replace q373 := eq_true q373
          refine start_ (n := 7) (S := fun w' => w'.cell? ⟨ad372.block, ad372.off + 1, none⟩ = some (.int .i64 (rd t364 1))) (ds := []) #[false, false, false, false, false, false, false] (by kernel_rfl) rfl rfl (hx373_0) (fun hHeld => ?_)
          generalize wr.drew = w50 at Zb Zc Za HB hx373_0 hHeld ⊢
          refine pure_ (i := 0) (N := some 67) (v := ?_) (a' := ?_) #[true, false, false, false, false, false, false] rfl rfl (by kernel_rfl) (fun _ _ _ h => h) (Or.inl ⟨by rfl, ?_⟩) ?_ ?_
          rotate_left
          ·intro w'
           go_simp
           with_reducible rfl
          rotate_left
          ·simp only [Act.put, zs, zz, zt, i64_w, i32_w]
           rfl
          refine pure_ (i := 1) (N := some 68) (v := ?_) (a' := ?_) #[true, true, false, false, false, false, false] rfl rfl (by kernel_rfl) (fun _ _ _ h => h) (Or.inl ⟨by rfl, ?_⟩) ?_ ?_
          rotate_left
          ·intro w'
           go_simp
           with_reducible rfl
          rotate_left
          ·simp only [Act.put, zs, zz, zt, i64_w, i32_w]
           rfl
          refine pure_ (i := 2) (N := some 69) (v := ?_) (a' := ?_) #[true, true, true, false, false, false, false] rfl rfl (by kernel_rfl) (fun _ _ _ h => h) (Or.inl ⟨by rfl, ?_⟩) ?_ ?_
          rotate_left
          ·intro w'
           go_simp
           with_reducible rfl
          rotate_left
          ·simp only [Act.put, zs, zz, zt, i64_w, i32_w]
           rfl
          refine pure_ (i := 4) (N := some 6) (v := ?_) (a' := ?_) #[true, true, true, false, true, false, false] rfl rfl (by kernel_rfl) (fun _ _ _ h => h) (Or.inl ⟨by rfl, ?_⟩) ?_ ?_
          rotate_left
          ·intro w'
           go_simp
           with_reducible rfl
          rotate_left
          ·simp only [Act.put, zs, zz, zt, i64_w, i32_w]
           rfl
          refine take_ (i := 3) (N := some 70) (v := ?_) (a' := ?_) #[true, true, true, true, true, false, false] rfl rfl (by kernel_rfl) (fun _ _ _ h => h) (Or.inl ⟨by rfl, ?_⟩) hHeld ?_ ?_
          rotate_left
          ·intro w' s0
           go_simp
           with_reducible rfl
          rotate_left
          ·simp only [Act.put, zs, zz, zt, i64_w, i32_w]
           rfl
          refine pure_ (i := 5) (N := some 7) (v := ?_) (a' := ?_) #[true, true, true, true, true, true, false] rfl rfl (by kernel_rfl) (fun _ _ _ h => h) (Or.inl ⟨by rfl, ?_⟩) ?_ ?_
          rotate_left
          ·intro w'
           go_simp
           with_reducible rfl
          rotate_left
          ·simp only [Act.put, zs, zz, zt, i64_w, i32_w]
           rfl
          refine pure_ (i := 6) (N := some 8) (v := ?_) (a' := ?_) #[true, true, true, true, true, true, true] rfl rfl (by kernel_rfl) (fun _ _ _ h => h) (Or.inl ⟨by rfl, ?_⟩) ?_ ?_
          rotate_left
          ·intro w'
           go_simp
           with_reducible rfl
          rotate_left
          ·simp only [Act.put, zs, zz, zt, i64_w, i32_w]
           rfl
          refine done_ (by kernel_rfl) ?_
          try go_wp2
          go_ret3
          exact ⟨_, ze, by (with_reducible repeat (first | apply Kd.R_alloc | apply Kd.R_drewN | apply Kd.R_drew)); exact Zc.out, zg_1 HB.out Zd.out⟩
         ·rw [if_neg c49] at H
          exact absurd H (by simp)
     ·rw [if_neg c22] at H
      exact absurd H (by simp)
def impl_JournalOf.j0 : Nat → Int → Int → Int → List ByteArray → List (S75) → Option ((List (S45)) × Int × Int)
  | 0, _, _, _, _, _ => none
  | k + 1, x1, x2, x9, x384000, x384001 => if x9 = 0 then ((impl_Disk_waiting.f k x384000 x384001 x1 x2).bind fun bt395 => (if bt395.2.2 = true then (some (bt395.1, bt395.2.1, 0)) else (some (([] : List (S45)), 0, 18)))) else (some (([] : List (S45)), 0, x9))
def impl_JournalOf.f (k : Nat) (l0_0 : List ByteArray) (l0_1 : List (S75)) (a1 : Int) (a2 : Int) : Option ((List (S45)) × Int × Int) := (impl_DiskOK.f l0_0 l0_1).bind fun t384 => ((impl_isHost.f a1).bind fun t385 => (if t385 = true then ((impl_isHost.f a2).bind fun t386 => ((impl_first.f (([Any.b (!t384), Any.n 1, Any.b (!t386), Any.n 4] : List Any))).bind fun t390 => (impl_JournalOf.j0 k a1 a2 t390 l0_0 l0_1))) else ((impl_first.f (([Any.b (!t384), Any.n 1, Any.b true, Any.n 4] : List Any))).bind fun t394 => (impl_JournalOf.j0 k a1 a2 t394 l0_0 l0_1))))
theorem impl_JournalOf.mono_l : ∀ k, (∀ y0 y1 y2 y3 y4, LeO (impl_JournalOf.j0 k y0 y1 y2 y3 y4) (impl_JournalOf.j0 (k + 1) y0 y1 y2 y3 y4))
  | 0 => fun _ _ _ _ _ r h => by simp [impl_JournalOf.j0] at h
  | k + 1 => by
    have ih0 := impl_JournalOf.mono_l k
    · intro y0 y1 y2 y3 y4
      unfold impl_JournalOf.j0
      repeat' first| (with_reducible first | exact ih0 _ _ _ _ _ | exact impl_Disk_waiting.mono _ _ _ _ _ | exact LeO.refl _ | exact LeO.none _ | refine LeO.ite ?_ ?_ | refine LeO.bind ?_ (fun _ => ?_)) | exact ih0 _ _ _ _ _ | exact impl_Disk_waiting.mono _ _ _ _ _ | exact LeO.none _ | refine LeO.ite ?_ ?_ | refine LeO.bind ?_ (fun _ => ?_)
theorem impl_JournalOf.mono : ∀ a0 a1 a2 a3 k, LeO (impl_JournalOf.f k a0 a1 a2 a3) (impl_JournalOf.f (k + 1) a0 a1 a2 a3) := by
  intro a0 a1 a2 a3 k
  have ih0 := impl_JournalOf.mono_l k
  unfold impl_JournalOf.f
  repeat' first| (with_reducible first | exact ih0 _ _ _ _ _ | exact impl_Disk_waiting.mono _ _ _ _ _ | exact LeO.refl _ | exact LeO.none _ | refine LeO.ite ?_ ?_ | refine LeO.bind ?_ (fun _ => ?_)) | exact ih0 _ _ _ _ _ | exact impl_Disk_waiting.mono _ _ _ _ _ | exact LeO.none _ | refine LeO.ite ?_ ?_ | refine LeO.bind ?_ (fun _ => ?_)
set_option maxHeartbeats 8000000 in
set_option maxRecDepth 100000 in
theorem impl_JournalOf.calls (k : Nat) (A0_0 : Option Addr) (c0_0 : Nat) (l0_0 : List ByteArray) (A0_1 : Option Addr) (c0_1 : Nat) (l0_1 : List (S75)) (a1 : Int) (a2 : Int) (r1 : List (S45)) (r2 : Int) (r3 : Int) (w : World) (hr0_0 : Kd.C Kd.string w A0_0 l0_0.length l0_0) (hc0_0 : l0_0.length ≤ c0_0) (hr0_1 : Kd.C k75 w A0_1 l0_1.length l0_1) (hc0_1 : l0_1.length ≤ c0_1) (h : impl_JournalOf.f k l0_0 l0_1 a1 a2 = some (r1, r2, r3)) :
    Calls Try.prog 29 #[.agg #[.slice A0_0 l0_0.length c0_0, .slice A0_1 l0_1.length c0_1], .int .i64 a1, .int .i64 a2] w fun e w' => ∃ v0_ : Value, e = .returned (.tuple #[v0_, .int .i64 r2, .int .i64 r3]) ∧ Kd.R k45 45 w' w.heap.size (fun _ => True) v0_ r1 ∧ Below w.heap.size w w' := by
 have hu32 := Try.underlying32; have Zc := zm hr0_0; have Zd := zm hc0_0; clear hr0_0 hc0_0; have Ze := zm hr0_1; have Zf := zm hc0_1; clear hr0_1 hc0_1; have HB := zm (Below.refl w.heap.size w); have H := h
 unfold impl_JournalOf.f at H
 clear h; have HC4 := zm H; clear H
 go_enter Try.func29, Try.ntmps29
 go_upto_region 1 with (first | ((with_reducible refine gate_dst (N := 3) rfl ?_); refine box_event ?hg (N := 3) ?hd (cs := #[.slice A0_0 l0_0.length c0_0, .slice A0_1 l0_1.length c0_1]) (t := 32) ?hr ?_; (case hd => rfl); (case hg => rfl); (case hr => first | (go_simp; done) | (go_simp; rfl)); intro gb383 hg w5 hbox hb; have n0_ := zm (below_step (zg_0 HB.out) hb); have n1_ := zm (hbox); have n2_ := zm ((by rw [hg]; exact (below_size (zg_0 HB.out)) : w.heap.size ≤ gb383)); have n3_ := zm ((by rw [hg]; exact (below_size (zg_0 HB.out)) : w.heap.size ≤ gb383)); replace HB := n0_; have Za := n1_; have Zj := n2_; have Zb := n3_; clear n0_ n1_ n2_ n3_; clear hb hbox hg))
 (try simp only [Act.put, zs, zz, zt])
 go_cut [9] (fun v9 wc => ∃ (kq : Nat) (x9_3 : Int), v9 = .int .i64 x9_3 ∧ Aside0 (impl_JournalOf.j0 kq a1 a2 x9_3 l0_0 l0_1 = some (r1, r2, r3)) ∧ Aside0 (kq ≤ k) ∧ Aside0 (wc.heap[gb383]? = some (.cells #[(.slice A0_0 l0_0.length c0_0), (.slice A0_1 l0_1.length c0_1)] 32 (0, 0))) ∧ Aside0 (Below w.heap.size w wc))
 case first =>
  have H := HC4.out; clear HC4; replace H := Option.bind_eq_some_iff.mp H
  obtain ⟨t384, A60, H⟩ := H
  try dsimp only at H
  have A6 := zm A60; clear A60; replace H := Option.bind_eq_some_iff.mp H
  obtain ⟨t385, A70, H⟩ := H
  try dsimp only at H
  have A7 := zm A70; clear A70
  by_cases c8 : t385 = true
  ·subst c8
   replace H : ((impl_isHost.f a2).bind fun t386 => ((impl_first.f (([Any.b (!t384), Any.n 1, Any.b (!t386), Any.n 4] : List Any))).bind fun t390 => (impl_JournalOf.j0 k a1 a2 t390 l0_0 l0_1))) = some (r1, r2, r3) := by rw [if_pos rfl] at H; exact H
   replace H := Option.bind_eq_some_iff.mp H
   obtain ⟨t386, A90, H⟩ := H
   try dsimp only at H
   have A9 := zm A90; clear A90
   obtain ⟨y387, hy387⟩ : ∃ y_ : List Any, y_ = (([Any.b (!t384), Any.n 1, Any.b (!t386), Any.n 4] : List Any)) := ⟨_, rfl⟩
   replace H : ((impl_first.f y387).bind fun t390 => (impl_JournalOf.j0 k a1 a2 t390 l0_0 l0_1)) = some (r1, r2, r3) := by first | (rw [hy387]; with_reducible exact H) | (have H2_ := (Option.bind_some _ _).symm.trans H; rw [hy387]; with_reducible exact H2_) | (have H2_ := (Option.bind_some _ _).symm.trans H; with_reducible exact H2_) | with_reducible exact H | (rw [hy387]; exact H) | exact H
   have Ny387 := zm hy387; clear hy387; replace H := Option.bind_eq_some_iff.mp H
   obtain ⟨t390, A100, H⟩ := H
   try dsimp only at H
   have A10 := zm A100; clear A100
   have H' := zm H
   clear H
   obtain ⟨hcz11_0, hcz11_1, hfz11_0, hfz11_1⟩ := zb2 Za.out
   go_wp2_with (first | ((with_reducible refine gate_callee (f := 26) rfl ?_); refine goesL_ (some 14) rfl rfl Try.func26 (by kernel_rfl) rfl #[.agg #[.slice A0_0 l0_0.length c0_0, .slice A0_1 l0_1.length c0_1]] rfl zq ?_; (with_reducible refine (impl_DiskOK.calls _ _ l0_0 _ _ l0_1 t384 _ ?side1 ?side2 ?side3 ?side4 A6.out).mono ?_); (case side1 => exact zC (Kd.C_below Zc.out HB.out)); (case side2 => exact Zd.out); (case side3 => exact zC (Kd.C_below Ze.out HB.out)); (case side4 => exact Zf.out); rintro e w12 ⟨rfl, hb⟩; refine ⟨_, rfl, ?_⟩; have n0_ := zm (blk_below (g := gb383) (o := .cells #[.slice A0_0 l0_0.length c0_0, .slice A0_1 l0_1.length c0_1] 32 (0, 0)) (zg_3 Za.out) hb); have n1_ := zm (below_step (zg_1 HB.out Zb.out) hb); replace Za := n0_; replace HB := n1_; clear n0_ n1_; (try clear hb); (try clear hb2); (try clear hk); (try clear hi)) | ((with_reducible refine gate_callee (f := 15) rfl ?_); refine goesL_ (some 19) rfl rfl Try.func15 (by kernel_rfl) rfl #[.int .i64 a1] rfl zq ?_; (with_reducible refine (impl_isHost.calls a1 true _ A7.out).mono ?_); rintro e w' ⟨rfl, ⟨nd, rfl⟩⟩; refine ⟨_, rfl, ?_⟩) | (go_at_call 15; (with_reducible refine (impl_isHost.calls a2 t386 _ A9.out).mono ?_); rintro e w' ⟨rfl, ⟨nd, rfl⟩⟩) | ((with_reducible refine gate_dst (N := 28) rfl ?_); refine Kd.R_lit kAny _ 20 ?hg (N := 28) ?hd (xs := ([Any.b (!t384), Any.n 1, Any.b (!t386), Any.n 4] : List Any)) (inner := [.iface 4 (.bool (!t384)), .iface 3 (.int .i64 1), .iface 4 (.bool (!t386)), .iface 3 (.int .i64 4)]) (ok := fun _ => True) (okp := fun _ => True) ?hr ?hp (fun _ hk => hk) trivial (Below.refl _ _) (Nat.le_refl _) (by simp) ?_; (case hd => rfl); (case hg => rfl); (case hr => first | (go_simp; done) | (go_simp; rfl)); (case hp => exact (Reps.one (show Kd.M kAny _ _ _ (Any.b (!t384)) [.iface 4 (.bool (!t384))] from rfl) (Reps.one (show Kd.M kAny _ _ _ (Any.n 1) [.iface 3 (.int .i64 1)] from rfl) (Reps.one (show Kd.M kAny _ _ _ (Any.b (!t386)) [.iface 4 (.bool (!t386))] from rfl) (Reps.one (show Kd.M kAny _ _ _ (Any.n 4) [.iface 3 (.int .i64 4)] from rfl) (Reps.none _ _)))))); intro v388 w13 ho14 hb hg_ hnew_; clear hg_ hnew_; (first | rw [← Ny387.out] at ho14 | (simp only [Int.reduceToNat] at ho14; rw [← Ny387.out] at ho14)); have n0_ := zm (Kd.R_lower ho14 (below_size (zg_1 HB.out Zb.out))); have n1_ := zm (blk_below (g := gb383) (o := .cells #[.slice A0_0 l0_0.length c0_0, .slice A0_1 l0_1.length c0_1] 32 (0, 0)) (zg_3 Za.out) hb); have n2_ := zm (below_step (zg_1 HB.out Zb.out) hb); have Zg := n0_; replace Za := n1_; replace HB := n2_; clear n0_ n1_ n2_; clear hb ho14; obtain ⟨Ao15, co15, eo15⟩ := Kd.R_slice Zg.out; subst eo15) | ((with_reducible refine gate_callee (f := 13) rfl ?_); refine goesL_ (some 29) rfl rfl Try.func13 (by kernel_rfl) rfl #[.slice Ao15 y387.length co15] rfl zq ?_; (with_reducible refine (impl_first.calls _ _ y387 t390 _ ?side1 ?side2 A10.out).mono ?_); (case side1 => exact zC ((Kd.R_reads' Zg.out).2.2)); (case side2 => exact (Kd.R_reads' Zg.out).2.1); rintro e w' ⟨rfl, ⟨nd, rfl⟩⟩; refine ⟨_, rfl, ?_⟩))
   go_meet
   case rel => exact ⟨_, (t390), zr, H', ⟨by first | omega | exact Nat.le_refl _⟩, ⟨zl Za.out⟩, ⟨zg_1 HB.out Zb.out⟩⟩
  ·replace c8 := Bool.eq_false_iff.mpr c8
   subst c8
   replace H : ((impl_first.f (([Any.b (!t384), Any.n 1, Any.b true, Any.n 4] : List Any))).bind fun t394 => (impl_JournalOf.j0 k a1 a2 t394 l0_0 l0_1)) = some (r1, r2, r3) := by rw [if_neg (show ¬ (false = true) by decide)] at H; exact H
   obtain ⟨y391, hy391⟩ : ∃ y_ : List Any, y_ = (([Any.b (!t384), Any.n 1, Any.b true, Any.n 4] : List Any)) := ⟨_, rfl⟩
   replace H : ((impl_first.f y391).bind fun t394 => (impl_JournalOf.j0 k a1 a2 t394 l0_0 l0_1)) = some (r1, r2, r3) := by first | (rw [hy391]; with_reducible exact H) | (have H2_ := (Option.bind_some _ _).symm.trans H; rw [hy391]; with_reducible exact H2_) | (have H2_ := (Option.bind_some _ _).symm.trans H; with_reducible exact H2_) | with_reducible exact H | (rw [hy391]; exact H) | exact H
   have Ny391 := zm hy391; clear hy391; replace H := Option.bind_eq_some_iff.mp H
   obtain ⟨t394, A160, H⟩ := H
   try dsimp only at H
   have A16 := zm A160; clear A160
   have H' := zm H
   clear H
   obtain ⟨hcz17_0, hcz17_1, hfz17_0, hfz17_1⟩ := zb2 Za.out
   go_wp2_with (first | ((with_reducible refine gate_callee (f := 26) rfl ?_); refine goesL_ (some 14) rfl rfl Try.func26 (by kernel_rfl) rfl #[.agg #[.slice A0_0 l0_0.length c0_0, .slice A0_1 l0_1.length c0_1]] rfl zq ?_; (with_reducible refine (impl_DiskOK.calls _ _ l0_0 _ _ l0_1 t384 _ ?side1 ?side2 ?side3 ?side4 A6.out).mono ?_); (case side1 => exact zC (Kd.C_below Zc.out HB.out)); (case side2 => exact Zd.out); (case side3 => exact zC (Kd.C_below Ze.out HB.out)); (case side4 => exact Zf.out); rintro e w18 ⟨rfl, hb⟩; refine ⟨_, rfl, ?_⟩; have n0_ := zm (blk_below (g := gb383) (o := .cells #[.slice A0_0 l0_0.length c0_0, .slice A0_1 l0_1.length c0_1] 32 (0, 0)) (zg_3 Za.out) hb); have n1_ := zm (below_step (zg_1 HB.out Zb.out) hb); replace Za := n0_; replace HB := n1_; clear n0_ n1_; (try clear hb); (try clear hb2); (try clear hk); (try clear hi)) | ((with_reducible refine gate_callee (f := 15) rfl ?_); refine goesL_ (some 19) rfl rfl Try.func15 (by kernel_rfl) rfl #[.int .i64 a1] rfl zq ?_; (with_reducible refine (impl_isHost.calls a1 false _ A7.out).mono ?_); rintro e w' ⟨rfl, ⟨nd, rfl⟩⟩; refine ⟨_, rfl, ?_⟩) | ((with_reducible refine gate_dst (N := 28) rfl ?_); refine Kd.R_lit kAny _ 20 ?hg (N := 28) ?hd (xs := ([Any.b (!t384), Any.n 1, Any.b true, Any.n 4] : List Any)) (inner := [.iface 4 (.bool (!t384)), .iface 3 (.int .i64 1), .iface 4 (.bool true), .iface 3 (.int .i64 4)]) (ok := fun _ => True) (okp := fun _ => True) ?hr ?hp (fun _ hk => hk) trivial (Below.refl _ _) (Nat.le_refl _) (by simp) ?_; (case hd => rfl); (case hg => rfl); (case hr => first | (go_simp; done) | (go_simp; rfl)); (case hp => exact (Reps.one (show Kd.M kAny _ _ _ (Any.b (!t384)) [.iface 4 (.bool (!t384))] from rfl) (Reps.one (show Kd.M kAny _ _ _ (Any.n 1) [.iface 3 (.int .i64 1)] from rfl) (Reps.one (show Kd.M kAny _ _ _ (Any.b true) [.iface 4 (.bool true)] from rfl) (Reps.one (show Kd.M kAny _ _ _ (Any.n 4) [.iface 3 (.int .i64 4)] from rfl) (Reps.none _ _)))))); intro v392 w19 ho20 hb hg_ hnew_; clear hg_ hnew_; (first | rw [← Ny391.out] at ho20 | (simp only [Int.reduceToNat] at ho20; rw [← Ny391.out] at ho20)); have n0_ := zm (Kd.R_lower ho20 (below_size (zg_1 HB.out Zb.out))); have n1_ := zm (blk_below (g := gb383) (o := .cells #[.slice A0_0 l0_0.length c0_0, .slice A0_1 l0_1.length c0_1] 32 (0, 0)) (zg_3 Za.out) hb); have n2_ := zm (below_step (zg_1 HB.out Zb.out) hb); have Zh := n0_; replace Za := n1_; replace HB := n2_; clear n0_ n1_ n2_; clear hb ho20; obtain ⟨Ao21, co21, eo21⟩ := Kd.R_slice Zh.out; subst eo21) | ((with_reducible refine gate_callee (f := 13) rfl ?_); refine goesL_ (some 29) rfl rfl Try.func13 (by kernel_rfl) rfl #[.slice Ao21 y391.length co21] rfl zq ?_; (with_reducible refine (impl_first.calls _ _ y391 t394 _ ?side1 ?side2 A16.out).mono ?_); (case side1 => exact zC ((Kd.R_reads' Zh.out).2.2)); (case side2 => exact (Kd.R_reads' Zh.out).2.1); rintro e w' ⟨rfl, ⟨nd, rfl⟩⟩; refine ⟨_, rfl, ?_⟩))
   go_meet
   case rel => exact ⟨_, (t394), zr, H', ⟨by first | omega | exact Nat.le_refl _⟩, ⟨zl Za.out⟩, ⟨zg_1 HB.out Zb.out⟩⟩
 case rest =>
  clear HC4
  try clear c1
  try clear c2
  try clear p2
  try clear c8
  try clear c13
  try clear c15
  obtain ⟨kq, x9_3, rfl, HA, HJ3, Za, HB⟩ := hcut
  cases kq with
  | zero => exact absurd HA.out (by simp [impl_JournalOf.j0])
  | succ kj3 =>
   have H := HA.out; clear HA
   simp only [impl_JournalOf.j0] at H
   by_cases c22 : x9_3 = 0
   ·rw [if_pos c22] at H
    have c22b0 : (x9_3 == 0) = true := beq_iff_eq.mpr c22
    have c22b1 : (x9_3 != 0) = false := bne_eq_false_iff_eq.mpr c22
    clear c22; replace H := Option.bind_eq_some_iff.mp H
    obtain ⟨⟨t395, t398, t399⟩, A230, H⟩ := H
    try dsimp only at H
    have A23 := zm A230; clear A230
    by_cases c24 : t399 = true
    ·subst c24
     replace H : (some (t395, t398, 0)) = some (r1, r2, r3) := by rw [if_pos rfl] at H; exact H
     simp only [Option.some.injEq, Prod.mk.injEq] at H
     obtain ⟨rfl, rfl, rfl⟩ := H
     obtain ⟨hcz25_0, hcz25_1, hfz25_0, hfz25_1⟩ := zb2 Za.out
     go_wp2_with (first | ((with_reducible refine gate_callee (f := 49) rfl ?_); refine goesL_ (some 37) rfl rfl Try.func49 (by kernel_rfl) rfl #[.agg #[.slice A0_0 l0_0.length c0_0, .slice A0_1 l0_1.length c0_1], .int .i64 a1, .int .i64 a2] rfl zq ?_; (with_reducible refine (impl_Disk_waiting.calls kj3 _ _ l0_0 _ _ l0_1 a1 a2 t395 t398 true _ ?side1 ?side2 ?side3 ?side4 A23.out).mono ?_); (case side1 => exact zC (Kd.C_below Zc.out HB.out)); (case side2 => exact Zd.out); (case side3 => exact zC (Kd.C_below Ze.out HB.out)); (case side4 => exact Zf.out); rintro e w26 ⟨v396, rfl, ho0, hb⟩; refine ⟨_, rfl, ?_⟩; have n0_ := zm (Kd.R_lower ho0 (below_size (zg_1 HB.out Zb.out))); have n1_ := zm (blk_below (g := gb383) (o := .cells #[.slice A0_0 l0_0.length c0_0, .slice A0_1 l0_1.length c0_1] 32 (0, 0)) (zg_3 Za.out) hb); have n2_ := zm (below_step (zg_1 HB.out Zb.out) hb); have Zi := n0_; replace Za := n1_; replace HB := n2_; clear n0_ n1_ n2_; (try clear hb); (try clear hb2); (try clear hk); (try clear hi); (try clear ho0)))
     go_ret3
     exact ⟨_, ze, by (with_reducible repeat (first | apply Kd.R_alloc | apply Kd.R_drewN | apply Kd.R_drew)); exact Zi.out, zg_1 HB.out Zb.out⟩
    ·replace c24 := Bool.eq_false_iff.mpr c24
     subst c24
     replace H : (some (([] : List (S45)), 0, 18)) = some (r1, r2, r3) := by rw [if_neg (show ¬ (false = true) by decide)] at H; exact H
     simp only [Option.some.injEq, Prod.mk.injEq] at H
     obtain ⟨rfl, rfl, rfl⟩ := H
     obtain ⟨hcz27_0, hcz27_1, hfz27_0, hfz27_1⟩ := zb2 Za.out
     go_wp2_with (first | ((with_reducible refine gate_callee (f := 49) rfl ?_); refine goesL_ (some 37) rfl rfl Try.func49 (by kernel_rfl) rfl #[.agg #[.slice A0_0 l0_0.length c0_0, .slice A0_1 l0_1.length c0_1], .int .i64 a1, .int .i64 a2] rfl zq ?_; (with_reducible refine (impl_Disk_waiting.calls kj3 _ _ l0_0 _ _ l0_1 a1 a2 t395 t398 false _ ?side1 ?side2 ?side3 ?side4 A23.out).mono ?_); (case side1 => exact zC (Kd.C_below Zc.out HB.out)); (case side2 => exact Zd.out); (case side3 => exact zC (Kd.C_below Ze.out HB.out)); (case side4 => exact Zf.out); rintro e w28 ⟨v396, rfl, ho0, hb⟩; refine ⟨_, rfl, ?_⟩; have n0_ := zm (Kd.R_lower ho0 (below_size (zg_1 HB.out Zb.out))); have n1_ := zm (blk_below (g := gb383) (o := .cells #[.slice A0_0 l0_0.length c0_0, .slice A0_1 l0_1.length c0_1] 32 (0, 0)) (zg_3 Za.out) hb); have n2_ := zm (below_step (zg_1 HB.out Zb.out) hb); have Zi := n0_; replace Za := n1_; replace HB := n2_; clear n0_ n1_ n2_; (try clear hb); (try clear hb2); (try clear hk); (try clear hi); (try clear ho0)))
     go_ret3
     exact ⟨_, ze, by first | exact Kd.R_nil _ _ _ _ _ | exact Kd.N_nil _ _ _ _ _ | exact Kd.V_nil _ _ _ _ _ | exact Kd.Q_nil _ _ _ _ _ | exact Kd.S_nil _ _ _ _ _, zg_1 HB.out Zb.out⟩
   ·rw [if_neg c22] at H
    have c22b0 : (x9_3 == 0) = false := beq_eq_false_iff_ne.mpr c22
    have c22b1 : (x9_3 != 0) = true := bne_iff_ne.mpr c22
    simp only [Option.some.injEq, Prod.mk.injEq] at H
    obtain ⟨rfl, rfl, rfl⟩ := H
    go_wp2
    go_ret3
    exact ⟨_, ze, by first | exact Kd.R_nil _ _ _ _ _ | exact Kd.N_nil _ _ _ _ _ | exact Kd.V_nil _ _ _ _ _ | exact Kd.Q_nil _ _ _ _ _ | exact Kd.S_nil _ _ _ _ _, zg_1 HB.out Zb.out⟩
def impl_ReplayPlan.f (k : Nat) (l0_0 : List ByteArray) (l0_1 : List (S75)) (a1 : Int) (a2 : Int) : Option ((List (S52)) × Int) := (impl_JournalOf.f k l0_0 l0_1 a1 a2).bind fun bt401 => (if bt401.2.2 = 0 then (if (bt401.1.length : Int) = 0 then (some (([] : List (S52)), bt401.2.2)) else ((impl_applied.f k a2 bt401.2.1 bt401.1).bind fun t406 => (some (t406, 0)))) else (some (([] : List (S52)), bt401.2.2)))
theorem impl_ReplayPlan.mono : ∀ a0 a1 a2 a3 k, LeO (impl_ReplayPlan.f k a0 a1 a2 a3) (impl_ReplayPlan.f (k + 1) a0 a1 a2 a3) := by
  intro a0 a1 a2 a3 k
  unfold impl_ReplayPlan.f
  repeat' first| (with_reducible first | exact impl_JournalOf.mono _ _ _ _ _ | exact impl_applied.mono _ _ _ _ | exact LeO.refl _ | exact LeO.none _ | refine LeO.ite ?_ ?_ | refine LeO.bind ?_ (fun _ => ?_)) | exact impl_JournalOf.mono _ _ _ _ _ | exact impl_applied.mono _ _ _ _ | exact LeO.none _ | refine LeO.ite ?_ ?_ | refine LeO.bind ?_ (fun _ => ?_)
set_option maxHeartbeats 8000000 in
set_option maxRecDepth 100000 in
theorem impl_ReplayPlan.calls (k : Nat) (A0_0 : Option Addr) (c0_0 : Nat) (l0_0 : List ByteArray) (A0_1 : Option Addr) (c0_1 : Nat) (l0_1 : List (S75)) (a1 : Int) (a2 : Int) (r1 : List (S52)) (r2 : Int) (w : World) (hr0_0 : Kd.C Kd.string w A0_0 l0_0.length l0_0) (hc0_0 : l0_0.length ≤ c0_0) (hr0_1 : Kd.C k75 w A0_1 l0_1.length l0_1) (hc0_1 : l0_1.length ≤ c0_1) (h : impl_ReplayPlan.f k l0_0 l0_1 a1 a2 = some (r1, r2)) :
    Calls Try.prog 9 #[.agg #[.slice A0_0 l0_0.length c0_0, .slice A0_1 l0_1.length c0_1], .int .i64 a1, .int .i64 a2] w fun e w' => ∃ v0_ : Value, e = .returned (.tuple #[v0_, .int .i64 r2]) ∧ Kd.R k52 52 w' w.heap.size (fun _ => True) v0_ r1 ∧ Below w.heap.size w w' := by
 have hu32 := Try.underlying32; have Zd := zm hr0_0; have Ze := zm hc0_0; clear hr0_0 hc0_0; have Zf := zm hr0_1; have Zg := zm hc0_1; clear hr0_1 hc0_1; have HB := zm (Below.refl w.heap.size w); have H := h
 unfold impl_ReplayPlan.f at H
 clear h; replace H := Option.bind_eq_some_iff.mp H
 obtain ⟨⟨t401, t404, t405⟩, A40, H⟩ := H
 try dsimp only at H
 have A4 := zm A40; clear A40
 by_cases c5 : t405 = 0
 ·rw [if_pos c5] at H
  have c5b0 : (t405 == 0) = true := beq_iff_eq.mpr c5
  have c5b1 : (t405 != 0) = false := bne_eq_false_iff_eq.mpr c5
  clear c5
  by_cases c6 : (t401.length : Int) = 0
  ·rw [if_pos c6] at H
   have c6b0 : ((t401.length : Int) == 0) = true := beq_iff_eq.mpr c6
   have c6b1 : ((t401.length : Int) != 0) = false := bne_eq_false_iff_eq.mpr c6
   clear c6
   simp only [Option.some.injEq, Prod.mk.injEq] at H
   obtain ⟨rfl, rfl⟩ := H
   go_enter Try.func9, Try.ntmps9
   go_wp2_with (first | ((with_reducible refine gate_dst (N := 3) rfl ?_); (try (refine gate_guard (by rfl) ?_; dsimp only)); refine box_event ?hg (N := 3) ?hd (cs := #[.slice A0_0 l0_0.length c0_0, .slice A0_1 l0_1.length c0_1]) (t := 32) ?hr ?_; (case hd => rfl); (case hg => rfl); (case hr => first | (go_simp; done) | (go_simp; rfl)); intro gb400 hg w7 hbox hb; have n0_ := zm (below_step (zg_0 HB.out) hb); have n1_ := zm (hbox); have n2_ := zm ((by rw [hg]; exact (below_size (zg_0 HB.out)) : w.heap.size ≤ gb400)); have n3_ := zm ((by rw [hg]; exact (below_size (zg_0 HB.out)) : w.heap.size ≤ gb400)); replace HB := n0_; have Za := n1_; have Zh := n2_; have Zb := n3_; clear n0_ n1_ n2_ n3_; clear hb hbox hg; obtain ⟨hcz8_0, hcz8_1, hfz8_0, hfz8_1⟩ := zb2 Za.out) | ((with_reducible refine gate_callee (f := 29) rfl ?_); refine goesL_ (some 15) rfl rfl Try.func29 (by kernel_rfl) rfl #[.agg #[.slice A0_0 l0_0.length c0_0, .slice A0_1 l0_1.length c0_1], .int .i64 a1, .int .i64 a2] rfl zq ?_; (with_reducible refine (impl_JournalOf.calls k _ _ l0_0 _ _ l0_1 a1 a2 t401 t404 t405 _ ?side1 ?side2 ?side3 ?side4 A4.out).mono ?_); (case side1 => exact zC (Kd.C_below Zd.out HB.out)); (case side2 => exact Ze.out); (case side3 => exact zC (Kd.C_below Zf.out HB.out)); (case side4 => exact Zg.out); rintro e w9 ⟨v402, rfl, ho0, hb⟩; refine ⟨_, rfl, ?_⟩; have n0_ := zm (Kd.R_lower ho0 (below_size (zg_1 HB.out Zb.out))); have n1_ := zm (blk_below (g := gb400) (o := .cells #[.slice A0_0 l0_0.length c0_0, .slice A0_1 l0_1.length c0_1] 32 (0, 0)) (zg_3 Za.out) hb); have n2_ := zm (below_step (zg_1 HB.out Zb.out) hb); have Zc := n0_; replace Za := n1_; replace HB := n2_; clear n0_ n1_ n2_; (try clear hb); (try clear hb2); (try clear hk); (try clear hi); (try clear ho0); obtain ⟨Ao10, co10, eo10⟩ := Kd.R_slice Zc.out; subst eo10))
   go_ret2
   exact ⟨_, ze, by first | exact Kd.R_nil _ _ _ _ _ | exact Kd.N_nil _ _ _ _ _ | exact Kd.V_nil _ _ _ _ _ | exact Kd.Q_nil _ _ _ _ _ | exact Kd.S_nil _ _ _ _ _, zg_1 HB.out Zb.out⟩
  ·rw [if_neg c6] at H
   have c6b0 : ((t401.length : Int) == 0) = false := beq_eq_false_iff_ne.mpr c6
   have c6b1 : ((t401.length : Int) != 0) = true := bne_iff_ne.mpr c6
   have c6b2 : ¬ (t401 = []) := fun h_ => c6 (by rw [h_]; rfl)
   replace H := Option.bind_eq_some_iff.mp H
   obtain ⟨t406, A110, H⟩ := H
   replace H : (some (t406, 0)) = some (r1, r2) := H
   have A11 := zm A110; clear A110
   simp only [Option.some.injEq, Prod.mk.injEq] at H
   obtain ⟨rfl, rfl⟩ := H
   go_enter Try.func9, Try.ntmps9
   go_wp2_with (first | ((with_reducible refine gate_dst (N := 3) rfl ?_); (try (refine gate_guard (by rfl) ?_; dsimp only)); refine box_event ?hg (N := 3) ?hd (cs := #[.slice A0_0 l0_0.length c0_0, .slice A0_1 l0_1.length c0_1]) (t := 32) ?hr ?_; (case hd => rfl); (case hg => rfl); (case hr => first | (go_simp; done) | (go_simp; rfl)); intro gb400 hg w12 hbox hb; have n0_ := zm (below_step (zg_0 HB.out) hb); have n1_ := zm (hbox); have n2_ := zm ((by rw [hg]; exact (below_size (zg_0 HB.out)) : w.heap.size ≤ gb400)); have n3_ := zm ((by rw [hg]; exact (below_size (zg_0 HB.out)) : w.heap.size ≤ gb400)); replace HB := n0_; have Za := n1_; have Zh := n2_; have Zb := n3_; clear n0_ n1_ n2_ n3_; clear hb hbox hg; obtain ⟨hcz13_0, hcz13_1, hfz13_0, hfz13_1⟩ := zb2 Za.out) | ((with_reducible refine gate_callee (f := 29) rfl ?_); refine goesL_ (some 15) rfl rfl Try.func29 (by kernel_rfl) rfl #[.agg #[.slice A0_0 l0_0.length c0_0, .slice A0_1 l0_1.length c0_1], .int .i64 a1, .int .i64 a2] rfl zq ?_; (with_reducible refine (impl_JournalOf.calls k _ _ l0_0 _ _ l0_1 a1 a2 t401 t404 t405 _ ?side1 ?side2 ?side3 ?side4 A4.out).mono ?_); (case side1 => exact zC (Kd.C_below Zd.out HB.out)); (case side2 => exact Ze.out); (case side3 => exact zC (Kd.C_below Zf.out HB.out)); (case side4 => exact Zg.out); rintro e w14 ⟨v402, rfl, ho0, hb⟩; refine ⟨_, rfl, ?_⟩; have n0_ := zm (Kd.R_lower ho0 (below_size (zg_1 HB.out Zb.out))); have n1_ := zm (blk_below (g := gb400) (o := .cells #[.slice A0_0 l0_0.length c0_0, .slice A0_1 l0_1.length c0_1] 32 (0, 0)) (zg_3 Za.out) hb); have n2_ := zm (below_step (zg_1 HB.out Zb.out) hb); have Zc := n0_; replace Za := n1_; replace HB := n2_; clear n0_ n1_ n2_; (try clear hb); (try clear hb2); (try clear hk); (try clear hi); (try clear ho0); obtain ⟨Ao15, co15, eo15⟩ := Kd.R_slice Zc.out; subst eo15) | ((with_reducible refine gate_callee (f := 30) rfl ?_); refine goesL_ (some 30) rfl rfl Try.func30 (by kernel_rfl) rfl #[.int .i64 a2, .int .i64 t404, .slice Ao15 t401.length co15] rfl zq ?_; (with_reducible refine (impl_applied.calls k a2 t404 _ _ t401 t406 _ ?side1 ?side2 A11.out).mono ?_); (case side1 => exact zC ((Kd.R_reads' Zc.out).2.2)); (case side2 => exact (Kd.R_reads' Zc.out).2.1); rintro e w16 ⟨v407, rfl, ho0, hb⟩; refine ⟨_, rfl, ?_⟩; have n0_ := zm (Kd.R_below (zg_2 Zc.out) hb); have n1_ := zm (Kd.R_lower ho0 (below_size (zg_1 HB.out Zb.out))); have n2_ := zm (blk_below (g := gb400) (o := .cells #[.slice A0_0 l0_0.length c0_0, .slice A0_1 l0_1.length c0_1] 32 (0, 0)) (zg_3 Za.out) hb); have n3_ := zm (below_step (zg_1 HB.out Zb.out) hb); replace Zc := n0_; have Zi := n1_; replace Za := n2_; replace HB := n3_; clear n0_ n1_ n2_ n3_; (try clear hb); (try clear hb2); (try clear hk); (try clear hi); (try clear ho0)))
   go_ret2
   exact ⟨_, ze, by (with_reducible repeat (first | apply Kd.R_alloc | apply Kd.R_drewN | apply Kd.R_drew)); exact Zi.out, zg_1 HB.out Zb.out⟩
 ·rw [if_neg c5] at H
  have c5b0 : (t405 == 0) = false := beq_eq_false_iff_ne.mpr c5
  have c5b1 : (t405 != 0) = true := bne_iff_ne.mpr c5
  simp only [Option.some.injEq, Prod.mk.injEq] at H
  obtain ⟨rfl, rfl⟩ := H
  go_enter Try.func9, Try.ntmps9
  go_wp2_with (first | ((with_reducible refine gate_dst (N := 3) rfl ?_); (try (refine gate_guard (by rfl) ?_; dsimp only)); refine box_event ?hg (N := 3) ?hd (cs := #[.slice A0_0 l0_0.length c0_0, .slice A0_1 l0_1.length c0_1]) (t := 32) ?hr ?_; (case hd => rfl); (case hg => rfl); (case hr => first | (go_simp; done) | (go_simp; rfl)); intro gb400 hg w17 hbox hb; have n0_ := zm (below_step (zg_0 HB.out) hb); have n1_ := zm (hbox); have n2_ := zm ((by rw [hg]; exact (below_size (zg_0 HB.out)) : w.heap.size ≤ gb400)); have n3_ := zm ((by rw [hg]; exact (below_size (zg_0 HB.out)) : w.heap.size ≤ gb400)); replace HB := n0_; have Za := n1_; have Zh := n2_; have Zb := n3_; clear n0_ n1_ n2_ n3_; clear hb hbox hg; obtain ⟨hcz18_0, hcz18_1, hfz18_0, hfz18_1⟩ := zb2 Za.out) | ((with_reducible refine gate_callee (f := 29) rfl ?_); refine goesL_ (some 15) rfl rfl Try.func29 (by kernel_rfl) rfl #[.agg #[.slice A0_0 l0_0.length c0_0, .slice A0_1 l0_1.length c0_1], .int .i64 a1, .int .i64 a2] rfl zq ?_; (with_reducible refine (impl_JournalOf.calls k _ _ l0_0 _ _ l0_1 a1 a2 t401 t404 t405 _ ?side1 ?side2 ?side3 ?side4 A4.out).mono ?_); (case side1 => exact zC (Kd.C_below Zd.out HB.out)); (case side2 => exact Ze.out); (case side3 => exact zC (Kd.C_below Zf.out HB.out)); (case side4 => exact Zg.out); rintro e w19 ⟨v402, rfl, ho0, hb⟩; refine ⟨_, rfl, ?_⟩; have n0_ := zm (Kd.R_lower ho0 (below_size (zg_1 HB.out Zb.out))); have n1_ := zm (blk_below (g := gb400) (o := .cells #[.slice A0_0 l0_0.length c0_0, .slice A0_1 l0_1.length c0_1] 32 (0, 0)) (zg_3 Za.out) hb); have n2_ := zm (below_step (zg_1 HB.out Zb.out) hb); have Zc := n0_; replace Za := n1_; replace HB := n2_; clear n0_ n1_ n2_; (try clear hb); (try clear hb2); (try clear hk); (try clear hi); (try clear ho0)))
  go_ret2
  exact ⟨_, ze, by first | exact Kd.R_nil _ _ _ _ _ | exact Kd.N_nil _ _ _ _ _ | exact Kd.V_nil _ _ _ _ _ | exact Kd.Q_nil _ _ _ _ _ | exact Kd.S_nil _ _ _ _ _, zg_1 HB.out Zb.out⟩
def laws_at.f (l0 : List Int) (a1 : Int) (a2 : Int) : Option (Int) := if a2 ≤ 1 then (some 0) else (if (l0.length : Int) = 0 then (if a2 = 0 then (none) else (some (Int.tmod (wrap64 (a1 * 7)) a2))) else (if 0 ≤ (Int.tmod a1 (l0.length : Int)) then (if (Int.tmod a1 (l0.length : Int)) < (l0.length : Int) then (if 0 ≤ (Int.tmod (wrap64 (a1 + 1)) (l0.length : Int)) then (if (Int.tmod (wrap64 (a1 + 1)) (l0.length : Int)) < (l0.length : Int) then (if a2 = 0 then (none) else (some (Int.tmod (wrap64 ((wrap64 ((wrap64 ((wrap64 (rd l0 (Int.tmod a1 (l0.length : Int)))) * 31)) + (wrap64 (rd l0 (Int.tmod (wrap64 (a1 + 1)) (l0.length : Int)))))) + (wrap64 (Int.tdiv a1 (l0.length : Int))))) a2))) else (none)) else (none)) else (none)) else (none)))
set_option maxHeartbeats 8000000 in
set_option maxRecDepth 100000 in
theorem laws_at.calls (A0 : Option Addr) (c0 : Nat) (l0 : List Int) (a1 : Int) (a2 : Int) (r : Int) (w : World) (hr0 : Kd.C (Kd.int .u8) w A0 l0.length l0) (hc0 : l0.length ≤ c0) (h : laws_at.f l0 a1 a2 = some r) :
    Calls Try.prog 5 #[.slice A0 l0.length c0, .int .i64 a1, .int .i64 a2] w fun e w' => e = .returned (.int .i64 r) ∧ Drawn0 w w' := by
 have HR0 := zm hr0; have HC0 := zm hc0; clear hr0 hc0; have H := h
 unfold laws_at.f at H
 clear h
 by_cases c4 : a2 ≤ 1
 ·rw [if_pos c4] at H
  have c4b0 := decide_eq_true c4; clear c4; obtain rfl := Option.some.inj H
  go_enter Try.func5, Try.ntmps5
  go_wp2
  repeat (go_quiet (fail); try go_wp2)
  go_ret
  exact ⟨zr, by repeat (first | exact Drawn0.refl _ | apply Drawn0.step)⟩
 ·rw [if_neg c4] at H
  have c4b0 := decide_eq_false c4; clear c4
  by_cases c5 : (l0.length : Int) = 0
  ·rw [if_pos c5] at H
   have c5b0 : ((l0.length : Int) == 0) = true := beq_iff_eq.mpr c5
   have c5b1 : ((l0.length : Int) != 0) = false := bne_eq_false_iff_eq.mpr c5
   clear c5
   by_cases c6 : a2 = 0
   ·rw [if_pos c6] at H
    exact absurd H (by simp)
   ·rw [if_neg c6] at H
    have c6b0 : (a2 == 0) = false := beq_eq_false_iff_ne.mpr c6
    have c6b1 : (a2 != 0) = true := bne_iff_ne.mpr c6
    obtain rfl := Option.some.inj H
    go_enter Try.func5, Try.ntmps5
    go_wp2
    repeat (go_quiet (fail); try go_wp2)
    go_ret
    exact ⟨zr, by repeat (first | exact Drawn0.refl _ | apply Drawn0.step)⟩
  ·rw [if_neg c5] at H
   have c5b0 : ((l0.length : Int) == 0) = false := beq_eq_false_iff_ne.mpr c5
   have c5b1 : ((l0.length : Int) != 0) = true := bne_iff_ne.mpr c5
   have c5b2 : ¬ (l0 = []) := fun h_ => c5 (by rw [h_]; rfl)
   obtain ⟨ji7, hji7⟩ : ∃ j_ : Int, (Int.tmod a1 (l0.length : Int)) = j_ := ⟨_, rfl⟩
   replace H : (if 0 ≤ (ji7) then (if (ji7) < (l0.length : Int) then (if 0 ≤ (Int.tmod (wrap64 (a1 + 1)) (l0.length : Int)) then (if (Int.tmod (wrap64 (a1 + 1)) (l0.length : Int)) < (l0.length : Int) then (if a2 = 0 then (none) else (some (Int.tmod (wrap64 ((wrap64 ((wrap64 ((wrap64 (rd l0 (ji7))) * 31)) + (wrap64 (rd l0 (Int.tmod (wrap64 (a1 + 1)) (l0.length : Int)))))) + (wrap64 (Int.tdiv a1 (l0.length : Int))))) a2))) else (none)) else (none)) else (none)) else (none)) = some r := by first | (rw [hji7] at H; exact H) | (simp only [hji7] at H ⊢; exact H)
   by_cases c8 : 0 ≤ (ji7)
   ·rw [if_pos c8] at H
    have c8b0 := decide_eq_true c8; clear c8
    by_cases c9 : (ji7) < (l0.length : Int)
    ·rw [if_pos c9] at H
     have c9b0 := decide_eq_true c9; clear c9
     obtain ⟨ji10, hji10⟩ : ∃ j_ : Int, (Int.tmod (wrap64 (a1 + 1)) (l0.length : Int)) = j_ := ⟨_, rfl⟩
     replace H : (if 0 ≤ (ji10) then (if (ji10) < (l0.length : Int) then (if a2 = 0 then (none) else (some (Int.tmod (wrap64 ((wrap64 ((wrap64 ((wrap64 (rd l0 (ji7))) * 31)) + (wrap64 (rd l0 (ji10))))) + (wrap64 (Int.tdiv a1 (l0.length : Int))))) a2))) else (none)) else (none)) = some r := by first | (rw [hji10] at H; exact H) | (simp only [hji10] at H ⊢; exact H)
     by_cases c11 : 0 ≤ (ji10)
     ·rw [if_pos c11] at H
      have c11b0 := decide_eq_true c11; clear c11
      by_cases c12 : (ji10) < (l0.length : Int)
      ·rw [if_pos c12] at H
       have c12b0 := decide_eq_true c12; clear c12
       by_cases c13 : a2 = 0
       ·rw [if_pos c13] at H
        exact absurd H (by simp)
       ·rw [if_neg c13] at H
        have c13b0 : (a2 == 0) = false := beq_eq_false_iff_ne.mpr c13
        have c13b1 : (a2 != 0) = true := bne_iff_ne.mpr c13
        obtain rfl := Option.some.inj H
        have p161 : 0 ≤ ((ji7) : Int) := zd
        have q161 : (ji7) < (l0.length : Int) := zd
        obtain ⟨ad161, e161, hx161_0⟩ := Kd.at_int HR0.out (ji7) p161 q161
        cases e161; replace p161 := eq_true p161; replace q161 := eq_true q161
        have p162 : 0 ≤ ((ji10) : Int) := zd
        have q162 : (ji10) < (l0.length : Int) := zd
        obtain ⟨ad162, e162, hx162_0⟩ := Kd.at_int HR0.out (ji10) p162 q162
        obtain rfl : ad161 = ad162 := (by injection e162)
        replace p162 := eq_true p162; replace q162 := eq_true q162
        go_enter Try.func5, Try.ntmps5
        go_wp2
        repeat (go_quiet (fail); try go_wp2)
        go_ret
        exact ⟨by first | rfl | (simp; done) | (simp only [← hji7, ← hji10] <;> (first | rfl | simp)) | (simp [*]; done), by repeat (first | exact Drawn0.refl _ | apply Drawn0.step)⟩
      ·rw [if_neg c12] at H
       exact absurd H (by simp)
     ·rw [if_neg c11] at H
      exact absurd H (by simp)
    ·rw [if_neg c9] at H
     exact absurd H (by simp)
   ·rw [if_neg c8] at H
    exact absurd H (by simp)
end Go.Proofs.Ytfmfbmcdikkijaa.Q
