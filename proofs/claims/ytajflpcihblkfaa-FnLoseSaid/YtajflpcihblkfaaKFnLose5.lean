/- What laws.FnLose reaches, part 5: the functions as Lean functions, the proofs that the program's functions answer so, and plain laws about them. -/
import Derived.Test.YtajflpcihblkfaaKFnLose1
import Derived.Test.YtajflpcihblkfaaKFnLose3
import Derived.Test.YtajflpcihblkfaaKFnLose4
namespace Go.Proofs.Ytajflpcihblkfaa.Q
open Go.RowKit Go.Proofs.Ytajflpcihblkfaa.Ext Go.Proofs.YtajflpcihblkfaaW.PrintWords Go.Proofs.YtajflpcihblkfaaW.PrintLast Go.Proofs.YtajflpcihblkfaaW.PrintMore
attribute [local go_sem] max2_int min2_int max_two min_two max_three min_three max_four min_four   -- for this text's walks alone
set_option linter.unusedVariables false
set_option linter.unusedSimpArgs false

set_option linter.unusedVariables false
set_option linter.unusedSimpArgs false
/-! ### spec_l00Src_disk: function 69 -/
def spec_l00Src_disk.l0 : Nat → Int → List Int → Int → Int → List ByteArray → List (S92) → Option (List ByteArray × (List (S92)) × Int × Int)
  | 0, _, _, _, _, _, _ => none
  | k + 1, x4, x1000, x1001, x1002, x491000, x491001 => if x4 > 0 then ((spec_l00Src_next.f x1000 x1001 x1002 5).bind fun bt500 => (if bt500.1 = 0 then ((spec_l00Src_next.f x1000 bt500.2.1 bt500.2.2 4).bind fun bt503 => ((spec_l01Flush.f k x491000 x491001 bt503.1).bind fun bt506 => (spec_l00Src_disk.l0 k (wrap64 (x4 - 1)) x1000 bt503.2.1 bt503.2.2 bt506.1 bt506.2))) else ((spec_l00Src_next.f x1000 bt500.2.1 bt500.2.2 4).bind fun bt512 => ((spec_l00Src_next.f x1000 bt512.2.1 bt512.2.2 8).bind fun bt515 => ((spec_l00Src_next.f x1000 bt515.2.1 bt515.2.2 5).bind fun bt518 => ((spec_l00Src_some.f k x1000 bt518.2.1 bt518.2.2 bt518.1).bind fun bt521 => ((spec_l01Write.f x491000 x491001 bt512.1 bt515.1 bt521.1).bind fun bt524 => (spec_l00Src_disk.l0 k (wrap64 (x4 - 1)) x1000 bt521.2.1 bt521.2.2 bt524.1 bt524.2)))))))) else ((spec_l01Own.f x491000 x491001).bind fun bt494 => (some (bt494.1, bt494.2, x1001, x1002)))
def spec_l00Src_disk.f (k : Nat) (s0_0 : List Int) (s0_1 : Int) (s0_2 : Int) : Option (List ByteArray × (List (S92)) × Int × Int) := (spec_l01New.f).bind fun bt484 => ((spec_l00Src_next.f s0_0 s0_1 s0_2 20).bind fun bt491 => (spec_l00Src_disk.l0 k bt491.1 s0_0 bt491.2.1 bt491.2.2 bt484.1 bt484.2))
theorem spec_l00Src_disk.mono_l : ∀ k, (∀ y0 y1 y2 y3 y4 y5, LeO (spec_l00Src_disk.l0 k y0 y1 y2 y3 y4 y5) (spec_l00Src_disk.l0 (k + 1) y0 y1 y2 y3 y4 y5))
  | 0 => fun _ _ _ _ _ _ r h => by simp [spec_l00Src_disk.l0] at h
  | k + 1 => by
    have ih0 := spec_l00Src_disk.mono_l k
    · intro y0 y1 y2 y3 y4 y5
      unfold spec_l00Src_disk.l0
      repeat' first
      | (with_reducible exact ih0 _ _ _ _ _ _)
      | (with_reducible exact spec_l00Src_some.mono _ _ _ _ _)
      | (with_reducible exact spec_l01Flush.mono _ _ _ _)
      | (with_reducible exact LeO.refl _)
      | (with_reducible exact LeO.none _)
      | (with_reducible refine LeO.ite ?_ ?_)
      | (with_reducible refine LeO.bind ?_ (fun _ => ?_))
      | exact ih0 _ _ _ _ _ _
      | exact spec_l00Src_some.mono _ _ _ _ _
      | exact spec_l01Flush.mono _ _ _ _
      | exact LeO.none _
      | refine LeO.ite ?_ ?_
      | refine LeO.bind ?_ (fun _ => ?_)
theorem spec_l00Src_disk.mono : ∀ a0 a1 a2 k, LeO (spec_l00Src_disk.f k a0 a1 a2) (spec_l00Src_disk.f (k + 1) a0 a1 a2) := by
  intro a0 a1 a2 k
  have ih0 := spec_l00Src_disk.mono_l k
  unfold spec_l00Src_disk.f
  repeat' first
      | (with_reducible exact ih0 _ _ _ _ _ _)
      | (with_reducible exact spec_l00Src_some.mono _ _ _ _ _)
      | (with_reducible exact spec_l01Flush.mono _ _ _ _)
      | (with_reducible exact LeO.refl _)
      | (with_reducible exact LeO.none _)
      | (with_reducible refine LeO.ite ?_ ?_)
      | (with_reducible refine LeO.bind ?_ (fun _ => ?_))
      | exact ih0 _ _ _ _ _ _
      | exact spec_l00Src_some.mono _ _ _ _ _
      | exact spec_l01Flush.mono _ _ _ _
      | exact LeO.none _
      | refine LeO.ite ?_ ?_
      | refine LeO.bind ?_ (fun _ => ?_)
def spec_l00Src_disk.T6 : Bool × List (List Nat × List Nat) := (true, [([], []), ([], []), ([1], [1]), ([], []), ([3, 2], [3]), ([], []), ([], []), ([6, 4], [6]), ([5, 7, 7], [5, 7]), ([2, 4, 8], [2, 4, 8]), ([0, 9, 8], [0, 9]), ([10, 10, 0, 1, 2, 3, 4, 5, 6, 7, 8, 9, 10], [10])])
def spec_l00Src_disk.B6 : List Nat := [0, 0, 2, 0, 14, 0, 0, 94, 254, 510, 1023, 2047]
theorem spec_l00Src_disk.tab6 : rtab .any (opsOf Try.f69 6) = spec_l00Src_disk.T6 := by kernel_rfl
theorem spec_l00Src_disk.bits6 : waitsOk spec_l00Src_disk.T6.2 spec_l00Src_disk.B6 = true := by kernel_rfl
set_option maxHeartbeats 8000000 in
set_option maxRecDepth 100000 in
theorem spec_l00Src_disk.calls (k : Nat) (g : Nat) (s0_0 : List Int) (s0_1 : Int) (s0_2 : Int) (r1 : List ByteArray) (r2 : List (S92)) (r3 : Int) (r4 : Int) (w0 w : World) (hI : IsS112 w0 w g s0_0 s0_1 s0_2) (hB : Below w0.heap.size w0 w) (h : spec_l00Src_disk.f k s0_0 s0_1 s0_2 = some (r1, r2, r3, r4)) :
    Calls Try.prog 69 #[.pointer (some ⟨g, 0, none⟩)] w fun e w' => ∃ v0_ v1_ : Value, e = .returned (.agg #[v0_, v1_]) ∧ Kd.R Kd.string 9 w' w.heap.size (fun _ => True) v0_ r1 ∧ Kd.R k92 92 w' w.heap.size (fun _ => True) v1_ r2 ∧ IsS112 w0 w' g s0_0 r3 r4 ∧ Below w0.heap.size w0 w' ∧ KeepBut w w' g none := by
 have hu48 := Try.underlying48
 have hu92 := Try.underlying92
 have HI0 := zm hI
 have HK := zm (KeepBut.refl w g none)
 have HL := zm hB.size
 clear hI
 have HW0 := zm hB.size
 have HB := zm hB
 clear hB
 have H : ((spec_l01New.f).bind fun bt484 => ((spec_l00Src_next.f s0_0 s0_1 s0_2 20).bind fun bt491 => (spec_l00Src_disk.l0 k bt491.1 s0_0 bt491.2.1 bt491.2.2 bt484.1 bt484.2))) = some (r1, r2, r3, r4) := h
 clear h
 replace H := Option.bind_eq_some_iff.mp H
 obtain ⟨⟨t484, t487⟩, A20, H⟩ := H
 replace H : ((spec_l00Src_next.f s0_0 s0_1 s0_2 20).bind fun bt491 => (spec_l00Src_disk.l0 k bt491.1 s0_0 bt491.2.1 bt491.2.2 t484 t487)) = some (r1, r2, r3, r4) := H
 have A2 := zm A20
 clear A20
 replace H := Option.bind_eq_some_iff.mp H
 obtain ⟨⟨t491, t492, t493⟩, A30, H⟩ := H
 replace H : (spec_l00Src_disk.l0 k t491 s0_0 t492 t493 t484 t487) = some (r1, r2, r3, r4) := H
 have A3 := zm A30
 clear A30
 have H' := zm H
 clear H
 go_enter Try.func69, Try.ntmps69
 go_wp2_with (first | ((with_reducible refine gate_dst (N := 2) rfl ?_); refine box_event ?hg (N := 2) ?hd (cs := #[.slice none 0 0, .slice none 0 0]) (t := 48) ?hr ?_; (case hd => rfl); (case hg => rfl); (case hr => first | (go_simp; done) | (go_simp; rfl)); intro gb483 hg w4 hbox hb; have n0_ := zm (IsS112.below (zg_6 HI0.out) hb); have n1_ := zm (KeepBut.trans (zg_5 HK.out) (KeepBut.of_below hb g none) (.inl rfl)); have n2_ := zm (below_step (zg_7 HB.out HI0.out) hb); have n3_ := zm (hbox); have n4_ := zm ((by rw [hg]; exact (keep_size (w := w) (g := g) (row := none) (zg_5 HK.out)) : w.heap.size ≤ gb483)); have n5_ := zm ((Nat.le_trans HW0.out (by rw [hg]; exact (keep_size (w := w) (g := g) (row := none) (zg_5 HK.out)) : w.heap.size ≤ gb483) : w0.heap.size ≤ gb483)); have n6_ := zm ((by rw [hg]; exact Nat.ne_of_lt (IsS112.lt (show IsS112 w0 _ g s0_0 s0_1 s0_2 from zg_6 HI0.out)) : g ≠ gb483)); have n7_ := zm ((by rw [hg]; exact Nat.ne_of_gt (IsS112.lt (show IsS112 w0 _ g s0_0 s0_1 s0_2 from zg_6 HI0.out)) : gb483 ≠ g)); clear HI0; clear HK; clear HB; have HI0 := n0_; have HK := n1_; have HB := n2_; have Zd := n3_; have Zh := n4_; have Zk := n5_; have Ze := n6_; have Zl := n7_; clear n0_ n1_ n2_ n3_ n4_ n5_ n6_ n7_; clear hb hbox hg) | ((with_reducible refine gate_callee (f := 111) rfl ?_); refine goesL_ (some 5) rfl rfl Try.func111 (by kernel_rfl) rfl #[] rfl zq ?_; (with_reducible refine (spec_l01New.calls  t484 t487 _ A2.out).mono ?_); rintro e w5 ⟨v485, v488, rfl, ho0, ho1, hb⟩; refine ⟨_, rfl, ?_⟩; have n0_ := zm (Kd.R_lower ho0 (keep_size (w := w) (g := g) (row := none) (zg_13 HK.out Zh.out))); have n1_ := zm (Kd.R_lower ho1 (keep_size (w := w) (g := g) (row := none) (zg_13 HK.out Zh.out))); have n2_ := zm (IsS112.below (zg_14 HI0.out Ze.out) hb); have n3_ := zm (blk_below (g := gb483) (o := .cells #[.slice none 0 0, .slice none 0 0] 48 (0, 0)) (zg_2 Zd.out) hb); have n4_ := zm (KeepBut.trans (zg_13 HK.out Zh.out) (KeepBut.of_below hb g none) (.inl rfl)); have n5_ := zm (below_step (zg_15 HB.out HI0.out Zk.out) hb); clear HI0; clear Zd; clear HK; clear HB; have Zo := n0_; have Zp := n1_; have HI0 := n2_; have Zd := n3_; have HK := n4_; have HB := n5_; clear n0_ n1_ n2_ n3_ n4_ n5_; (try clear hb); (try clear hb2); (try clear hk); (try clear hi); (try clear ho0); (try clear ho1)) | ((with_reducible refine gate_dst (N := 3) rfl ?_); refine box_event ?hg (N := 3) ?hd (cs := #[.slice none 0 0, .slice none 0 0]) (t := 48) ?hr ?_; (case hd => rfl); (case hg => rfl); (case hr => first | (go_simp; done) | (go_simp; rfl)); intro gb490 hg w6 hbox hb; have n0_ := zm (Kd.R_below (zg_4 Zo.out) hb); have n1_ := zm (Kd.R_below (zg_4 Zp.out) hb); have n2_ := zm (IsS112.below (zg_14 HI0.out Ze.out) hb); have n3_ := zm (blk_below (g := gb483) (o := .cells #[.slice none 0 0, .slice none 0 0] 48 (0, 0)) (zg_2 Zd.out) hb); have n4_ := zm (KeepBut.trans (zg_13 HK.out Zh.out) (KeepBut.of_below hb g none) (.inl rfl)); have n5_ := zm (below_step (zg_15 HB.out HI0.out Zk.out) hb); have n6_ := zm (hbox); have n7_ := zm ((by rw [hg]; exact (keep_size (w := w) (g := g) (row := none) (zg_13 HK.out Zh.out)) : w.heap.size ≤ gb490)); have n8_ := zm ((Nat.le_trans HW0.out (by rw [hg]; exact (keep_size (w := w) (g := g) (row := none) (zg_13 HK.out Zh.out)) : w.heap.size ≤ gb490) : w0.heap.size ≤ gb490)); have n9_ := zm ((by rw [hg]; exact Nat.ne_of_lt (blk_lt (g := gb483) (o := .cells #[.slice none 0 0, .slice none 0 0] 48 (0, 0)) (zg_2 Zd.out)) : gb483 ≠ gb490)); have n10_ := zm ((by rw [hg]; exact Nat.ne_of_gt (blk_lt (g := gb483) (o := .cells #[.slice none 0 0, .slice none 0 0] 48 (0, 0)) (zg_2 Zd.out)) : gb490 ≠ gb483)); have n11_ := zm ((by rw [hg]; exact Nat.ne_of_lt (IsS112.lt (show IsS112 w0 _ g s0_0 s0_1 s0_2 from zg_14 HI0.out Ze.out)) : g ≠ gb490)); have n12_ := zm ((by rw [hg]; exact Nat.ne_of_gt (IsS112.lt (show IsS112 w0 _ g s0_0 s0_1 s0_2 from zg_14 HI0.out Ze.out)) : gb490 ≠ g)); clear Zo; clear Zp; clear HI0; clear Zd; clear HK; clear HB; have Zo := n0_; have Zp := n1_; have HI0 := n2_; have Zd := n3_; have HK := n4_; have HB := n5_; have Zc := n6_; have Zi := n7_; have Zn := n8_; have Zg := n9_; have Zm := n10_; have Zf := n11_; have Zj := n12_; clear n0_ n1_ n2_ n3_ n4_ n5_ n6_ n7_ n8_ n9_ n10_ n11_ n12_; clear hb hbox hg; obtain ⟨Ao7, co7, eo7⟩ := Kd.R_slice Zo.out; subst eo7; have hnb8 := Zm.out; have hnc8 := Zg.out; have hnb9 := Zj.out; have hnc9 := Zf.out; have hcz10_0 : w6.cell? ⟨gb490, 0, none⟩ = some (.slice none 0 0) := (blk_cell Zc.out 0).trans rfl; have hcz10_1 : w6.cell? ⟨gb490, 1, none⟩ = some (.slice none 0 0) := (blk_cell Zc.out 1).trans rfl; have hfz10_0 := blk_frozen Zc.out 0; have hfz10_1 := blk_frozen Zc.out 1; obtain ⟨Ao11, co11, eo11⟩ := Kd.R_slice Zp.out; subst eo11) | ((with_reducible refine gate_callee (f := 103) rfl ?_); refine goesL_ (some 7) rfl rfl Try.func103 (by kernel_rfl) rfl #[.pointer (some ⟨g, 0, none⟩), .int .i64 20] rfl zq ?_; (with_reducible refine (spec_l00Src_next.calls g s0_0 s0_1 s0_2 20 t491 t492 t493 w0 _ ?side1 ?side2 A3.out).mono ?_); (case side1 => repeat (first | (with_reducible first | exact HI0.out | apply IsS112.alloc | apply IsS112.drewN | apply IsS112.drew | apply IsS112.set_1 | apply IsS112.set_2 | refine IsS112.far ?_ Ze.out _ | refine IsS112.far ?_ Zf.out _) | exact HI0.out)); (case side2 => repeat (first | (with_reducible first | exact HB.out | apply below_alloc | apply pw_below_drewN | apply below_drew1 | refine below_set ?_ (IsS112.ge HI0.out) | refine below_set ?_ Zk.out | refine below_set ?_ Zn.out) | exact HB.out)); rintro e w12 ⟨rfl, hi, hb, hk⟩; refine ⟨_, rfl, ?_⟩; have n0_ := zm (KeepBut.blk hk (g' := gb483) (o := .cells #[.slice none 0 0, .slice none 0 0] 48 (0, 0)) (by (with_reducible repeat (first | refine blk_drewN ?_ _ | refine blk_drew ?_ | refine blk_alloc ?_ _)); refine blk_far ?_ Zg.out _; (with_reducible repeat (first | refine blk_drewN ?_ _ | refine blk_drew ?_ | refine blk_alloc ?_ _)); refine blk_far ?_ Zg.out _; (with_reducible repeat (first | refine blk_drewN ?_ _ | refine blk_drew ?_ | refine blk_alloc ?_ _)); exact Zd.out) Zl.out (by simp)); have n1_ := zm (Kd.R_mono (Kd.R_keep (IsS112.apart (show IsS112 w0 _ g s0_0 s0_1 s0_2 from zg_17 HI0.out Ze.out Zf.out) (by (with_reducible repeat (first | apply Kd.R_alloc | apply Kd.R_drewN | apply Kd.R_drew)); exact (Kd.R_mono (Kd.R_far (p := ⟨gb490, 1, none⟩) (Kd.R_far (p := ⟨gb490, 0, none⟩) (Kd.R_types Zo.out Zc.out (by decide)) (fun _ hk => hk.2) (.slice Ao7 t484.length co7)) (fun _ hk => hk.2) (.slice Ao11 t487.length co11)) (fun _ h_ => h_.1))) (by decide)) hk (fun _ h => h.2)) (fun _ h => h.1)); have n2_ := zm (Kd.R_mono (Kd.R_keep (IsS112.apart (show IsS112 w0 _ g s0_0 s0_1 s0_2 from zg_17 HI0.out Ze.out Zf.out) (by (with_reducible repeat (first | apply Kd.R_alloc | apply Kd.R_drewN | apply Kd.R_drew)); exact (Kd.R_mono (Kd.R_far (p := ⟨gb490, 1, none⟩) (Kd.R_far (p := ⟨gb490, 0, none⟩) (Kd.R_types Zp.out Zc.out (by decide)) (fun _ hk => hk.2) (.slice Ao7 t484.length co7)) (fun _ hk => hk.2) (.slice Ao11 t487.length co11)) (fun _ h_ => h_.1))) (by decide)) hk (fun _ h => h.2)) (fun _ h => h.1)); have n3_ := zm (KeepBut.blk hk (g' := gb490) (o := .cells #[.slice Ao7 t484.length co7, .slice Ao11 t487.length co11] 48 (0, 0)) (by (with_reducible repeat (first | refine blk_drewN ?_ _ | refine blk_drew ?_ | refine blk_alloc ?_ _)); refine blk_put (cs := #[.slice Ao7 t484.length co7, .slice none 0 0]) ?_ 1 _ rfl; (with_reducible repeat (first | refine blk_drewN ?_ _ | refine blk_drew ?_ | refine blk_alloc ?_ _)); refine blk_put (cs := #[.slice none 0 0, .slice none 0 0]) ?_ 0 _ rfl; (with_reducible repeat (first | refine blk_drewN ?_ _ | refine blk_drew ?_ | refine blk_alloc ?_ _)); exact Zc.out) Zj.out (by simp)); have n4_ := zm (KeepBut.trans (zg_16 HK.out Zh.out Zi.out) hk (.inl rfl)); have n5_ := zm (hb); have n6_ := zm (hi); clear Zd; clear Zo; clear Zp; clear Zc; clear HK; clear HB; clear HI0; have Zd := n0_; have Zo := n1_; have Zp := n2_; have Zc := n3_; have HK := n4_; have HB := n5_; have HI0 := n6_; clear n0_ n1_ n2_ n3_ n4_ n5_ n6_; (try clear hb); (try clear hb2); (try clear hk); (try clear hi)))
 go_loopg [4] k (fun kq v4 w' => ∃ (x4_1 : Int) (x1001_1 : Int) (x1002_1 : Int) (x491000_1 : List ByteArray) (x491001_1 : List (S92)) (u491000 : Value) (u491001 : Value), v4 = .int .i64 x4_1 ∧ Aside0 (spec_l00Src_disk.l0 kq x4_1 s0_0 x1001_1 x1002_1 x491000_1 x491001_1 = some (r1, r2, r3, r4)) ∧ Aside0 (kq ≤ k) ∧ Aside0 (Kd.R Kd.string 9 w' w.heap.size (fun _ => True) u491000 x491000_1) ∧ Aside0 (Kd.R k92 92 w' w.heap.size (fun _ => True) u491001 x491001_1) ∧ Aside0 (w'.heap[gb483]? = some (.cells #[(.slice none 0 0), (.slice none 0 0)] 48 (0, 0))) ∧ Aside0 (w'.heap[gb490]? = some (.cells #[u491000, u491001] 48 (0, 0))) ∧ Aside0 (IsS112 w0 w' g s0_0 x1001_1 x1002_1) ∧ Aside0 (KeepBut w w' g none) ∧ Aside0 (Below w0.heap.size w0 w'))
 case atStart => exact ⟨(t491), (t492), (t493), (t484), (t487), (.slice Ao7 t484.length co7), (.slice Ao11 t487.length co11), zr, H', ⟨Nat.le_refl _⟩, ⟨by (with_reducible repeat (first | apply Kd.R_alloc | apply Kd.R_drewN | apply Kd.R_drew)); exact Zo.out⟩, ⟨by (with_reducible repeat (first | apply Kd.R_alloc | apply Kd.R_drewN | apply Kd.R_drew)); exact Zp.out⟩, ⟨by (with_reducible repeat (first | refine blk_drewN ?_ _ | refine blk_drew ?_ | refine blk_alloc ?_ _)); exact Zd.out⟩, ⟨by (with_reducible repeat (first | refine blk_drewN ?_ _ | refine blk_drew ?_ | refine blk_alloc ?_ _)); exact Zc.out⟩, ⟨zg_17 HI0.out Ze.out Zf.out⟩, ⟨zg_16 HK.out Zh.out Zi.out⟩, ⟨zg_18 HB.out HI0.out Zk.out Zn.out⟩⟩
 case round =>
  clear H'
  try clear c1
  try clear p2
  try clear c6
  try clear c8
  try clear c9
  try clear c10
  try clear c11
  try clear hcz10_0
  try clear hcz10_1
  try clear hfz10_0
  try clear hfz10_1
  obtain ⟨x4_1, x1001_1, x1002_1, x491000_1, x491001_1, u491000, u491001, rfl, HA, HK1, Za, Zb, Zd, Zc, HI0, HK, HB⟩ := hrel
  cases gk with
  | zero => exact absurd HA.out (by simp [spec_l00Src_disk.l0])
  | succ k1 =>
   have H := HA.out
   clear HA
   simp only [spec_l00Src_disk.l0] at H
   by_cases c13 : x4_1 > 0
   ·rw [if_pos c13] at H
    have c13b0 : decide (0 < x4_1) = true := decide_eq_true c13
    clear c13
    replace H := Option.bind_eq_some_iff.mp H
    obtain ⟨⟨t500, t501, t502⟩, A140, H⟩ := H
    replace H : (if t500 = 0 then ((spec_l00Src_next.f s0_0 t501 t502 4).bind fun bt503 => ((spec_l01Flush.f k1 x491000_1 x491001_1 bt503.1).bind fun bt506 => (spec_l00Src_disk.l0 k1 (wrap64 (x4_1 - 1)) s0_0 bt503.2.1 bt503.2.2 bt506.1 bt506.2))) else ((spec_l00Src_next.f s0_0 t501 t502 4).bind fun bt512 => ((spec_l00Src_next.f s0_0 bt512.2.1 bt512.2.2 8).bind fun bt515 => ((spec_l00Src_next.f s0_0 bt515.2.1 bt515.2.2 5).bind fun bt518 => ((spec_l00Src_some.f k1 s0_0 bt518.2.1 bt518.2.2 bt518.1).bind fun bt521 => ((spec_l01Write.f x491000_1 x491001_1 bt512.1 bt515.1 bt521.1).bind fun bt524 => (spec_l00Src_disk.l0 k1 (wrap64 (x4_1 - 1)) s0_0 bt521.2.1 bt521.2.2 bt524.1 bt524.2))))))) = some (r1, r2, r3, r4) := H
    have A14 := zm A140
    clear A140
    by_cases c15 : t500 = 0
    ·rw [if_pos c15] at H
     have c15b0 : (t500 == 0) = true := beq_iff_eq.mpr c15
     have c15b1 : (t500 != 0) = false := bne_eq_false_iff_eq.mpr c15
     clear c15
     replace H := Option.bind_eq_some_iff.mp H
     obtain ⟨⟨t503, t504, t505⟩, A160, H⟩ := H
     replace H : ((spec_l01Flush.f k1 x491000_1 x491001_1 t503).bind fun bt506 => (spec_l00Src_disk.l0 k1 (wrap64 (x4_1 - 1)) s0_0 t504 t505 bt506.1 bt506.2)) = some (r1, r2, r3, r4) := H
     have A16 := zm A160
     clear A160
     replace H := Option.bind_eq_some_iff.mp H
     obtain ⟨⟨t506, t509⟩, A170, H⟩ := H
     replace H : (spec_l00Src_disk.l0 k1 (wrap64 (x4_1 - 1)) s0_0 t504 t505 t506 t509) = some (r1, r2, r3, r4) := H
     have A17 := zm A170
     clear A170
     have H' := zm H
     clear H
     try go_wp2_with (first | ((with_reducible refine gate_callee (f := 103) rfl ?_); refine goesL_ (some 13) rfl rfl Try.func103 (by kernel_rfl) rfl #[.pointer (some ⟨g, 0, none⟩), .int .i64 5] rfl zq ?_; (with_reducible refine (spec_l00Src_next.calls g s0_0 x1001_1 x1002_1 5 t500 t501 t502 w0 _ ?side1 ?side2 A14.out).mono ?_); (case side1 => repeat (first | (with_reducible first | exact HI0.out | apply IsS112.alloc | apply IsS112.drewN | apply IsS112.drew | apply IsS112.set_1 | apply IsS112.set_2 | refine IsS112.far ?_ Ze.out _ | refine IsS112.far ?_ Zf.out _) | exact HI0.out)); (case side2 => repeat (first | (with_reducible first | exact HB.out | apply below_alloc | apply pw_below_drewN | apply below_drew1 | refine below_set ?_ (IsS112.ge HI0.out) | refine below_set ?_ Zk.out | refine below_set ?_ Zn.out) | exact HB.out)); rintro e w18 ⟨rfl, hi, hb, hk⟩; refine ⟨_, rfl, ?_⟩; have n0_ := zm (Kd.R_mono (Kd.R_keep (IsS112.apart (show IsS112 w0 _ g s0_0 x1001_1 x1002_1 from zg_17 HI0.out Ze.out Zf.out) (zg_4 Za.out) (by decide)) hk (fun _ h => h.2)) (fun _ h => h.1)); have n1_ := zm (Kd.R_mono (Kd.R_keep (IsS112.apart (show IsS112 w0 _ g s0_0 x1001_1 x1002_1 from zg_17 HI0.out Ze.out Zf.out) (zg_4 Zb.out) (by decide)) hk (fun _ h => h.2)) (fun _ h => h.1)); have n2_ := zm (KeepBut.blk hk (g' := gb483) (o := .cells #[.slice none 0 0, .slice none 0 0] 48 (0, 0)) (zg_2 Zd.out) Zl.out (by simp)); have n3_ := zm (KeepBut.blk hk (g' := gb490) (o := .cells #[u491000, u491001] 48 (0, 0)) (zg_2 Zc.out) Zj.out (by simp)); have n4_ := zm (KeepBut.trans (zg_16 HK.out Zh.out Zi.out) hk (.inl rfl)); have n5_ := zm (hb); have n6_ := zm (hi); clear Za; clear Zb; clear Zd; clear Zc; clear HK; clear HB; clear HI0; have Za := n0_; have Zb := n1_; have Zd := n2_; have Zc := n3_; have HK := n4_; have HB := n5_; have HI0 := n6_; clear n0_ n1_ n2_ n3_ n4_ n5_ n6_; (try clear hb); (try clear hb2); (try clear hk); (try clear hi)))
     have n0_ := zm (Kd.R_drew Za.out)
     have n1_ := zm (Kd.R_drew Zb.out)
     have n2_ := zm (blk_drew Zd.out)
     have n3_ := zm (blk_drew Zc.out)
     have n4_ := zm (IsS112.drew HI0.out)
     have n5_ := zm (keep_drew HK.out)
     have n6_ := zm (below_drew1 HB.out)
     clear Za
     clear Zb
     clear Zd
     clear Zc
     clear HI0
     clear HK
     clear HB
     have Za := n0_
     have Zb := n1_
     have Zd := n2_
     have Zc := n3_
     have HI0 := n4_
     have HK := n5_
     have HB := n6_
     clear n0_ n1_ n2_ n3_ n4_ n5_ n6_
     refine start_ (n := 5) (S := fun w' => w'.cell? ⟨gb490, 0, none⟩ = some (u491000) ∧ w'.cell? ⟨gb490, 1, none⟩ = some (u491001)) (ds := [4]) #[false, false, false, false, false] (by kernel_rfl) rfl rfl ⟨(blk_cell Zc.out 0).trans rfl, (blk_cell Zc.out 1).trans rfl⟩ (fun hHeld => ?_)
     generalize w18.drew = w19 at Za Zb Zd Zc HI0 HK HB hHeld ⊢
     refine pure_ (i := 1) (N := some 28) (v := ?_) (a' := ?_) #[false, true, false, false, false] rfl rfl (by kernel_rfl) (fun _ _ _ h => h) (Or.inl ⟨by rfl, ?_⟩) ?_ ?_
     rotate_left
     ·intro w'
      go_simp
      with_reducible rfl
     rotate_left
     ·simp only [Act.put, zs, zz, zt, i64_w, i32_w]
      rfl
     refine take_ (i := 0) (N := some 27) (v := ?_) (a' := ?_) #[true, true, false, false, false] rfl rfl (by kernel_rfl) (fun _ _ _ h => h) (Or.inl ⟨by rfl, ?_⟩) hHeld ?_ ?_
     rotate_left
     ·rintro w' ⟨s0, s1⟩
      go_simp
      with_reducible rfl
     rotate_left
     ·simp only [Act.put, zs, zz, zt, i64_w, i32_w]
      rfl
     refine one_ (i := 2) (N := some 29) #[true, true, true, false, false] rfl rfl (by kernel_rfl) (by decide) (fun K hK => ?_)
     refine goes_ Try.func103 (by kernel_rfl) rfl #[.pointer (some ⟨g, 0, none⟩), .int .i64 4] (by rfl) rfl rfl zq ?_
     with_reducible refine (spec_l00Src_next.calls g s0_0 t501 t502 4 t503 t504 t505 w0 _ ?side1 ?side2 A16.out).mono ?_
     (case side1 => repeat (first | (with_reducible first | exact HI0.out | apply IsS112.alloc | apply IsS112.drewN | apply IsS112.drew | apply IsS112.set_1 | apply IsS112.set_2 | refine IsS112.far ?_ Ze.out _ | refine IsS112.far ?_ Zf.out _) | exact HI0.out))
     (case side2 => repeat (first | (with_reducible first | exact HB.out | apply below_alloc | apply pw_below_drewN | apply below_drew1 | refine below_set ?_ (IsS112.ge HI0.out) | refine below_set ?_ Zk.out | refine below_set ?_ Zn.out) | exact HB.out))
     rintro e w20 ⟨rfl, hi, hb, hk⟩
     refine ⟨_, rfl, ?_⟩
     have n0_ := zm (Kd.R_mono (Kd.R_keep (IsS112.apart (show IsS112 w0 _ g s0_0 t501 t502 from zg_17 HI0.out Ze.out Zf.out) (zg_4 Za.out) (by decide)) hk (fun _ h => h.2)) (fun _ h => h.1))
     have n1_ := zm (Kd.R_mono (Kd.R_keep (IsS112.apart (show IsS112 w0 _ g s0_0 t501 t502 from zg_17 HI0.out Ze.out Zf.out) (zg_4 Zb.out) (by decide)) hk (fun _ h => h.2)) (fun _ h => h.1))
     have n2_ := zm (KeepBut.blk hk (g' := gb483) (o := .cells #[.slice none 0 0, .slice none 0 0] 48 (0, 0)) (zg_2 Zd.out) Zl.out (by simp))
     have n3_ := zm (KeepBut.blk hk (g' := gb490) (o := .cells #[u491000, u491001] 48 (0, 0)) (zg_2 Zc.out) Zj.out (by simp))
     have n4_ := zm (KeepBut.trans (zg_16 HK.out Zh.out Zi.out) hk (.inl rfl))
     have n5_ := zm (hb)
     have n6_ := zm (hi)
     clear Za
     clear Zb
     clear Zd
     clear Zc
     clear HK
     clear HB
     clear HI0
     have Za := n0_
     have Zb := n1_
     have Zd := n2_
     have Zc := n3_
     have HK := n4_
     have HB := n5_
     have HI0 := n6_
     clear n0_ n1_ n2_ n3_ n4_ n5_ n6_
     (try clear hb)
     (try clear hb2)
     (try clear hk)
     (try clear hi)
     obtain ⟨Ao21, co21, eo21⟩ := Kd.R_slice Za.out
     (first | subst eo21 | (injection eo21 with f1_ f2_ f3_; have f4_ := f1_.symm; have f5_ := f3_.symm; clear f1_ f2_ f3_; subst f4_; subst f5_))
     obtain ⟨Ao22, co22, eo22⟩ := Kd.R_slice Zb.out
     (first | subst eo22 | (injection eo22 with f1_ f2_ f3_; have f4_ := f1_.symm; have f5_ := f3_.symm; clear f1_ f2_ f3_; subst f4_; subst f5_))
     refine hK.out _ _ ⟨(blk_cell Zc.out 0).trans rfl, (blk_cell Zc.out 1).trans rfl⟩ (fun hHeld => ?_)
     clear hK K
     refine norm_ (a' := ?_) ?_ ?_
     rotate_left
     ·show Act.put _ (some 29) _ = _
      simp only [Act.put, zs, zz, zt, i64_w, i32_w]
      rfl
     refine one_ (i := 3) (N := some 30) #[true, true, true, true, false] rfl rfl (by kernel_rfl) (by decide) (fun K hK => ?_)
     refine goes_ Try.func89 (by kernel_rfl) rfl #[.agg #[.slice Ao21 x491000_1.length co21, .slice Ao22 x491001_1.length co22], .int .i64 t503] (by rfl) rfl rfl zq ?_
     with_reducible refine (spec_l01Flush.calls k1 _ _ x491000_1 _ _ x491001_1 t503 t506 t509 _ ?side1 ?side2 ?side3 ?side4 A17.out).mono ?_
     (case side1 => repeat (first | exact (Kd.R_reads' Za.out).2.2 | (with_reducible refine Kd.C_alloc ?_ _) | (with_reducible refine Kd.C_drewN ?_ _) | (with_reducible refine Kd.C_drew ?_)))
     (case side2 => exact (Kd.R_reads' Za.out).2.1)
     (case side3 => repeat (first | exact (Kd.R_reads' Zb.out).2.2 | (with_reducible refine Kd.C_alloc ?_ _) | (with_reducible refine Kd.C_drewN ?_ _) | (with_reducible refine Kd.C_drew ?_)))
     (case side4 => exact (Kd.R_reads' Zb.out).2.1)
     rintro e w23 ⟨v507, v510, rfl, ho0, ho1, hb⟩
     refine ⟨_, rfl, ?_⟩
     have n0_ := zm (Kd.R_elder' (zg_4 Za.out) (Kd.R_base ho0) hb)
     have n1_ := zm (Kd.R_elder' (zg_4 Zb.out) (Kd.R_base ho1) hb)
     have n2_ := zm (Kd.R_lower (Kd.R_new' ho0 (Kd.R_lt (zg_4 Za.out))) (keep_size (w := w) (g := g) (row := none) (zg_16 HK.out Zh.out Zi.out)))
     have n3_ := zm (Kd.R_lower (Kd.R_new' ho1 (Kd.R_lt (zg_4 Zb.out))) (keep_size (w := w) (g := g) (row := none) (zg_16 HK.out Zh.out Zi.out)))
     have n4_ := zm (blk_below (g := gb483) (o := .cells #[.slice none 0 0, .slice none 0 0] 48 (0, 0)) (zg_2 Zd.out) hb)
     have n5_ := zm (blk_below (g := gb490) (o := .cells #[.slice Ao21 x491000_1.length co21, .slice Ao22 x491001_1.length co22] 48 (0, 0)) (zg_2 Zc.out) hb)
     have n6_ := zm (IsS112.below (zg_17 HI0.out Ze.out Zf.out) hb)
     have n7_ := zm (KeepBut.trans (zg_16 HK.out Zh.out Zi.out) (KeepBut.of_below hb g none) (.inl rfl))
     have n8_ := zm (below_step (zg_18 HB.out HI0.out Zk.out Zn.out) hb)
     clear Za
     clear Zb
     clear Zd
     clear Zc
     clear HI0
     clear HK
     clear HB
     have Za := n0_
     have Zb := n1_
     have Zq := n2_
     have Zr := n3_
     have Zd := n4_
     have Zc := n5_
     have HI0 := n6_
     have HK := n7_
     have HB := n8_
     clear n0_ n1_ n2_ n3_ n4_ n5_ n6_ n7_ n8_
     (try clear hb)
     (try clear hb2)
     (try clear hk)
     (try clear hi)
     (try clear ho0)
     (try clear ho1)
     obtain ⟨Ao24, co24, eo24⟩ := Kd.R_slice Zq.out
     (first | subst eo24 | (injection eo24 with f1_ f2_ f3_; have f4_ := f1_.symm; have f5_ := f3_.symm; clear f1_ f2_ f3_; subst f4_; subst f5_))
     obtain ⟨Ao26, co26, eo26⟩ := Kd.R_slice Zr.out
     (first | subst eo26 | (injection eo26 with f1_ f2_ f3_; have f4_ := f1_.symm; have f5_ := f3_.symm; clear f1_ f2_ f3_; subst f4_; subst f5_))
     refine hK.out _ _ ⟨(blk_cell Zc.out 0).trans rfl, (blk_cell Zc.out 1).trans rfl⟩ (fun hHeld => ?_)
     clear hK K
     refine norm_ (a' := ?_) ?_ ?_
     rotate_left
     ·show Act.put _ (some 30) _ = _
      simp only [Act.put, zs, zz, zt, i64_w, i32_w]
      rfl
     refine last_ (i := 4) (N := none) #[true, true, true, true, true] rfl rfl (by kernel_rfl) (by decide) (fun K hK => ?_)
     have hs25 : w23.cell? ⟨gb490, 0, none⟩ = some (.slice Ao21 x491000_1.length co21) := (blk_cell Zc.out 0).trans rfl
     have hfs25 := blk_frozen Zc.out 0
     have hns25_0 := Zg.out
     have hms25_0 := Zm.out
     have hs27 : w23.cell? ⟨gb490, 1, none⟩ = some (.slice Ao22 x491001_1.length co22) := (blk_cell Zc.out 1).trans rfl
     have hfs27 := blk_frozen Zc.out 1
     have hns27_0 := Zg.out
     have hms27_0 := Zm.out
     refine skip_ (w1 := ?_) (by rfl) rfl ?_ ?_
     rotate_left
     ·go_simp
      rfl
     refine hK.out _ _ ?_
     clear hK K
     refine done_ (by kernel_rfl) ?_
     try go_wp2
     go_roundg k1
     case measure => have := HK1.out; omega
     case rel => exact ⟨(wrap64 (x4_1 - 1)), (t504), (t505), (t506), (t509), (.slice Ao24 t506.length co24), (.slice Ao26 t509.length co26), zr, H', ⟨by have := HK1.out; omega⟩, ⟨by (with_reducible repeat (first | apply Kd.R_alloc | apply Kd.R_drewN | apply Kd.R_drew)); exact Kd.R_mono (Kd.R_far (p := ⟨gb490, 1, none⟩) (Kd.R_far (p := ⟨gb490, 0, none⟩) (Kd.R_types Zq.out Zc.out (by decide)) (fun _ hk => hk.2) (.slice Ao24 t506.length co24)) (fun _ hk => hk.2) (.slice Ao26 t509.length co26)) (fun _ hk => trivial)⟩, ⟨by (with_reducible repeat (first | apply Kd.R_alloc | apply Kd.R_drewN | apply Kd.R_drew)); exact Kd.R_mono (Kd.R_far (p := ⟨gb490, 1, none⟩) (Kd.R_far (p := ⟨gb490, 0, none⟩) (Kd.R_types Zr.out Zc.out (by decide)) (fun _ hk => hk.2) (.slice Ao24 t506.length co24)) (fun _ hk => hk.2) (.slice Ao26 t509.length co26)) (fun _ hk => trivial)⟩, ⟨by (with_reducible repeat (first | refine blk_drewN ?_ _ | refine blk_drew ?_ | refine blk_alloc ?_ _)); refine blk_far ?_ Zg.out _; (with_reducible repeat (first | refine blk_drewN ?_ _ | refine blk_drew ?_ | refine blk_alloc ?_ _)); refine blk_far ?_ Zg.out _; (with_reducible repeat (first | refine blk_drewN ?_ _ | refine blk_drew ?_ | refine blk_alloc ?_ _)); exact Zd.out⟩, ⟨by (with_reducible repeat (first | refine blk_drewN ?_ _ | refine blk_drew ?_ | refine blk_alloc ?_ _)); refine blk_put (cs := #[.slice Ao24 t506.length co24, .slice Ao22 x491001_1.length co22]) ?_ 1 _ rfl; (with_reducible repeat (first | refine blk_drewN ?_ _ | refine blk_drew ?_ | refine blk_alloc ?_ _)); refine blk_put (cs := #[.slice Ao21 x491000_1.length co21, .slice Ao22 x491001_1.length co22]) ?_ 0 _ rfl; (with_reducible repeat (first | refine blk_drewN ?_ _ | refine blk_drew ?_ | refine blk_alloc ?_ _)); exact Zc.out⟩, ⟨zg_17 HI0.out Ze.out Zf.out⟩, ⟨zg_16 HK.out Zh.out Zi.out⟩, ⟨zg_18 HB.out HI0.out Zk.out Zn.out⟩⟩
    ·rw [if_neg c15] at H
     have c15b0 : (t500 == 0) = false := beq_eq_false_iff_ne.mpr c15
     have c15b1 : (t500 != 0) = true := bne_iff_ne.mpr c15
     replace H := Option.bind_eq_some_iff.mp H
     obtain ⟨⟨t512, t513, t514⟩, A280, H⟩ := H
     replace H : ((spec_l00Src_next.f s0_0 t513 t514 8).bind fun bt515 => ((spec_l00Src_next.f s0_0 bt515.2.1 bt515.2.2 5).bind fun bt518 => ((spec_l00Src_some.f k1 s0_0 bt518.2.1 bt518.2.2 bt518.1).bind fun bt521 => ((spec_l01Write.f x491000_1 x491001_1 t512 bt515.1 bt521.1).bind fun bt524 => (spec_l00Src_disk.l0 k1 (wrap64 (x4_1 - 1)) s0_0 bt521.2.1 bt521.2.2 bt524.1 bt524.2))))) = some (r1, r2, r3, r4) := H
     have A28 := zm A280
     clear A280
     replace H := Option.bind_eq_some_iff.mp H
     obtain ⟨⟨t515, t516, t517⟩, A290, H⟩ := H
     replace H : ((spec_l00Src_next.f s0_0 t516 t517 5).bind fun bt518 => ((spec_l00Src_some.f k1 s0_0 bt518.2.1 bt518.2.2 bt518.1).bind fun bt521 => ((spec_l01Write.f x491000_1 x491001_1 t512 t515 bt521.1).bind fun bt524 => (spec_l00Src_disk.l0 k1 (wrap64 (x4_1 - 1)) s0_0 bt521.2.1 bt521.2.2 bt524.1 bt524.2)))) = some (r1, r2, r3, r4) := H
     have A29 := zm A290
     clear A290
     replace H := Option.bind_eq_some_iff.mp H
     obtain ⟨⟨t518, t519, t520⟩, A300, H⟩ := H
     replace H : ((spec_l00Src_some.f k1 s0_0 t519 t520 t518).bind fun bt521 => ((spec_l01Write.f x491000_1 x491001_1 t512 t515 bt521.1).bind fun bt524 => (spec_l00Src_disk.l0 k1 (wrap64 (x4_1 - 1)) s0_0 bt521.2.1 bt521.2.2 bt524.1 bt524.2))) = some (r1, r2, r3, r4) := H
     have A30 := zm A300
     clear A300
     replace H := Option.bind_eq_some_iff.mp H
     obtain ⟨⟨t521, t522, t523⟩, A310, H⟩ := H
     replace H : ((spec_l01Write.f x491000_1 x491001_1 t512 t515 t521).bind fun bt524 => (spec_l00Src_disk.l0 k1 (wrap64 (x4_1 - 1)) s0_0 t522 t523 bt524.1 bt524.2)) = some (r1, r2, r3, r4) := H
     have A31 := zm A310
     clear A310
     replace H := Option.bind_eq_some_iff.mp H
     obtain ⟨⟨t524, t527⟩, A320, H⟩ := H
     replace H : (spec_l00Src_disk.l0 k1 (wrap64 (x4_1 - 1)) s0_0 t522 t523 t524 t527) = some (r1, r2, r3, r4) := H
     have A32 := zm A320
     clear A320
     have H' := zm H
     clear H
     try go_wp2_with (first | ((with_reducible refine gate_callee (f := 103) rfl ?_); refine goesL_ (some 13) rfl rfl Try.func103 (by kernel_rfl) rfl #[.pointer (some ⟨g, 0, none⟩), .int .i64 5] rfl zq ?_; (with_reducible refine (spec_l00Src_next.calls g s0_0 x1001_1 x1002_1 5 t500 t501 t502 w0 _ ?side1 ?side2 A14.out).mono ?_); (case side1 => repeat (first | (with_reducible first | exact HI0.out | apply IsS112.alloc | apply IsS112.drewN | apply IsS112.drew | apply IsS112.set_1 | apply IsS112.set_2 | refine IsS112.far ?_ Ze.out _ | refine IsS112.far ?_ Zf.out _) | exact HI0.out)); (case side2 => repeat (first | (with_reducible first | exact HB.out | apply below_alloc | apply pw_below_drewN | apply below_drew1 | refine below_set ?_ (IsS112.ge HI0.out) | refine below_set ?_ Zk.out | refine below_set ?_ Zn.out) | exact HB.out)); rintro e w33 ⟨rfl, hi, hb, hk⟩; refine ⟨_, rfl, ?_⟩; have n0_ := zm (Kd.R_mono (Kd.R_keep (IsS112.apart (show IsS112 w0 _ g s0_0 x1001_1 x1002_1 from zg_17 HI0.out Ze.out Zf.out) (zg_4 Za.out) (by decide)) hk (fun _ h => h.2)) (fun _ h => h.1)); have n1_ := zm (Kd.R_mono (Kd.R_keep (IsS112.apart (show IsS112 w0 _ g s0_0 x1001_1 x1002_1 from zg_17 HI0.out Ze.out Zf.out) (zg_4 Zb.out) (by decide)) hk (fun _ h => h.2)) (fun _ h => h.1)); have n2_ := zm (KeepBut.blk hk (g' := gb483) (o := .cells #[.slice none 0 0, .slice none 0 0] 48 (0, 0)) (zg_2 Zd.out) Zl.out (by simp)); have n3_ := zm (KeepBut.blk hk (g' := gb490) (o := .cells #[u491000, u491001] 48 (0, 0)) (zg_2 Zc.out) Zj.out (by simp)); have n4_ := zm (KeepBut.trans (zg_16 HK.out Zh.out Zi.out) hk (.inl rfl)); have n5_ := zm (hb); have n6_ := zm (hi); clear Za; clear Zb; clear Zd; clear Zc; clear HK; clear HB; clear HI0; have Za := n0_; have Zb := n1_; have Zd := n2_; have Zc := n3_; have HK := n4_; have HB := n5_; have HI0 := n6_; clear n0_ n1_ n2_ n3_ n4_ n5_ n6_; (try clear hb); (try clear hb2); (try clear hk); (try clear hi)))
     have n0_ := zm (Kd.R_drew Za.out)
     have n1_ := zm (Kd.R_drew Zb.out)
     have n2_ := zm (blk_drew Zd.out)
     have n3_ := zm (blk_drew Zc.out)
     have n4_ := zm (IsS112.drew HI0.out)
     have n5_ := zm (keep_drew HK.out)
     have n6_ := zm (below_drew1 HB.out)
     clear Za
     clear Zb
     clear Zd
     clear Zc
     clear HI0
     clear HK
     clear HB
     have Za := n0_
     have Zb := n1_
     have Zd := n2_
     have Zc := n3_
     have HI0 := n4_
     have HK := n5_
     have HB := n6_
     clear n0_ n1_ n2_ n3_ n4_ n5_ n6_
     refine start_ (n := 12) (S := fun w' => w'.cell? ⟨gb490, 0, none⟩ = some (u491000) ∧ w'.cell? ⟨gb490, 1, none⟩ = some (u491001)) (ds := [11]) #[false, false, false, false, false, false, false, false, false, false, false, false] (by kernel_rfl) rfl rfl ⟨(blk_cell Zc.out 0).trans rfl, (blk_cell Zc.out 1).trans rfl⟩ (fun hHeld => ?_); refine with_tabW spec_l00Src_disk.tab6 spec_l00Src_disk.bits6 (fun HT_ HW_ => ?_)
     generalize w33.drew = w34 at Za Zb Zd Zc HI0 HK HB hHeld ⊢
     refine pure_ (i := 1) (N := some 15) (v := ?_) (a' := ?_) #[false, true, false, false, false, false, false, false, false, false, false, false] rfl rfl (any_of HT_.out (by kernel_rfl)) (fun _ _ _ h => h) (Or.inl ⟨by rfl, ?_⟩) ?_ ?_
     rotate_left
     ·intro w'
      go_simp
      with_reducible rfl
     rotate_left
     ·simp only [Act.put, zs, zz, zt, i64_w, i32_w]
      rfl
     refine pure_ (i := 3) (N := some 17) (v := ?_) (a' := ?_) #[false, true, false, true, false, false, false, false, false, false, false, false] rfl rfl (any_of HT_.out (by kernel_rfl)) (fun _ _ _ h => h) (Or.inl ⟨by rfl, ?_⟩) ?_ ?_
     rotate_left
     ·intro w'
      go_simp
      with_reducible rfl
     rotate_left
     ·simp only [Act.put, zs, zz, zt, i64_w, i32_w]
      rfl
     refine pure_ (i := 5) (N := some 19) (v := ?_) (a' := ?_) #[false, true, false, true, false, true, false, false, false, false, false, false] rfl rfl (any_of HT_.out (by kernel_rfl)) (fun _ _ _ h => h) (Or.inl ⟨by rfl, ?_⟩) ?_ ?_
     rotate_left
     ·intro w'
      go_simp
      with_reducible rfl
     rotate_left
     ·simp only [Act.put, zs, zz, zt, i64_w, i32_w]
      rfl
     refine pure_ (i := 6) (N := some 20) (v := ?_) (a' := ?_) #[false, true, false, true, false, true, true, false, false, false, false, false] rfl rfl (any_of HT_.out (by kernel_rfl)) (fun _ _ _ h => h) (Or.inl ⟨by rfl, ?_⟩) ?_ ?_
     rotate_left
     ·intro w'
      go_simp
      with_reducible rfl
     rotate_left
     ·simp only [Act.put, zs, zz, zt, i64_w, i32_w]
      rfl
     refine take_ (i := 0) (N := some 14) (v := ?_) (a' := ?_) #[true, true, false, true, false, true, true, false, false, false, false, false] rfl rfl (take_ofW HT_.out HW_.out (by kernel_rfl)) (fun _ _ _ h => h) (Or.inl ⟨by rfl, ?_⟩) hHeld ?_ ?_
     rotate_left
     ·rintro w' ⟨s0, s1⟩
      go_simp
      with_reducible rfl
     rotate_left
     ·simp only [Act.put, zs, zz, zt, i64_w, i32_w]
      rfl
     refine one_ (i := 2) (N := some 16) #[true, true, true, true, false, true, true, false, false, false, false, false] rfl rfl (one_of HT_.out (by kernel_rfl)) (by decide) (fun K hK => ?_)
     refine goes_ Try.func103 (by kernel_rfl) rfl #[.pointer (some ⟨g, 0, none⟩), .int .i64 4] (by rfl) rfl rfl zq ?_
     with_reducible refine (spec_l00Src_next.calls g s0_0 t501 t502 4 t512 t513 t514 w0 _ ?side1 ?side2 A28.out).mono ?_
     (case side1 => repeat (first | (with_reducible first | exact HI0.out | apply IsS112.alloc | apply IsS112.drewN | apply IsS112.drew | apply IsS112.set_1 | apply IsS112.set_2 | refine IsS112.far ?_ Ze.out _ | refine IsS112.far ?_ Zf.out _) | exact HI0.out))
     (case side2 => repeat (first | (with_reducible first | exact HB.out | apply below_alloc | apply pw_below_drewN | apply below_drew1 | refine below_set ?_ (IsS112.ge HI0.out) | refine below_set ?_ Zk.out | refine below_set ?_ Zn.out) | exact HB.out))
     rintro e w35 ⟨rfl, hi, hb, hk⟩
     refine ⟨_, rfl, ?_⟩
     have n0_ := zm (Kd.R_mono (Kd.R_keep (IsS112.apart (show IsS112 w0 _ g s0_0 t501 t502 from zg_17 HI0.out Ze.out Zf.out) (zg_4 Za.out) (by decide)) hk (fun _ h => h.2)) (fun _ h => h.1))
     have n1_ := zm (Kd.R_mono (Kd.R_keep (IsS112.apart (show IsS112 w0 _ g s0_0 t501 t502 from zg_17 HI0.out Ze.out Zf.out) (zg_4 Zb.out) (by decide)) hk (fun _ h => h.2)) (fun _ h => h.1))
     have n2_ := zm (KeepBut.blk hk (g' := gb483) (o := .cells #[.slice none 0 0, .slice none 0 0] 48 (0, 0)) (zg_2 Zd.out) Zl.out (by simp))
     have n3_ := zm (KeepBut.blk hk (g' := gb490) (o := .cells #[u491000, u491001] 48 (0, 0)) (zg_2 Zc.out) Zj.out (by simp))
     have n4_ := zm (KeepBut.trans (zg_16 HK.out Zh.out Zi.out) hk (.inl rfl))
     have n5_ := zm (hb)
     have n6_ := zm (hi)
     clear Za
     clear Zb
     clear Zd
     clear Zc
     clear HK
     clear HB
     clear HI0
     have Za := n0_
     have Zb := n1_
     have Zd := n2_
     have Zc := n3_
     have HK := n4_
     have HB := n5_
     have HI0 := n6_
     clear n0_ n1_ n2_ n3_ n4_ n5_ n6_
     (try clear hb)
     (try clear hb2)
     (try clear hk)
     (try clear hi)
     refine hK.out _ _ ⟨(blk_cell Zc.out 0).trans rfl, (blk_cell Zc.out 1).trans rfl⟩ (fun hHeld => ?_)
     clear hK K
     refine norm_ (a' := ?_) ?_ ?_
     rotate_left
     ·show Act.put _ (some 16) _ = _
      simp only [Act.put, zs, zz, zt, i64_w, i32_w]
      rfl
     refine one_ (i := 4) (N := some 18) #[true, true, true, true, true, true, true, false, false, false, false, false] rfl rfl (one_of HT_.out (by kernel_rfl)) (by decide) (fun K hK => ?_)
     refine goes_ Try.func103 (by kernel_rfl) rfl #[.pointer (some ⟨g, 0, none⟩), .int .i64 8] (by rfl) rfl rfl zq ?_
     with_reducible refine (spec_l00Src_next.calls g s0_0 t513 t514 8 t515 t516 t517 w0 _ ?side1 ?side2 A29.out).mono ?_
     (case side1 => repeat (first | (with_reducible first | exact HI0.out | apply IsS112.alloc | apply IsS112.drewN | apply IsS112.drew | apply IsS112.set_1 | apply IsS112.set_2 | refine IsS112.far ?_ Ze.out _ | refine IsS112.far ?_ Zf.out _) | exact HI0.out))
     (case side2 => repeat (first | (with_reducible first | exact HB.out | apply below_alloc | apply pw_below_drewN | apply below_drew1 | refine below_set ?_ (IsS112.ge HI0.out) | refine below_set ?_ Zk.out | refine below_set ?_ Zn.out) | exact HB.out))
     rintro e w36 ⟨rfl, hi, hb, hk⟩
     refine ⟨_, rfl, ?_⟩
     have n0_ := zm (Kd.R_mono (Kd.R_keep (IsS112.apart (show IsS112 w0 _ g s0_0 t513 t514 from zg_17 HI0.out Ze.out Zf.out) (zg_4 Za.out) (by decide)) hk (fun _ h => h.2)) (fun _ h => h.1))
     have n1_ := zm (Kd.R_mono (Kd.R_keep (IsS112.apart (show IsS112 w0 _ g s0_0 t513 t514 from zg_17 HI0.out Ze.out Zf.out) (zg_4 Zb.out) (by decide)) hk (fun _ h => h.2)) (fun _ h => h.1))
     have n2_ := zm (KeepBut.blk hk (g' := gb483) (o := .cells #[.slice none 0 0, .slice none 0 0] 48 (0, 0)) (zg_2 Zd.out) Zl.out (by simp))
     have n3_ := zm (KeepBut.blk hk (g' := gb490) (o := .cells #[u491000, u491001] 48 (0, 0)) (zg_2 Zc.out) Zj.out (by simp))
     have n4_ := zm (KeepBut.trans (zg_16 HK.out Zh.out Zi.out) hk (.inl rfl))
     have n5_ := zm (hb)
     have n6_ := zm (hi)
     clear Za
     clear Zb
     clear Zd
     clear Zc
     clear HK
     clear HB
     clear HI0
     have Za := n0_
     have Zb := n1_
     have Zd := n2_
     have Zc := n3_
     have HK := n4_
     have HB := n5_
     have HI0 := n6_
     clear n0_ n1_ n2_ n3_ n4_ n5_ n6_
     (try clear hb)
     (try clear hb2)
     (try clear hk)
     (try clear hi)
     refine hK.out _ _ ⟨(blk_cell Zc.out 0).trans rfl, (blk_cell Zc.out 1).trans rfl⟩ (fun hHeld => ?_)
     clear hK K
     refine norm_ (a' := ?_) ?_ ?_
     rotate_left
     ·show Act.put _ (some 18) _ = _
      simp only [Act.put, zs, zz, zt, i64_w, i32_w]
      rfl
     refine one_ (i := 7) (N := some 21) #[true, true, true, true, true, true, true, true, false, false, false, false] rfl rfl (one_of HT_.out (by kernel_rfl)) (by decide) (fun K hK => ?_)
     refine goes_ Try.func103 (by kernel_rfl) rfl #[.pointer (some ⟨g, 0, none⟩), .int .i64 5] (by rfl) rfl rfl zq ?_
     with_reducible refine (spec_l00Src_next.calls g s0_0 t516 t517 5 t518 t519 t520 w0 _ ?side1 ?side2 A30.out).mono ?_
     (case side1 => repeat (first | (with_reducible first | exact HI0.out | apply IsS112.alloc | apply IsS112.drewN | apply IsS112.drew | apply IsS112.set_1 | apply IsS112.set_2 | refine IsS112.far ?_ Ze.out _ | refine IsS112.far ?_ Zf.out _) | exact HI0.out))
     (case side2 => repeat (first | (with_reducible first | exact HB.out | apply below_alloc | apply pw_below_drewN | apply below_drew1 | refine below_set ?_ (IsS112.ge HI0.out) | refine below_set ?_ Zk.out | refine below_set ?_ Zn.out) | exact HB.out))
     rintro e w37 ⟨rfl, hi, hb, hk⟩
     refine ⟨_, rfl, ?_⟩
     have n0_ := zm (Kd.R_mono (Kd.R_keep (IsS112.apart (show IsS112 w0 _ g s0_0 t516 t517 from zg_17 HI0.out Ze.out Zf.out) (zg_4 Za.out) (by decide)) hk (fun _ h => h.2)) (fun _ h => h.1))
     have n1_ := zm (Kd.R_mono (Kd.R_keep (IsS112.apart (show IsS112 w0 _ g s0_0 t516 t517 from zg_17 HI0.out Ze.out Zf.out) (zg_4 Zb.out) (by decide)) hk (fun _ h => h.2)) (fun _ h => h.1))
     have n2_ := zm (KeepBut.blk hk (g' := gb483) (o := .cells #[.slice none 0 0, .slice none 0 0] 48 (0, 0)) (zg_2 Zd.out) Zl.out (by simp))
     have n3_ := zm (KeepBut.blk hk (g' := gb490) (o := .cells #[u491000, u491001] 48 (0, 0)) (zg_2 Zc.out) Zj.out (by simp))
     have n4_ := zm (KeepBut.trans (zg_16 HK.out Zh.out Zi.out) hk (.inl rfl))
     have n5_ := zm (hb)
     have n6_ := zm (hi)
     clear Za
     clear Zb
     clear Zd
     clear Zc
     clear HK
     clear HB
     clear HI0
     have Za := n0_
     have Zb := n1_
     have Zd := n2_
     have Zc := n3_
     have HK := n4_
     have HB := n5_
     have HI0 := n6_
     clear n0_ n1_ n2_ n3_ n4_ n5_ n6_
     (try clear hb)
     (try clear hb2)
     (try clear hk)
     (try clear hi)
     refine hK.out _ _ ⟨(blk_cell Zc.out 0).trans rfl, (blk_cell Zc.out 1).trans rfl⟩ (fun hHeld => ?_)
     clear hK K
     refine norm_ (a' := ?_) ?_ ?_
     rotate_left
     ·show Act.put _ (some 21) _ = _
      simp only [Act.put, zs, zz, zt, i64_w, i32_w]
      rfl
     refine one_ (i := 8) (N := some 22) #[true, true, true, true, true, true, true, true, true, false, false, false] rfl rfl (one_of HT_.out (by kernel_rfl)) (by decide) (fun K hK => ?_)
     refine goes_ Try.func85 (by kernel_rfl) rfl #[.pointer (some ⟨g, 0, none⟩), .int .i64 t518] (by rfl) rfl rfl zq ?_
     with_reducible refine (spec_l00Src_some.calls k1 g s0_0 t519 t520 t518 t521 t522 t523 w0 _ ?side1 ?side2 A31.out).mono ?_
     (case side1 => repeat (first | (with_reducible first | exact HI0.out | apply IsS112.alloc | apply IsS112.drewN | apply IsS112.drew | apply IsS112.set_1 | apply IsS112.set_2 | refine IsS112.far ?_ Ze.out _ | refine IsS112.far ?_ Zf.out _) | exact HI0.out))
     (case side2 => repeat (first | (with_reducible first | exact HB.out | apply below_alloc | apply pw_below_drewN | apply below_drew1 | refine below_set ?_ (IsS112.ge HI0.out) | refine below_set ?_ Zk.out | refine below_set ?_ Zn.out) | exact HB.out))
     rintro e w38 ⟨rfl, hi, hb, hk⟩
     refine ⟨_, rfl, ?_⟩
     have n0_ := zm (Kd.R_mono (Kd.R_keep (IsS112.apart (show IsS112 w0 _ g s0_0 t519 t520 from zg_17 HI0.out Ze.out Zf.out) (zg_4 Za.out) (by decide)) hk (fun _ h => h.2)) (fun _ h => h.1))
     have n1_ := zm (Kd.R_mono (Kd.R_keep (IsS112.apart (show IsS112 w0 _ g s0_0 t519 t520 from zg_17 HI0.out Ze.out Zf.out) (zg_4 Zb.out) (by decide)) hk (fun _ h => h.2)) (fun _ h => h.1))
     have n2_ := zm (KeepBut.blk hk (g' := gb483) (o := .cells #[.slice none 0 0, .slice none 0 0] 48 (0, 0)) (zg_2 Zd.out) Zl.out (by simp))
     have n3_ := zm (KeepBut.blk hk (g' := gb490) (o := .cells #[u491000, u491001] 48 (0, 0)) (zg_2 Zc.out) Zj.out (by simp))
     have n4_ := zm (KeepBut.trans (zg_16 HK.out Zh.out Zi.out) hk (.inl rfl))
     have n5_ := zm (hb)
     have n6_ := zm (hi)
     clear Za
     clear Zb
     clear Zd
     clear Zc
     clear HK
     clear HB
     clear HI0
     have Za := n0_
     have Zb := n1_
     have Zd := n2_
     have Zc := n3_
     have HK := n4_
     have HB := n5_
     have HI0 := n6_
     clear n0_ n1_ n2_ n3_ n4_ n5_ n6_
     (try clear hb)
     (try clear hb2)
     (try clear hk)
     (try clear hi)
     obtain ⟨Ao39, co39, eo39⟩ := Kd.R_slice Za.out
     (first | subst eo39 | (injection eo39 with f1_ f2_ f3_; have f4_ := f1_.symm; have f5_ := f3_.symm; clear f1_ f2_ f3_; subst f4_; subst f5_))
     obtain ⟨Ao40, co40, eo40⟩ := Kd.R_slice Zb.out
     (first | subst eo40 | (injection eo40 with f1_ f2_ f3_; have f4_ := f1_.symm; have f5_ := f3_.symm; clear f1_ f2_ f3_; subst f4_; subst f5_))
     refine hK.out _ _ ⟨(blk_cell Zc.out 0).trans rfl, (blk_cell Zc.out 1).trans rfl⟩ (fun hHeld => ?_)
     clear hK K
     refine norm_ (a' := ?_) ?_ ?_
     rotate_left
     ·show Act.put _ (some 22) _ = _
      simp only [Act.put, zs, zz, zt, i64_w, i32_w]
      rfl
     refine pure_ (i := 9) (N := some 23) (v := ?_) (a' := ?_) #[true, true, true, true, true, true, true, true, true, true, false, false] rfl rfl (any_of HT_.out (by kernel_rfl)) (fun _ _ _ h => h) (Or.inl ⟨by rfl, ?_⟩) ?_ ?_
     rotate_left
     ·intro w'
      go_simp
      with_reducible rfl
     rotate_left
     ·simp only [Act.put, zs, zz, zt, i64_w, i32_w]
      rfl
     refine one_ (i := 10) (N := some 24) #[true, true, true, true, true, true, true, true, true, true, true, false] rfl rfl (one_of HT_.out (by kernel_rfl)) (by decide) (fun K hK => ?_)
     refine goes_ Try.func112 (by kernel_rfl) rfl #[.agg #[.slice Ao39 x491000_1.length co39, .slice Ao40 x491001_1.length co40], .agg #[.int .i64 t512, .int .i64 t515, .string t521]] (by rfl) rfl rfl zq ?_
     with_reducible refine (spec_l01Write.calls (fun k_ => some k_ = (.slice Ao39 x491000_1.length co39 : Value).ownBlock) (.slice Ao39 x491000_1.length co39) x491000_1 _ _ x491001_1 t512 t515 t521 t524 t527 w0 _ ?side1 ?side2 ?side3 ?side4 A32.out).mono ?_
     (case side1 => repeat (first | (with_reducible first | exact HB.out | apply below_alloc | apply pw_below_drewN | apply below_drew1 | refine below_set ?_ (IsS112.ge HI0.out) | refine below_set ?_ Zk.out | refine below_set ?_ Zn.out) | exact HB.out))
     (case side2 => exact Kd.R_lower (Kd.R_tight rfl Za.out) HL.out)
     (case side3 => exact Kd.C_kept_own ((Kd.R_apart' Zb.out (Kd.R_typed Za.out) (by decide))) (fun k_ hk_ hs_ => (hk_.2) hs_))
     (case side4 => exact (Kd.R_reads' Zb.out).2.1)
     rintro e w41 ⟨v525, v528, rfl, ho0, ho1, hb, hkp⟩
     refine ⟨_, rfl, ?_⟩
     have n0_ := zm (Kd.R_mono (ok' := fun k_ => some k_ ≠ (v528 : Value).ownBlock) (Kd.R_keptB ((Kd.R_apart' Zb.out (Kd.R_typed Za.out) (by decide))) hkp (fun k_ hk_ hs_ => (hk_.2) hs_)) (fun k_ hk_ => fun e_ => Or.elim (ho1.1 k_ e_.symm) (fun hs_ => hk_.2.1 hs_) (fun hn_ => Nat.not_le.2 hk_.2.2 hn_)))
     have n1_ := zm (blk_kept (zg_2 Zd.out) hkp (fun hs_ => (fun e_ => (Kd.R_ne Za.out Zd.out (by decide)) e_) hs_))
     have n2_ := zm (blk_kept (zg_2 Zc.out) hkp (fun hs_ => (fun e_ => (Kd.R_ne Za.out Zc.out (by decide)) e_) hs_))
     have n3_ := zm (IsS112.kept (zg_17 HI0.out Ze.out Zf.out) hkp (fun hs_ => (fun e_ => (IsS112.own_ne HI0.out Za.out (by decide)) e_) hs_))
     have n4_ := zm (Kd.R_mono (ok' := fun k_ => True) (Kd.R_raise (d := Kd.string) (b := w0.heap.size) (b' := w.heap.size) (fun _ _ _ _ h_ => h_) ho0 (fun k_ e_ => Or.elim (ho0.1 k_ e_) (fun hs_ => (fun e_ => Kd.R_base Za.out k_ e_.symm) hs_) (fun hn_ => Nat.le_trans (keep_size (w := w) (g := g) (row := none) (zg_16 HK.out Zh.out Zi.out)) hn_))) (fun k_ hk_ => trivial))
     have n5_ := zm (Kd.R_mono (ok' := fun k_ => some k_ ≠ (.slice Ao40 x491001_1.length co40 : Value).ownBlock) (Kd.R_raise (d := k92) (b := w0.heap.size) (b' := w.heap.size) (fun _ _ _ _ h_ => h_) ho1 (fun k_ e_ => Or.elim (ho1.1 k_ e_) (fun hs_ => (fun e_ => Kd.R_base Za.out k_ e_.symm) hs_) (fun hn_ => Nat.le_trans (keep_size (w := w) (g := g) (row := none) (zg_16 HK.out Zh.out Zi.out)) hn_))) (fun k_ hk_ => Or.elim hk_ (fun hs_ => fun e_ => ((((Kd.R_apart' Zb.out (Kd.R_typed Za.out) (by decide))).1 k_ e_.symm).2) hs_) (fun hn_ => (Kd.fresh' (Kd.R_lt (zg_4 Zb.out)) k_ hn_))))
     have n6_ := zm (Kept.keepG (zg_16 HK.out Zh.out Zi.out) hkp (fun k_ hs_ => (fun e_ => .inr (Kd.R_base Za.out k_ e_.symm)) hs_))
     have n7_ := zm (hb)
     clear Zb
     clear Zd
     clear Zc
     clear HI0
     clear HK
     clear HB
     clear Za
     have Zb := n0_
     have Zd := n1_
     have Zc := n2_
     have HI0 := n3_
     have Zs := n4_
     have Zt := n5_
     have HK := n6_
     have HB := n7_
     clear n0_ n1_ n2_ n3_ n4_ n5_ n6_ n7_
     (try clear hb)
     (try clear hkp)
     (try clear ho0)
     (try clear ho1)
     obtain ⟨Ao42, co42, eo42⟩ := Kd.R_slice Zs.out
     (first | subst eo42 | (injection eo42 with f1_ f2_ f3_; have f4_ := f1_.symm; have f5_ := f3_.symm; clear f1_ f2_ f3_; subst f4_; subst f5_))
     obtain ⟨Ao44, co44, eo44⟩ := Kd.R_slice Zt.out
     (first | subst eo44 | (injection eo44 with f1_ f2_ f3_; have f4_ := f1_.symm; have f5_ := f3_.symm; clear f1_ f2_ f3_; subst f4_; subst f5_))
     refine hK.out _ _ ⟨(blk_cell Zc.out 0).trans rfl, (blk_cell Zc.out 1).trans rfl⟩ (fun hHeld => ?_)
     clear hK K
     refine norm_ (a' := ?_) ?_ ?_
     rotate_left
     ·show Act.put _ (some 24) _ = _
      simp only [Act.put, zs, zz, zt, i64_w, i32_w]
      rfl
     refine last_ (i := 11) (N := none) #[true, true, true, true, true, true, true, true, true, true, true, true] rfl rfl (one_of HT_.out (by kernel_rfl)) (by decide) (fun K hK => ?_)
     have hs43 : w41.cell? ⟨gb490, 0, none⟩ = some (.slice Ao39 x491000_1.length co39) := (blk_cell Zc.out 0).trans rfl
     have hfs43 := blk_frozen Zc.out 0
     have hns43_0 := Zg.out
     have hms43_0 := Zm.out
     have hs45 : w41.cell? ⟨gb490, 1, none⟩ = some (.slice Ao40 x491001_1.length co40) := (blk_cell Zc.out 1).trans rfl
     have hfs45 := blk_frozen Zc.out 1
     have hns45_0 := Zg.out
     have hms45_0 := Zm.out
     refine skip_ (w1 := ?_) (by rfl) rfl ?_ ?_
     rotate_left
     ·go_simp
      rfl
     refine hK.out _ _ ?_
     clear hK K
     refine done_ (done_of HT_.out (by kernel_rfl)) ?_
     try go_wp2
     go_roundg k1
     case measure => have := HK1.out; omega
     case rel => exact ⟨(wrap64 (x4_1 - 1)), (t522), (t523), (t524), (t527), (.slice Ao42 t524.length co42), (.slice Ao44 t527.length co44), zr, H', ⟨by have := HK1.out; omega⟩, ⟨by (with_reducible repeat (first | apply Kd.R_alloc | apply Kd.R_drewN | apply Kd.R_drew)); exact Kd.R_mono (Kd.R_far (p := ⟨gb490, 1, none⟩) (Kd.R_far (p := ⟨gb490, 0, none⟩) (Kd.R_types Zs.out Zc.out (by decide)) (fun _ hk => hk.2) (.slice Ao42 t524.length co42)) (fun _ hk => hk.2) (.slice Ao44 t527.length co44)) (fun _ hk => trivial)⟩, ⟨by (with_reducible repeat (first | apply Kd.R_alloc | apply Kd.R_drewN | apply Kd.R_drew)); exact Kd.R_mono (Kd.R_far (p := ⟨gb490, 1, none⟩) (Kd.R_far (p := ⟨gb490, 0, none⟩) (Kd.R_types Zt.out Zc.out (by decide)) (fun _ hk => hk.2) (.slice Ao42 t524.length co42)) (fun _ hk => hk.2) (.slice Ao44 t527.length co44)) (fun _ hk => trivial)⟩, ⟨by (with_reducible repeat (first | refine blk_drewN ?_ _ | refine blk_drew ?_ | refine blk_alloc ?_ _)); refine blk_far ?_ Zg.out _; (with_reducible repeat (first | refine blk_drewN ?_ _ | refine blk_drew ?_ | refine blk_alloc ?_ _)); refine blk_far ?_ Zg.out _; (with_reducible repeat (first | refine blk_drewN ?_ _ | refine blk_drew ?_ | refine blk_alloc ?_ _)); exact Zd.out⟩, ⟨by (with_reducible repeat (first | refine blk_drewN ?_ _ | refine blk_drew ?_ | refine blk_alloc ?_ _)); refine blk_put (cs := #[.slice Ao42 t524.length co42, .slice Ao40 x491001_1.length co40]) ?_ 1 _ rfl; (with_reducible repeat (first | refine blk_drewN ?_ _ | refine blk_drew ?_ | refine blk_alloc ?_ _)); refine blk_put (cs := #[.slice Ao39 x491000_1.length co39, .slice Ao40 x491001_1.length co40]) ?_ 0 _ rfl; (with_reducible repeat (first | refine blk_drewN ?_ _ | refine blk_drew ?_ | refine blk_alloc ?_ _)); exact Zc.out⟩, ⟨zg_17 HI0.out Ze.out Zf.out⟩, ⟨zg_16 HK.out Zh.out Zi.out⟩, ⟨zg_18 HB.out HI0.out Zk.out Zn.out⟩⟩
   ·rw [if_neg c13] at H
    have c13b0 : decide (0 < x4_1) = false := decide_eq_false c13
    clear c13
    replace H := Option.bind_eq_some_iff.mp H
    obtain ⟨⟨t494, t497⟩, A460, H⟩ := H
    replace H : (some (t494, t497, x1001_1, x1002_1)) = some (r1, r2, r3, r4) := H
    have A46 := zm A460
    clear A460
    simp only [Option.some.injEq, Prod.mk.injEq] at H
    obtain ⟨rfl, rfl, rfl, rfl⟩ := H
    have hnb47 := Zm.out
    have hnc47 := Zg.out
    have hnb48 := Zj.out
    have hnc48 := Zf.out
    have hcz49_0 : wr.cell? ⟨gb490, 0, none⟩ = some (u491000) := (blk_cell Zc.out 0).trans rfl
    have hcz49_1 : wr.cell? ⟨gb490, 1, none⟩ = some (u491001) := (blk_cell Zc.out 1).trans rfl
    have hfz49_0 := blk_frozen Zc.out 0
    have hfz49_1 := blk_frozen Zc.out 1
    obtain ⟨Ao50, co50, eo50⟩ := Kd.R_slice Za.out
    subst eo50
    obtain ⟨Ao51, co51, eo51⟩ := Kd.R_slice Zb.out
    subst eo51
    go_wp2_with (first | ((with_reducible refine gate_callee (f := 113) rfl ?_); refine goesL_ (some 32) rfl rfl Try.func113 (by kernel_rfl) rfl #[.agg #[.slice Ao50 x491000_1.length co50, .slice Ao51 x491001_1.length co51]] rfl zq ?_; (with_reducible refine (spec_l01Own.calls _ _ x491000_1 _ _ x491001_1 t494 t497 _ ?side1 ?side2 ?side3 ?side4 A46.out).mono ?_); (case side1 => repeat (first | exact (Kd.R_reads' Za.out).2.2 | (with_reducible refine Kd.C_alloc ?_ _) | (with_reducible refine Kd.C_drewN ?_ _) | (with_reducible refine Kd.C_drew ?_))); (case side2 => exact (Kd.R_reads' Za.out).2.1); (case side3 => repeat (first | exact (Kd.R_reads' Zb.out).2.2 | (with_reducible refine Kd.C_alloc ?_ _) | (with_reducible refine Kd.C_drewN ?_ _) | (with_reducible refine Kd.C_drew ?_))); (case side4 => exact (Kd.R_reads' Zb.out).2.1); rintro e w52 ⟨v495, v498, rfl, ho0, ho1, hb⟩; refine ⟨_, rfl, ?_⟩; have n0_ := zm (Kd.R_elder' (zg_4 Za.out) (Kd.R_base ho0) hb); have n1_ := zm (Kd.R_elder' (zg_4 Zb.out) (Kd.R_base ho1) hb); have n2_ := zm (Kd.R_lower (Kd.R_new' ho0 (Kd.R_lt (zg_4 Za.out))) (keep_size (w := w) (g := g) (row := none) (zg_16 HK.out Zh.out Zi.out))); have n3_ := zm (Kd.R_lower (Kd.R_new' ho1 (Kd.R_lt (zg_4 Zb.out))) (keep_size (w := w) (g := g) (row := none) (zg_16 HK.out Zh.out Zi.out))); have n4_ := zm (blk_below (g := gb483) (o := .cells #[.slice none 0 0, .slice none 0 0] 48 (0, 0)) (zg_2 Zd.out) hb); have n5_ := zm (blk_below (g := gb490) (o := .cells #[.slice Ao50 x491000_1.length co50, .slice Ao51 x491001_1.length co51] 48 (0, 0)) (zg_2 Zc.out) hb); have n6_ := zm (IsS112.below (zg_17 HI0.out Ze.out Zf.out) hb); have n7_ := zm (KeepBut.trans (zg_16 HK.out Zh.out Zi.out) (KeepBut.of_below hb g none) (.inl rfl)); have n8_ := zm (below_step (zg_18 HB.out HI0.out Zk.out Zn.out) hb); clear Za; clear Zb; clear Zd; clear Zc; clear HI0; clear HK; clear HB; have Za := n0_; have Zb := n1_; have Zu := n2_; have Zv := n3_; have Zd := n4_; have Zc := n5_; have HI0 := n6_; have HK := n7_; have HB := n8_; clear n0_ n1_ n2_ n3_ n4_ n5_ n6_ n7_ n8_; (try clear hb); (try clear hb2); (try clear hk); (try clear hi); (try clear ho0); (try clear ho1); obtain ⟨Ao53, co53, eo53⟩ := Kd.R_slice Zu.out; subst eo53; have hnb54 := Zl.out; have hnc54 := Ze.out; have hcz55_0 : w52.cell? ⟨gb483, 0, none⟩ = some (.slice none 0 0) := (blk_cell Zd.out 0).trans rfl; have hcz55_1 : w52.cell? ⟨gb483, 1, none⟩ = some (.slice none 0 0) := (blk_cell Zd.out 1).trans rfl; have hfz55_0 := blk_frozen Zd.out 0; have hfz55_1 := blk_frozen Zd.out 1; obtain ⟨Ao56, co56, eo56⟩ := Kd.R_slice Zv.out; subst eo56))
    refine bodyPost_ret (results_cell_row rfl _ _ gb483 48 #[.slice Ao53 t494.length co53, .slice Ao56 t497.length co56] (0, 0) _ rfl (by (with_reducible repeat (first | refine blk_drewN ?_ _ | refine blk_drew ?_ | refine blk_alloc ?_ _)); refine blk_put (cs := #[.slice Ao53 t494.length co53, .slice none 0 0]) ?_ 1 _ rfl; (with_reducible repeat (first | refine blk_drewN ?_ _ | refine blk_drew ?_ | refine blk_alloc ?_ _)); refine blk_put (cs := #[.slice none 0 0, .slice none 0 0]) ?_ 0 _ rfl; (with_reducible repeat (first | refine blk_drewN ?_ _ | refine blk_drew ?_ | refine blk_alloc ?_ _)); exact Zd.out) Try.underlying48 rfl (by kernel_rfl)) rfl ?_
    exact ⟨_, _, by first | rfl | (simp [errW_none, errW_some] <;> rfl) | (simp [*, errW_none, errW_some] <;> rfl), by (with_reducible repeat (first | apply Kd.R_alloc | apply Kd.R_drewN | apply Kd.R_drew)); exact Kd.R_mono (Kd.R_far (p := ⟨gb483, 1, none⟩) (Kd.R_far (p := ⟨gb483, 0, none⟩) (Kd.R_types Zu.out Zd.out (by decide)) (fun _ hk => hk.2) (.slice Ao53 t494.length co53)) (fun _ hk => hk.2) (.slice Ao56 t497.length co56)) (fun _ hk => trivial), by (with_reducible repeat (first | apply Kd.R_alloc | apply Kd.R_drewN | apply Kd.R_drew)); exact Kd.R_mono (Kd.R_far (p := ⟨gb483, 1, none⟩) (Kd.R_far (p := ⟨gb483, 0, none⟩) (Kd.R_types Zv.out Zd.out (by decide)) (fun _ hk => hk.2) (.slice Ao53 t494.length co53)) (fun _ hk => hk.2) (.slice Ao56 t497.length co56)) (fun _ hk => trivial), zg_17 HI0.out Ze.out Zf.out, zg_18 HB.out HI0.out Zk.out Zn.out, zg_16 HK.out Zh.out Zi.out⟩
/-! ### spec_DiskOf: function 24 -/
def spec_DiskOf.f (k : Nat) (l0 : List Int) : Option (List ByteArray × (List (S92))) := (spec_l00Source.f l0).bind fun bt531 => ((spec_l00Src_disk.f k bt531.1 bt531.2.1 bt531.2.2).bind fun bt535 => (some (bt535.1, bt535.2.1)))
theorem spec_DiskOf.mono : ∀ a0 k, LeO (spec_DiskOf.f k a0) (spec_DiskOf.f (k + 1) a0) := by
  intro a0 k
  unfold spec_DiskOf.f
  repeat' first
      | (with_reducible exact spec_l00Src_disk.mono _ _ _ _)
      | (with_reducible exact LeO.refl _)
      | (with_reducible exact LeO.none _)
      | (with_reducible refine LeO.ite ?_ ?_)
      | (with_reducible refine LeO.bind ?_ (fun _ => ?_))
      | exact spec_l00Src_disk.mono _ _ _ _
      | exact LeO.none _
      | refine LeO.ite ?_ ?_
      | refine LeO.bind ?_ (fun _ => ?_)
set_option maxHeartbeats 8000000 in
set_option maxRecDepth 100000 in
theorem spec_DiskOf.calls (k : Nat) (A0 : Option Addr) (c0 : Nat) (l0 : List Int) (r1 : List ByteArray) (r2 : List (S92)) (w : World) (hr0 : Kd.C (Kd.int .u8) w A0 l0.length l0) (hc0 : l0.length ≤ c0) (h : spec_DiskOf.f k l0 = some (r1, r2)) :
    Calls Try.prog 24 #[.slice A0 l0.length c0] w fun e w' => ∃ v0_ v1_ : Value, e = .returned (.agg #[v0_, v1_]) ∧ Kd.R Kd.string 9 w' w.heap.size (fun _ => True) v0_ r1 ∧ Kd.R k92 92 w' w.heap.size (fun _ => True) v1_ r2 ∧ Below w.heap.size w w' := by
 have hu48 := Try.underlying48
 have HR0 := zm hr0
 have HC0 := zm hc0
 clear hr0 hc0
 have HB := zm (Below.refl w.heap.size w)
 have H : ((spec_l00Source.f l0).bind fun bt531 => ((spec_l00Src_disk.f k bt531.1 bt531.2.1 bt531.2.2).bind fun bt535 => (some (bt535.1, bt535.2.1)))) = some (r1, r2) := h
 clear h
 replace H := Option.bind_eq_some_iff.mp H
 obtain ⟨⟨t531, t532, t533⟩, A20, H⟩ := H
 replace H : ((spec_l00Src_disk.f k t531 t532 t533).bind fun bt535 => (some (bt535.1, bt535.2.1))) = some (r1, r2) := H
 have A2 := zm A20
 clear A20
 replace H := Option.bind_eq_some_iff.mp H
 obtain ⟨⟨t535, t538, t541, t542⟩, A30, H⟩ := H
 replace H : (some (t535, t538)) = some (r1, r2) := H
 have A3 := zm A30
 clear A30
 simp only [Option.some.injEq, Prod.mk.injEq] at H
 obtain ⟨rfl, rfl⟩ := H
 go_enter Try.func24, Try.ntmps24
 go_wp2_with (first | ((with_reducible refine gate_dst (N := 2) rfl ?_); refine box_event ?hg (N := 2) ?hd (cs := #[.slice none 0 0, .slice none 0 0]) (t := 48) ?hr ?_; (case hd => rfl); (case hg => rfl); (case hr => first | (go_simp; done) | (go_simp; rfl)); intro gb530 hg w4 hbox hb; have n0_ := zm (below_step (zg_0 HB.out) hb); have n1_ := zm (hbox); have n2_ := zm ((by rw [hg]; exact (below_size (zg_0 HB.out)) : w.heap.size ≤ gb530)); have n3_ := zm ((by rw [hg]; exact (below_size (zg_0 HB.out)) : w.heap.size ≤ gb530)); clear HB; have HB := n0_; have BK530 := n1_; have GW530 := n2_; have GE530 := n3_; clear n0_ n1_ n2_ n3_; clear hb hbox hg) | ((with_reducible refine gate_callee (f := 47) rfl ?_); refine goesL_ (some 4) rfl rfl Try.func47 (by kernel_rfl) rfl #[.slice A0 l0.length c0] rfl zq ?_; (with_reducible refine (spec_l00Source.calls _ _ l0 t531 t532 t533 w _ ?side1 ?side2 ?side3 A2.out).mono ?_); (case side1 => repeat (first | (with_reducible first | exact HB.out | apply below_alloc | apply pw_below_drewN | apply below_drew1 | refine below_set ?_ GE530.out) | exact HB.out)); (case side2 => exact HR0.out); (case side3 => exact HC0.out); rintro e w5 ⟨g534, rfl, hi, hb, hb2⟩; refine ⟨_, rfl, ?_⟩; have n0_ := zm (blk_below (g := gb530) (o := .cells #[.slice none 0 0, .slice none 0 0] 48 (0, 0)) (zg_2 BK530.out) hb2); have n1_ := zm (hb); have n2_ := zm (hi); have n3_ := zm (IsS112.ne_blk hi (blk_below (g := gb530) (o := .cells #[.slice none 0 0, .slice none 0 0] 48 (0, 0)) (zg_2 BK530.out) hb2) (by decide)); have n4_ := zm (Ne.symm (IsS112.ne_blk hi (blk_below (g := gb530) (o := .cells #[.slice none 0 0, .slice none 0 0] 48 (0, 0)) (zg_2 BK530.out) hb2) (by decide))); clear BK530; clear HB; have BK530 := n0_; have HB := n1_; have HI534 := n2_; have NB534_530 := n3_; have NB530_534 := n4_; clear n0_ n1_ n2_ n3_ n4_; (try clear hb); (try clear hb2); (try clear hk); (try clear hi)) | ((with_reducible refine gate_callee (f := 69) rfl ?_); refine goesL_ (some 5) rfl rfl Try.func69 (by kernel_rfl) rfl #[.pointer (some ⟨g534, 0, none⟩)] rfl zq ?_; (with_reducible refine (spec_l00Src_disk.calls k g534 t531 t532 t533 t535 t538 t541 t542 w _ ?side1 ?side2 A3.out).mono ?_); (case side1 => repeat (first | (with_reducible first | exact HI534.out | apply IsS112.alloc | apply IsS112.drewN | apply IsS112.drew | apply IsS112.set_1 | apply IsS112.set_2 | refine IsS112.far ?_ NB534_530.out _) | exact HI534.out)); (case side2 => repeat (first | (with_reducible first | exact HB.out | apply below_alloc | apply pw_below_drewN | apply below_drew1 | refine below_set ?_ (IsS112.ge HI534.out) | refine below_set ?_ GE530.out) | exact HB.out)); rintro e w6 ⟨v536, v539, rfl, ho0, ho1, hi, hb, hk⟩; refine ⟨_, rfl, ?_⟩; have n0_ := zm (KeepBut.blk hk (g' := gb530) (o := .cells #[.slice none 0 0, .slice none 0 0] 48 (0, 0)) (zg_2 BK530.out) NB530_534.out (by simp)); have n1_ := zm (Kd.R_lower ho0 (below_size (zg_15 HB.out HI534.out GE530.out))); have n2_ := zm (Kd.R_lower ho1 (below_size (zg_15 HB.out HI534.out GE530.out))); have n3_ := zm (hb); have n4_ := zm (hi); clear BK530; clear HB; clear HI534; have BK530 := n0_; have HO537 := n1_; have HO540 := n2_; have HB := n3_; have HI534 := n4_; clear n0_ n1_ n2_ n3_ n4_; (try clear hb); (try clear hb2); (try clear hk); (try clear hi); (try clear ho0); (try clear ho1); obtain ⟨Ao7, co7, eo7⟩ := Kd.R_slice HO537.out; subst eo7; have hnb8 := NB530_534.out; have hnc8 := NB534_530.out; have hcz9_0 : w6.cell? ⟨gb530, 0, none⟩ = some (.slice none 0 0) := (blk_cell BK530.out 0).trans rfl; have hcz9_1 : w6.cell? ⟨gb530, 1, none⟩ = some (.slice none 0 0) := (blk_cell BK530.out 1).trans rfl; have hfz9_0 := blk_frozen BK530.out 0; have hfz9_1 := blk_frozen BK530.out 1; obtain ⟨Ao10, co10, eo10⟩ := Kd.R_slice HO540.out; subst eo10))
 refine bodyPost_ret (results_cell_row rfl _ _ gb530 48 #[.slice Ao7 t535.length co7, .slice Ao10 t538.length co10] (0, 0) _ rfl (by (with_reducible repeat (first | refine blk_drewN ?_ _ | refine blk_drew ?_ | refine blk_alloc ?_ _)); refine blk_put (cs := #[.slice Ao7 t535.length co7, .slice none 0 0]) ?_ 1 _ rfl; (with_reducible repeat (first | refine blk_drewN ?_ _ | refine blk_drew ?_ | refine blk_alloc ?_ _)); refine blk_put (cs := #[.slice none 0 0, .slice none 0 0]) ?_ 0 _ rfl; (with_reducible repeat (first | refine blk_drewN ?_ _ | refine blk_drew ?_ | refine blk_alloc ?_ _)); exact BK530.out) Try.underlying48 rfl (by kernel_rfl)) rfl ?_
 exact ⟨_, _, by first | rfl | (simp [errW_none, errW_some] <;> rfl) | (simp [*, errW_none, errW_some] <;> rfl), by (with_reducible repeat (first | apply Kd.R_alloc | apply Kd.R_drewN | apply Kd.R_drew)); exact Kd.R_mono (Kd.R_far (p := ⟨gb530, 1, none⟩) (Kd.R_far (p := ⟨gb530, 0, none⟩) (Kd.R_types HO537.out BK530.out (by decide)) (fun _ hk => hk.2) (.slice Ao7 t535.length co7)) (fun _ hk => hk.2) (.slice Ao10 t538.length co10)) (fun _ hk => trivial), by (with_reducible repeat (first | apply Kd.R_alloc | apply Kd.R_drewN | apply Kd.R_drew)); exact Kd.R_mono (Kd.R_far (p := ⟨gb530, 1, none⟩) (Kd.R_far (p := ⟨gb530, 0, none⟩) (Kd.R_types HO540.out BK530.out (by decide)) (fun _ hk => hk.2) (.slice Ao7 t535.length co7)) (fun _ hk => hk.2) (.slice Ao10 t538.length co10)) (fun _ hk => trivial), zg_15 HB.out HI534.out GE530.out⟩
/-! ### spec_l01In: function 72 -/
def spec_l01In.f (a0 : Int) (a1 : Int) (a2 : Int) : Option (Bool) := if a1 ≤ a0 then (some (decide (a0 ≤ a2))) else (some false)
set_option maxHeartbeats 8000000 in
set_option maxRecDepth 100000 in
theorem spec_l01In.calls (a0 : Int) (a1 : Int) (a2 : Int) (r : Bool) (w : World) (h : spec_l01In.f a0 a1 a2 = some r) :
    Calls Try.prog 72 #[.int .i64 a0, .int .i64 a1, .int .i64 a2] w fun e w' => e = .returned (.bool r) ∧ Drawn0 w w' := by
  have H : (if a1 ≤ a0 then (some (decide (a0 ≤ a2))) else (some false)) = some r := h
  clear h
  by_cases c4 : a1 ≤ a0
  · rw [if_pos c4] at H
    have c4b0 : decide (a1 ≤ a0) = true := decide_eq_true c4
    clear c4
    obtain rfl := Option.some.inj H
    go_enter Try.func72, Try.ntmps72
    go_wp2
    go_ret
    exact ⟨by first | rfl | (simp; done) | (simp [*]; done), by repeat (first | exact Drawn0.refl _ | apply Drawn0.step)⟩
  · rw [if_neg c4] at H
    have c4b0 : decide (a1 ≤ a0) = false := decide_eq_false c4
    clear c4
    obtain rfl := Option.some.inj H
    go_enter Try.func72, Try.ntmps72
    go_wp2
    go_ret
    exact ⟨by first | rfl | (simp; done) | (simp [*]; done), by repeat (first | exact Drawn0.refl _ | apply Drawn0.step)⟩
/-! ### spec_l01Io: function 140 -/
def spec_l01Io.f (a0_0 : Int) (a0_1 : Int) (a0_2 : ByteArray) : Option (Bool) := (spec_l01In.f a0_0 0 3).bind fun t570 => (if t570 = true then ((spec_l01In.f a0_1 0 63).bind fun t571 => (if t571 = true then (some (decide ((a0_2.size : Int) ≤ 80))) else (some false))) else (some false))
set_option maxHeartbeats 8000000 in
set_option maxRecDepth 100000 in
theorem spec_l01Io.calls (a0_0 : Int) (a0_1 : Int) (a0_2 : ByteArray) (r : Bool) (w : World) (h : spec_l01Io.f a0_0 a0_1 a0_2 = some r) :
    Calls Try.prog 140 #[.agg #[.int .i64 a0_0, .int .i64 a0_1, .string a0_2]] w fun e w' => e = .returned (.bool r) ∧ Below w.heap.size w w' := by
 have hu92 := Try.underlying92
 have HB := zm (Below.refl w.heap.size w)
 have H : ((spec_l01In.f a0_0 0 3).bind fun t570 => (if t570 = true then ((spec_l01In.f a0_1 0 63).bind fun t571 => (if t571 = true then (some (decide ((a0_2.size : Int) ≤ 80))) else (some false))) else (some false))) = some r := h
 clear h
 replace H := Option.bind_eq_some_iff.mp H
 obtain ⟨t570, A20, H⟩ := H
 replace H : (if t570 = true then ((spec_l01In.f a0_1 0 63).bind fun t571 => (if t571 = true then (some (decide ((a0_2.size : Int) ≤ 80))) else (some false))) else (some false)) = some r := H
 have A2 := zm A20
 clear A20
 by_cases c3 : t570 = true
 ·subst c3
  have H1 : ((spec_l01In.f a0_1 0 63).bind fun t571 => (if t571 = true then (some (decide ((a0_2.size : Int) ≤ 80))) else (some false))) = some r := by rw [if_pos rfl] at H; exact H
  clear H
  have H := H1
  clear H1
  replace H := Option.bind_eq_some_iff.mp H
  obtain ⟨t571, A40, H⟩ := H
  replace H : (if t571 = true then (some (decide ((a0_2.size : Int) ≤ 80))) else (some false)) = some r := H
  have A4 := zm A40
  clear A40
  by_cases c5 : t571 = true
  ·subst c5
   have H1 : (some (decide ((a0_2.size : Int) ≤ 80))) = some r := by rw [if_pos rfl] at H; exact H
   clear H
   have H := H1
   clear H1
   obtain rfl := Option.some.inj H
   go_enter Try.func140, Try.ntmps140
   go_wp2_with (first | ((with_reducible refine gate_dst (N := 1) rfl ?_); (try (refine gate_guard (by rfl) ?_; dsimp only)); refine box_event ?hg (N := 1) ?hd (cs := #[.int .i64 a0_0, .int .i64 a0_1, .string a0_2]) (t := 92) ?hr ?_; (case hd => rfl); (case hg => rfl); (case hr => first | (go_simp; done) | (go_simp; rfl)); intro gb569 hg w6 hbox hb; have n0_ := zm (below_step (zg_0 HB.out) hb); have n1_ := zm (hbox); have n2_ := zm ((by rw [hg]; exact (below_size (zg_0 HB.out)) : w.heap.size ≤ gb569)); have n3_ := zm ((by rw [hg]; exact (below_size (zg_0 HB.out)) : w.heap.size ≤ gb569)); clear HB; have HB := n0_; have BK569 := n1_; have GW569 := n2_; have GE569 := n3_; clear n0_ n1_ n2_ n3_; clear hb hbox hg; have hcz7_0 : w6.cell? ⟨gb569, 0, none⟩ = some (.int .i64 a0_0) := (blk_cell BK569.out 0).trans rfl; have hcz7_1 : w6.cell? ⟨gb569, 1, none⟩ = some (.int .i64 a0_1) := (blk_cell BK569.out 1).trans rfl; have hcz7_2 : w6.cell? ⟨gb569, 2, none⟩ = some (.string a0_2) := (blk_cell BK569.out 2).trans rfl; have hfz7_0 := blk_frozen BK569.out 0; have hfz7_1 := blk_frozen BK569.out 1; have hfz7_2 := blk_frozen BK569.out 2) | ((with_reducible refine gate_callee (f := 72) rfl ?_); refine goesL_ (some 5) rfl rfl Try.func72 (by kernel_rfl) rfl #[.int .i64 a0_0, .int .i64 0, .int .i64 3] rfl zq ?_; (with_reducible refine (spec_l01In.calls a0_0 0 3 true _ A2.out).mono ?_); rintro e w' ⟨rfl, ⟨nd, rfl⟩⟩; refine ⟨_, rfl, ?_⟩) | (go_at_call 72; (with_reducible refine (spec_l01In.calls a0_1 0 63 true _ A4.out).mono ?_); rintro e w' ⟨rfl, ⟨nd, rfl⟩⟩))
   go_ret
   exact ⟨by first | rfl | (simp [errW_none, errW_some] <;> rfl) | (simp [*, errW_none, errW_some] <;> rfl), zg_1 HB.out GE569.out⟩
  ·replace c5 := Bool.eq_false_iff.mpr c5
   subst c5
   have H1 : (some false) = some r := by rw [if_neg (show ¬ (false = true) by decide)] at H; exact H
   clear H
   have H := H1
   clear H1
   obtain rfl := Option.some.inj H
   go_enter Try.func140, Try.ntmps140
   go_wp2_with (first | ((with_reducible refine gate_dst (N := 1) rfl ?_); (try (refine gate_guard (by rfl) ?_; dsimp only)); refine box_event ?hg (N := 1) ?hd (cs := #[.int .i64 a0_0, .int .i64 a0_1, .string a0_2]) (t := 92) ?hr ?_; (case hd => rfl); (case hg => rfl); (case hr => first | (go_simp; done) | (go_simp; rfl)); intro gb569 hg w8 hbox hb; have n0_ := zm (below_step (zg_0 HB.out) hb); have n1_ := zm (hbox); have n2_ := zm ((by rw [hg]; exact (below_size (zg_0 HB.out)) : w.heap.size ≤ gb569)); have n3_ := zm ((by rw [hg]; exact (below_size (zg_0 HB.out)) : w.heap.size ≤ gb569)); clear HB; have HB := n0_; have BK569 := n1_; have GW569 := n2_; have GE569 := n3_; clear n0_ n1_ n2_ n3_; clear hb hbox hg; have hcz9_0 : w8.cell? ⟨gb569, 0, none⟩ = some (.int .i64 a0_0) := (blk_cell BK569.out 0).trans rfl; have hcz9_1 : w8.cell? ⟨gb569, 1, none⟩ = some (.int .i64 a0_1) := (blk_cell BK569.out 1).trans rfl; have hcz9_2 : w8.cell? ⟨gb569, 2, none⟩ = some (.string a0_2) := (blk_cell BK569.out 2).trans rfl; have hfz9_0 := blk_frozen BK569.out 0; have hfz9_1 := blk_frozen BK569.out 1; have hfz9_2 := blk_frozen BK569.out 2) | ((with_reducible refine gate_callee (f := 72) rfl ?_); refine goesL_ (some 5) rfl rfl Try.func72 (by kernel_rfl) rfl #[.int .i64 a0_0, .int .i64 0, .int .i64 3] rfl zq ?_; (with_reducible refine (spec_l01In.calls a0_0 0 3 true _ A2.out).mono ?_); rintro e w' ⟨rfl, ⟨nd, rfl⟩⟩; refine ⟨_, rfl, ?_⟩) | (go_at_call 72; (with_reducible refine (spec_l01In.calls a0_1 0 63 false _ A4.out).mono ?_); rintro e w' ⟨rfl, ⟨nd, rfl⟩⟩))
   go_ret
   exact ⟨by first | rfl | (simp [errW_none, errW_some] <;> rfl) | (simp [*, errW_none, errW_some] <;> rfl), zg_1 HB.out GE569.out⟩
 ·replace c3 := Bool.eq_false_iff.mpr c3
  subst c3
  have H1 : (some false) = some r := by rw [if_neg (show ¬ (false = true) by decide)] at H; exact H
  clear H
  have H := H1
  clear H1
  obtain rfl := Option.some.inj H
  go_enter Try.func140, Try.ntmps140
  go_wp2_with (first | ((with_reducible refine gate_dst (N := 1) rfl ?_); (try (refine gate_guard (by rfl) ?_; dsimp only)); refine box_event ?hg (N := 1) ?hd (cs := #[.int .i64 a0_0, .int .i64 a0_1, .string a0_2]) (t := 92) ?hr ?_; (case hd => rfl); (case hg => rfl); (case hr => first | (go_simp; done) | (go_simp; rfl)); intro gb569 hg w10 hbox hb; have n0_ := zm (below_step (zg_0 HB.out) hb); have n1_ := zm (hbox); have n2_ := zm ((by rw [hg]; exact (below_size (zg_0 HB.out)) : w.heap.size ≤ gb569)); have n3_ := zm ((by rw [hg]; exact (below_size (zg_0 HB.out)) : w.heap.size ≤ gb569)); clear HB; have HB := n0_; have BK569 := n1_; have GW569 := n2_; have GE569 := n3_; clear n0_ n1_ n2_ n3_; clear hb hbox hg; have hcz11_0 : w10.cell? ⟨gb569, 0, none⟩ = some (.int .i64 a0_0) := (blk_cell BK569.out 0).trans rfl; have hcz11_1 : w10.cell? ⟨gb569, 1, none⟩ = some (.int .i64 a0_1) := (blk_cell BK569.out 1).trans rfl; have hcz11_2 : w10.cell? ⟨gb569, 2, none⟩ = some (.string a0_2) := (blk_cell BK569.out 2).trans rfl; have hfz11_0 := blk_frozen BK569.out 0; have hfz11_1 := blk_frozen BK569.out 1; have hfz11_2 := blk_frozen BK569.out 2) | ((with_reducible refine gate_callee (f := 72) rfl ?_); refine goesL_ (some 5) rfl rfl Try.func72 (by kernel_rfl) rfl #[.int .i64 a0_0, .int .i64 0, .int .i64 3] rfl zq ?_; (with_reducible refine (spec_l01In.calls a0_0 0 3 false _ A2.out).mono ?_); rintro e w' ⟨rfl, ⟨nd, rfl⟩⟩; refine ⟨_, rfl, ?_⟩))
  go_ret
  exact ⟨by first | rfl | (simp [errW_none, errW_some] <;> rfl) | (simp [*, errW_none, errW_some] <;> rfl), zg_1 HB.out GE569.out⟩
/-! ### spec_DiskOK: function 116 -/
mutual
def spec_DiskOK.j0 : Nat → Bool → List ByteArray → List (S92) → Option (Bool)
  | 0, _, _, _ => none
  | k + 1, x14, x573000, x573001 => if x14 = true then (some false) else (spec_DiskOK.l0 k 0 x573000 x573001)
def spec_DiskOK.l0 : Nat → Int → List ByteArray → List (S92) → Option (Bool)
  | 0, _, _, _ => none
  | k + 1, x3, x573000, x573001 => if x3 < (x573000.length : Int) then (if 0 ≤ x3 then (if ((rdOf ByteArray.empty x573000 x3).size : Int) > 80 then (some false) else (spec_DiskOK.l0 k (wrap64 (x3 + 1)) x573000 x573001)) else (none)) else (spec_DiskOK.l1 k 0 x573000 x573001)
def spec_DiskOK.l1 : Nat → Int → List ByteArray → List (S92) → Option (Bool)
  | 0, _, _, _ => none
  | k + 1, x4, x573000, x573001 => if x4 < (x573001.length : Int) then (if 0 ≤ x4 then ((spec_l01Io.f ((rd_T92 x573001 x4).f0) ((rd_T92 x573001 x4).f1) ((rd_T92 x573001 x4).f2)).bind fun t575 => (if t575 = true then (spec_DiskOK.l1 k (wrap64 (x4 + 1)) x573000 x573001) else (some false))) else (none)) else (some true)
end
def spec_DiskOK.f (k : Nat) (l0_0 : List ByteArray) (l0_1 : List (S92)) : Option (Bool) := if (l0_0.length : Int) = 64 then (spec_DiskOK.j0 k (decide ((l0_1.length : Int) > 200)) l0_0 l0_1) else (spec_DiskOK.j0 k true l0_0 l0_1)
theorem spec_DiskOK.mono_l : ∀ k, (∀ y0 y1 y2, LeO (spec_DiskOK.j0 k y0 y1 y2) (spec_DiskOK.j0 (k + 1) y0 y1 y2)) ∧ (∀ y0 y1 y2, LeO (spec_DiskOK.l0 k y0 y1 y2) (spec_DiskOK.l0 (k + 1) y0 y1 y2)) ∧ (∀ y0 y1 y2, LeO (spec_DiskOK.l1 k y0 y1 y2) (spec_DiskOK.l1 (k + 1) y0 y1 y2))
  | 0 => ⟨fun _ _ _ r h => by simp [spec_DiskOK.j0] at h, fun _ _ _ r h => by simp [spec_DiskOK.l0] at h, fun _ _ _ r h => by simp [spec_DiskOK.l1] at h⟩
  | k + 1 => by
    obtain ⟨ih0, ih1, ih2⟩ := spec_DiskOK.mono_l k
    refine ⟨?_, ?_, ?_⟩
    · intro y0 y1 y2
      unfold spec_DiskOK.j0
      repeat' first
      | (with_reducible exact ih0 _ _ _)
      | (with_reducible exact ih1 _ _ _)
      | (with_reducible exact ih2 _ _ _)
      | (with_reducible exact LeO.refl _)
      | (with_reducible exact LeO.none _)
      | (with_reducible refine LeO.ite ?_ ?_)
      | (with_reducible refine LeO.bind ?_ (fun _ => ?_))
      | exact ih0 _ _ _
      | exact ih1 _ _ _
      | exact ih2 _ _ _
      | exact LeO.none _
      | refine LeO.ite ?_ ?_
      | refine LeO.bind ?_ (fun _ => ?_)
    · intro y0 y1 y2
      unfold spec_DiskOK.l0
      repeat' first
      | (with_reducible exact ih0 _ _ _)
      | (with_reducible exact ih1 _ _ _)
      | (with_reducible exact ih2 _ _ _)
      | (with_reducible exact LeO.refl _)
      | (with_reducible exact LeO.none _)
      | (with_reducible refine LeO.ite ?_ ?_)
      | (with_reducible refine LeO.bind ?_ (fun _ => ?_))
      | exact ih0 _ _ _
      | exact ih1 _ _ _
      | exact ih2 _ _ _
      | exact LeO.none _
      | refine LeO.ite ?_ ?_
      | refine LeO.bind ?_ (fun _ => ?_)
    · intro y0 y1 y2
      unfold spec_DiskOK.l1
      repeat' first
      | (with_reducible exact ih0 _ _ _)
      | (with_reducible exact ih1 _ _ _)
      | (with_reducible exact ih2 _ _ _)
      | (with_reducible exact LeO.refl _)
      | (with_reducible exact LeO.none _)
      | (with_reducible refine LeO.ite ?_ ?_)
      | (with_reducible refine LeO.bind ?_ (fun _ => ?_))
      | exact ih0 _ _ _
      | exact ih1 _ _ _
      | exact ih2 _ _ _
      | exact LeO.none _
      | refine LeO.ite ?_ ?_
      | refine LeO.bind ?_ (fun _ => ?_)
theorem spec_DiskOK.mono : ∀ a0 a1 k, LeO (spec_DiskOK.f k a0 a1) (spec_DiskOK.f (k + 1) a0 a1) := by
  intro a0 a1 k
  obtain ⟨ih0, ih1, ih2⟩ := spec_DiskOK.mono_l k
  unfold spec_DiskOK.f
  repeat' first
      | (with_reducible exact ih0 _ _ _)
      | (with_reducible exact ih1 _ _ _)
      | (with_reducible exact ih2 _ _ _)
      | (with_reducible exact LeO.refl _)
      | (with_reducible exact LeO.none _)
      | (with_reducible refine LeO.ite ?_ ?_)
      | (with_reducible refine LeO.bind ?_ (fun _ => ?_))
      | exact ih0 _ _ _
      | exact ih1 _ _ _
      | exact ih2 _ _ _
      | exact LeO.none _
      | refine LeO.ite ?_ ?_
      | refine LeO.bind ?_ (fun _ => ?_)
set_option maxHeartbeats 8000000 in
set_option maxRecDepth 100000 in
theorem spec_DiskOK.calls (k : Nat) (A0_0 : Option Addr) (c0_0 : Nat) (l0_0 : List ByteArray) (A0_1 : Option Addr) (c0_1 : Nat) (l0_1 : List (S92)) (r : Bool) (w : World) (hr0_0 : Kd.C Kd.string w A0_0 l0_0.length l0_0) (hc0_0 : l0_0.length ≤ c0_0) (hr0_1 : Kd.C k92 w A0_1 l0_1.length l0_1) (hc0_1 : l0_1.length ≤ c0_1) (h : spec_DiskOK.f k l0_0 l0_1 = some r) :
    Calls Try.prog 116 #[.agg #[.slice A0_0 l0_0.length c0_0, .slice A0_1 l0_1.length c0_1]] w fun e w' => e = .returned (.bool r) ∧ Below w.heap.size w w' := by
 have hu48 := Try.underlying48
 have hu92 := Try.underlying92
 have Zc := zm hr0_0
 have Ze := zm hc0_0
 clear hr0_0 hc0_0
 have Zd := zm hr0_1
 have Zf := zm hc0_1
 clear hr0_1 hc0_1
 have HB := zm (Below.refl w.heap.size w)
 have H : (if (l0_0.length : Int) = 64 then (spec_DiskOK.j0 k (decide ((l0_1.length : Int) > 200)) l0_0 l0_1) else (spec_DiskOK.j0 k true l0_0 l0_1)) = some r := h
 clear h
 have HC2 := zm H
 clear H
 go_enter Try.func116, Try.ntmps116
 go_upto_region 1 with (first | ((with_reducible refine gate_dst (N := 1) rfl ?_); (try (refine gate_guard (by rfl) ?_; dsimp only)); refine box_event ?hg (N := 1) ?hd (cs := #[.slice A0_0 l0_0.length c0_0, .slice A0_1 l0_1.length c0_1]) (t := 48) ?hr ?_; (case hd => rfl); (case hg => rfl); (case hr => first | (go_simp; done) | (go_simp; rfl)); intro gb572 hg w3 hbox hb; have n0_ := zm (below_step (zg_0 HB.out) hb); have n1_ := zm (hbox); have n2_ := zm ((by rw [hg]; exact (below_size (zg_0 HB.out)) : w.heap.size ≤ gb572)); have n3_ := zm ((by rw [hg]; exact (below_size (zg_0 HB.out)) : w.heap.size ≤ gb572)); clear HB; have HB := n0_; have Za := n1_; have Zg := n2_; have Zb := n3_; clear n0_ n1_ n2_ n3_; clear hb hbox hg))
 (try simp only [Act.put, zs, zz, zt])
 go_cut [14] (fun v14 wc => ∃ (kq : Nat) (x14_1 : Bool), v14 = .bool x14_1 ∧ Aside0 (spec_DiskOK.j0 kq x14_1 l0_0 l0_1 = some r) ∧ Aside0 (kq ≤ k) ∧ Aside0 (wc.heap[gb572]? = some (.cells #[(.slice A0_0 l0_0.length c0_0), (.slice A0_1 l0_1.length c0_1)] 48 (0, 0))) ∧ Aside0 (Below w.heap.size w wc))
 case first =>
  have H := HC2.out
  clear HC2
  by_cases c4 : (l0_0.length : Int) = 64
  ·rw [if_pos c4] at H
   have c4b0 : ((l0_0.length : Int) == 64) = true := beq_iff_eq.mpr c4
   have c4b1 : ((l0_0.length : Int) != 64) = false := bne_eq_false_iff_eq.mpr c4
   clear c4
   (first | rw [c4b0] | (simp only [i64_w, i32_w]; rw [c4b0]) | skip)
   have H' := zm H
   clear H
   have hcz5_0 : w3.cell? ⟨gb572, 0, none⟩ = some (.slice A0_0 l0_0.length c0_0) := (blk_cell Za.out 0).trans rfl
   have hcz5_1 : w3.cell? ⟨gb572, 1, none⟩ = some (.slice A0_1 l0_1.length c0_1) := (blk_cell Za.out 1).trans rfl
   have hfz5_0 := blk_frozen Za.out 0
   have hfz5_1 := blk_frozen Za.out 1
   go_wp2
   go_meet
   case rel => exact ⟨_, (decide ((l0_1.length : Int) > 200)), zr, H', ⟨by first | omega | exact Nat.le_refl _⟩, ⟨by (with_reducible repeat (first | refine blk_drewN ?_ _ | refine blk_drew ?_ | refine blk_alloc ?_ _)); exact Za.out⟩, ⟨zg_1 HB.out Zb.out⟩⟩
  ·rw [if_neg c4] at H
   have c4b0 : ((l0_0.length : Int) == 64) = false := beq_eq_false_iff_ne.mpr c4
   have c4b1 : ((l0_0.length : Int) != 64) = true := bne_iff_ne.mpr c4
   (first | rw [c4b0] | (simp only [i64_w, i32_w]; rw [c4b0]) | skip)
   have H' := zm H
   clear H
   have hcz6_0 : w3.cell? ⟨gb572, 0, none⟩ = some (.slice A0_0 l0_0.length c0_0) := (blk_cell Za.out 0).trans rfl
   have hcz6_1 : w3.cell? ⟨gb572, 1, none⟩ = some (.slice A0_1 l0_1.length c0_1) := (blk_cell Za.out 1).trans rfl
   have hfz6_0 := blk_frozen Za.out 0
   have hfz6_1 := blk_frozen Za.out 1
   go_wp2
   go_meet
   case rel => exact ⟨_, (true), zr, H', ⟨by first | omega | exact Nat.le_refl _⟩, ⟨by (with_reducible repeat (first | refine blk_drewN ?_ _ | refine blk_drew ?_ | refine blk_alloc ?_ _)); exact Za.out⟩, ⟨zg_1 HB.out Zb.out⟩⟩
 case rest =>
  clear HC2
  try clear c1
  try clear p2
  try clear c4
  try clear c4b0
  try clear c4b1
  try clear hcz5_0
  try clear hcz5_1
  try clear hcz6_0
  try clear hcz6_1
  try clear hfz5_0
  try clear hfz5_1
  try clear hfz6_0
  try clear hfz6_1
  obtain ⟨kq, x14_1, rfl, HA, HJ1, Za, HB⟩ := hcut
  cases kq with
  | zero => exact absurd HA.out (by simp [spec_DiskOK.j0])
  | succ kj1 =>
   have H := HA.out
   clear HA
   simp only [spec_DiskOK.j0] at H
   by_cases c7 : x14_1 = true
   ·subst c7
    have H1 : (some false) = some r := by rw [if_pos rfl] at H; exact H
    clear H
    have H := H1
    clear H1
    obtain rfl := Option.some.inj H
    go_wp2
    go_ret
    exact ⟨by first | rfl | (simp [errW_none, errW_some] <;> rfl) | (simp [*, errW_none, errW_some] <;> rfl), zg_1 HB.out Zb.out⟩
   ·replace c7 := Bool.eq_false_iff.mpr c7
    subst c7
    have H1 : (spec_DiskOK.l0 kj1 0 l0_0 l0_1) = some r := by rw [if_neg (show ¬ (false = true) by decide)] at H; exact H
    clear H
    have H := H1
    clear H1
    have H' := zm H
    clear H
    go_wp2
    go_loopg [3] kj1 (fun kq v3 w' => ∃ (x3_2 : Int), v3 = .int .i64 x3_2 ∧ Aside0 (spec_DiskOK.l0 kq x3_2 l0_0 l0_1 = some r) ∧ Aside0 (kq ≤ kj1) ∧ Aside0 (w'.heap[gb572]? = some (.cells #[(.slice A0_0 l0_0.length c0_0), (.slice A0_1 l0_1.length c0_1)] 48 (0, 0))) ∧ Aside0 (Below w.heap.size w w'))
    case atStart => exact ⟨(0), zr, H', ⟨Nat.le_refl _⟩, ⟨by (with_reducible repeat (first | refine blk_drewN ?_ _ | refine blk_drew ?_ | refine blk_alloc ?_ _)); exact Za.out⟩, ⟨zg_1 HB.out Zb.out⟩⟩
    case round =>
     clear H'
     try clear c1
     try clear p2
     try clear c4
     try clear c4b0
     try clear c4b1
     try clear c7
     try clear hcz5_0
     try clear hcz5_1
     try clear hcz6_0
     try clear hcz6_1
     try clear hfz5_0
     try clear hfz5_1
     try clear hfz6_0
     try clear hfz6_1
     try clear p2
     obtain ⟨x3_2, rfl, HA, HK2, Za, HB⟩ := hrel
     cases gk with
     | zero => exact absurd HA.out (by simp [spec_DiskOK.l0])
     | succ k2 =>
      have H := HA.out
      clear HA
      simp only [spec_DiskOK.l0] at H
      by_cases c8 : x3_2 < (l0_0.length : Int)
      ·rw [if_pos c8] at H
       have c8b0 : decide (x3_2 < (l0_0.length : Int)) = true := decide_eq_true c8
       clear c8
       by_cases c9 : 0 ≤ x3_2
       ·rw [if_pos c9] at H
        have c9b0 : decide (0 ≤ x3_2) = true := decide_eq_true c9
        clear c9
        by_cases c10 : ((rdOf ByteArray.empty l0_0 x3_2).size : Int) > 80
        ·rw [if_pos c10] at H
         have c10b0 : decide (80 < ((rdOf ByteArray.empty l0_0 x3_2).size : Int)) = true := decide_eq_true c10
         have c10b1 : decide (80 < (rdOf ByteArray.empty l0_0 x3_2).size) = true := decide_eq_true (by omega)
         clear c10
         obtain rfl := Option.some.inj H
         have hcz11_0 : wr.cell? ⟨gb572, 0, none⟩ = some (.slice A0_0 l0_0.length c0_0) := (blk_cell Za.out 0).trans rfl
         have hcz11_1 : wr.cell? ⟨gb572, 1, none⟩ = some (.slice A0_1 l0_1.length c0_1) := (blk_cell Za.out 1).trans rfl
         have hfz11_0 := blk_frozen Za.out 0
         have hfz11_1 := blk_frozen Za.out 1
         have p573 : 0 ≤ (x3_2 : Int) := of_decide_eq_true (by first | (with_reducible assumption) | assumption)
         have q573 : x3_2 < (l0_0.length : Int) := of_decide_eq_true (by first | (with_reducible assumption) | assumption)
         obtain ⟨ad573, e573, hx573_0⟩ := Kd.at_string Zc.out x3_2 p573 q573
         cases e573
         replace hx573_0 := (HB.out.cell (World.block_lt_of_cell? w _ hx573_0)).trans hx573_0
         replace p573 := eq_true p573
         replace q573 := eq_true q573
         go_wp2
         go_ret
         exact ⟨by first | rfl | (simp [errW_none, errW_some] <;> rfl) | (simp [*, errW_none, errW_some] <;> rfl), zg_1 HB.out Zb.out⟩
        ·rw [if_neg c10] at H
         have c10b0 : decide (80 < ((rdOf ByteArray.empty l0_0 x3_2).size : Int)) = false := decide_eq_false c10
         have c10b1 : decide (80 < (rdOf ByteArray.empty l0_0 x3_2).size) = false := decide_eq_false (by omega)
         clear c10
         have H' := zm H
         clear H
         have hcz12_0 : wr.cell? ⟨gb572, 0, none⟩ = some (.slice A0_0 l0_0.length c0_0) := (blk_cell Za.out 0).trans rfl
         have hcz12_1 : wr.cell? ⟨gb572, 1, none⟩ = some (.slice A0_1 l0_1.length c0_1) := (blk_cell Za.out 1).trans rfl
         have hfz12_0 := blk_frozen Za.out 0
         have hfz12_1 := blk_frozen Za.out 1
         have p573 : 0 ≤ (x3_2 : Int) := of_decide_eq_true (by first | (with_reducible assumption) | assumption)
         have q573 : x3_2 < (l0_0.length : Int) := of_decide_eq_true (by first | (with_reducible assumption) | assumption)
         obtain ⟨ad573, e573, hx573_0⟩ := Kd.at_string Zc.out x3_2 p573 q573
         cases e573
         replace hx573_0 := (HB.out.cell (World.block_lt_of_cell? w _ hx573_0)).trans hx573_0
         replace p573 := eq_true p573
         replace q573 := eq_true q573
         go_wp2
         go_roundg k2
         case measure => have := HJ1.out; have := HK2.out; omega
         case rel => exact ⟨(wrap64 (x3_2 + 1)), zr, H', ⟨by have := HJ1.out; have := HK2.out; omega⟩, ⟨by (with_reducible repeat (first | refine blk_drewN ?_ _ | refine blk_drew ?_ | refine blk_alloc ?_ _)); exact Za.out⟩, ⟨zg_1 HB.out Zb.out⟩⟩
       ·rw [if_neg c9] at H
        exact absurd H (by simp)
      ·rw [if_neg c8] at H
       have c8b0 : decide (x3_2 < (l0_0.length : Int)) = false := decide_eq_false c8
       clear c8
       have H' := zm H
       clear H
       have hcz13_0 : wr.cell? ⟨gb572, 0, none⟩ = some (.slice A0_0 l0_0.length c0_0) := (blk_cell Za.out 0).trans rfl
       have hcz13_1 : wr.cell? ⟨gb572, 1, none⟩ = some (.slice A0_1 l0_1.length c0_1) := (blk_cell Za.out 1).trans rfl
       have hfz13_0 := blk_frozen Za.out 0
       have hfz13_1 := blk_frozen Za.out 1
       go_wp2
       go_loopg [4] k2 (fun kq v4 w' => ∃ (x4_3 : Int), v4 = .int .i64 x4_3 ∧ Aside0 (spec_DiskOK.l1 kq x4_3 l0_0 l0_1 = some r) ∧ Aside0 (kq ≤ k2) ∧ Aside0 (w'.heap[gb572]? = some (.cells #[(.slice A0_0 l0_0.length c0_0), (.slice A0_1 l0_1.length c0_1)] 48 (0, 0))) ∧ Aside0 (Below w.heap.size w w'))
       case atStart => exact ⟨(0), zr, H', ⟨Nat.le_refl _⟩, ⟨by (with_reducible repeat (first | refine blk_drewN ?_ _ | refine blk_drew ?_ | refine blk_alloc ?_ _)); exact Za.out⟩, ⟨zg_1 HB.out Zb.out⟩⟩
       case round =>
        clear H'
        try clear c1
        try clear p2
        try clear c4
        try clear c4b0
        try clear c4b1
        try clear p5
        try clear q5
        try clear hx5
        try clear p6
        try clear c7
        try clear c8
        try clear c8b0
        try clear c9
        try clear c9b0
        try clear c10
        try clear c10b0
        try clear c10b1
        try clear c11
        try clear hcz11_0
        try clear hcz11_1
        try clear hcz12_0
        try clear hcz12_1
        try clear hcz13_0
        try clear hcz13_1
        try clear hcz5_0
        try clear hcz5_1
        try clear hcz6_0
        try clear hcz6_1
        try clear hfz11_0
        try clear hfz11_1
        try clear hfz12_0
        try clear hfz12_1
        try clear hfz13_0
        try clear hfz13_1
        try clear hfz5_0
        try clear hfz5_1
        try clear hfz6_0
        try clear hfz6_1
        try clear hx573_0
        try clear p2
        try clear p573
        try clear q573
        obtain ⟨x4_3, rfl, HA, HK3, Za, HB⟩ := hrel
        cases gk with
        | zero => exact absurd HA.out (by simp [spec_DiskOK.l1])
        | succ k3 =>
         have H := HA.out
         clear HA
         simp only [spec_DiskOK.l1] at H
         by_cases c14 : x4_3 < (l0_1.length : Int)
         ·rw [if_pos c14] at H
          have c14b0 : decide (x4_3 < (l0_1.length : Int)) = true := decide_eq_true c14
          clear c14
          by_cases c15 : 0 ≤ x4_3
          ·rw [if_pos c15] at H
           have c15b0 : decide (0 ≤ x4_3) = true := decide_eq_true c15
           clear c15
           replace H := Option.bind_eq_some_iff.mp H
           obtain ⟨t575, A160, H⟩ := H
           replace H : (if t575 = true then (spec_DiskOK.l1 k3 (wrap64 (x4_3 + 1)) l0_0 l0_1) else (some false)) = some r := H
           have A16 := zm A160
           clear A160
           by_cases c17 : t575 = true
           ·subst c17
            have H1 : (spec_DiskOK.l1 k3 (wrap64 (x4_3 + 1)) l0_0 l0_1) = some r := by rw [if_pos rfl] at H; exact H
            clear H
            have H := H1
            clear H1
            have H' := zm H
            clear H
            have hcz18_0 : wr.cell? ⟨gb572, 0, none⟩ = some (.slice A0_0 l0_0.length c0_0) := (blk_cell Za.out 0).trans rfl
            have hcz18_1 : wr.cell? ⟨gb572, 1, none⟩ = some (.slice A0_1 l0_1.length c0_1) := (blk_cell Za.out 1).trans rfl
            have hfz18_0 := blk_frozen Za.out 0
            have hfz18_1 := blk_frozen Za.out 1
            have p574 : 0 ≤ (x4_3 : Int) := of_decide_eq_true (by first | (with_reducible assumption) | assumption)
            have q574 : x4_3 < (l0_1.length : Int) := of_decide_eq_true (by first | (with_reducible assumption) | assumption)
            obtain ⟨ad574, e574, hx574_0, hx574_1, hx574_2⟩ := at_T92 Zd.out x4_3 p574 q574
            cases e574
            replace hx574_0 := (HB.out.cell (World.block_lt_of_cell? w _ hx574_0)).trans hx574_0
            replace hx574_1 := (HB.out.cell (World.block_lt_of_cell? w _ hx574_1)).trans hx574_1
            replace hx574_2 := (HB.out.cell (World.block_lt_of_cell? w _ hx574_2)).trans hx574_2
            replace p574 := eq_true p574
            replace q574 := eq_true q574
            go_wp2_with (first | ((with_reducible refine gate_callee (f := 140) rfl ?_); refine goesL_ (some 41) rfl rfl Try.func140 (by kernel_rfl) rfl #[.agg #[.int .i64 ((rd_T92 l0_1 x4_3).f0), .int .i64 ((rd_T92 l0_1 x4_3).f1), .string ((rd_T92 l0_1 x4_3).f2)]] rfl zq ?_; (with_reducible refine (spec_l01Io.calls ((rd_T92 l0_1 x4_3).f0) ((rd_T92 l0_1 x4_3).f1) ((rd_T92 l0_1 x4_3).f2) true _ A16.out).mono ?_); rintro e w19 ⟨rfl, hb⟩; refine ⟨_, rfl, ?_⟩; have n0_ := zm (blk_below (g := gb572) (o := .cells #[.slice A0_0 l0_0.length c0_0, .slice (some ad574) l0_1.length c0_1] 48 (0, 0)) (zg_2 Za.out) hb); have n1_ := zm (below_step (zg_1 HB.out Zb.out) hb); clear Za; clear HB; have Za := n0_; have HB := n1_; clear n0_ n1_; (try clear hb); (try clear hb2); (try clear hk); (try clear hi)))
            go_roundg k3
            case measure => have := HJ1.out; have := HK2.out; have := HK3.out; omega
            case rel => exact ⟨(wrap64 (x4_3 + 1)), zr, H', ⟨by have := HJ1.out; have := HK2.out; have := HK3.out; omega⟩, ⟨by (with_reducible repeat (first | refine blk_drewN ?_ _ | refine blk_drew ?_ | refine blk_alloc ?_ _)); exact Za.out⟩, ⟨zg_1 HB.out Zb.out⟩⟩
           ·replace c17 := Bool.eq_false_iff.mpr c17
            subst c17
            have H1 : (some false) = some r := by rw [if_neg (show ¬ (false = true) by decide)] at H; exact H
            clear H
            have H := H1
            clear H1
            obtain rfl := Option.some.inj H
            have hcz20_0 : wr.cell? ⟨gb572, 0, none⟩ = some (.slice A0_0 l0_0.length c0_0) := (blk_cell Za.out 0).trans rfl
            have hcz20_1 : wr.cell? ⟨gb572, 1, none⟩ = some (.slice A0_1 l0_1.length c0_1) := (blk_cell Za.out 1).trans rfl
            have hfz20_0 := blk_frozen Za.out 0
            have hfz20_1 := blk_frozen Za.out 1
            have p574 : 0 ≤ (x4_3 : Int) := of_decide_eq_true (by first | (with_reducible assumption) | assumption)
            have q574 : x4_3 < (l0_1.length : Int) := of_decide_eq_true (by first | (with_reducible assumption) | assumption)
            obtain ⟨ad574, e574, hx574_0, hx574_1, hx574_2⟩ := at_T92 Zd.out x4_3 p574 q574
            cases e574
            replace hx574_0 := (HB.out.cell (World.block_lt_of_cell? w _ hx574_0)).trans hx574_0
            replace hx574_1 := (HB.out.cell (World.block_lt_of_cell? w _ hx574_1)).trans hx574_1
            replace hx574_2 := (HB.out.cell (World.block_lt_of_cell? w _ hx574_2)).trans hx574_2
            replace p574 := eq_true p574
            replace q574 := eq_true q574
            go_wp2_with (first | ((with_reducible refine gate_callee (f := 140) rfl ?_); refine goesL_ (some 41) rfl rfl Try.func140 (by kernel_rfl) rfl #[.agg #[.int .i64 ((rd_T92 l0_1 x4_3).f0), .int .i64 ((rd_T92 l0_1 x4_3).f1), .string ((rd_T92 l0_1 x4_3).f2)]] rfl zq ?_; (with_reducible refine (spec_l01Io.calls ((rd_T92 l0_1 x4_3).f0) ((rd_T92 l0_1 x4_3).f1) ((rd_T92 l0_1 x4_3).f2) false _ A16.out).mono ?_); rintro e w21 ⟨rfl, hb⟩; refine ⟨_, rfl, ?_⟩; have n0_ := zm (blk_below (g := gb572) (o := .cells #[.slice A0_0 l0_0.length c0_0, .slice (some ad574) l0_1.length c0_1] 48 (0, 0)) (zg_2 Za.out) hb); have n1_ := zm (below_step (zg_1 HB.out Zb.out) hb); clear Za; clear HB; have Za := n0_; have HB := n1_; clear n0_ n1_; (try clear hb); (try clear hb2); (try clear hk); (try clear hi)))
            go_ret
            exact ⟨by first | rfl | (simp [errW_none, errW_some] <;> rfl) | (simp [*, errW_none, errW_some] <;> rfl), zg_1 HB.out Zb.out⟩
          ·rw [if_neg c15] at H
           exact absurd H (by simp)
         ·rw [if_neg c14] at H
          have c14b0 : decide (x4_3 < (l0_1.length : Int)) = false := decide_eq_false c14
          clear c14
          obtain rfl := Option.some.inj H
          have hcz22_0 : wr.cell? ⟨gb572, 0, none⟩ = some (.slice A0_0 l0_0.length c0_0) := (blk_cell Za.out 0).trans rfl
          have hcz22_1 : wr.cell? ⟨gb572, 1, none⟩ = some (.slice A0_1 l0_1.length c0_1) := (blk_cell Za.out 1).trans rfl
          have hfz22_0 := blk_frozen Za.out 0
          have hfz22_1 := blk_frozen Za.out 1
          go_wp2
          go_ret
          exact ⟨by first | rfl | (simp [errW_none, errW_some] <;> rfl) | (simp [*, errW_none, errW_some] <;> rfl), zg_1 HB.out Zb.out⟩
/-! ### spec_l01Ask: function 71 -/
def spec_l01Ask.f (k : Nat) (l0_0 : List ByteArray) (l0_1 : List (S92)) (a1 : Int) (a2 : Int) : Option (Int) := (spec_DiskOK.f k l0_0 l0_1).bind fun t577 => (if t577 = true then ((spec_l01In.f a1 0 3).bind fun t578 => (if t578 = true then ((spec_l01In.f a2 0 63).bind fun t579 => (if t579 = true then (some 0) else (some 14))) else (some 4))) else (some 1))
theorem spec_l01Ask.mono : ∀ a0 a1 a2 a3 k, LeO (spec_l01Ask.f k a0 a1 a2 a3) (spec_l01Ask.f (k + 1) a0 a1 a2 a3) := by
  intro a0 a1 a2 a3 k
  unfold spec_l01Ask.f
  repeat' first
      | (with_reducible exact spec_DiskOK.mono _ _ _)
      | (with_reducible exact LeO.refl _)
      | (with_reducible exact LeO.none _)
      | (with_reducible refine LeO.ite ?_ ?_)
      | (with_reducible refine LeO.bind ?_ (fun _ => ?_))
      | exact spec_DiskOK.mono _ _ _
      | exact LeO.none _
      | refine LeO.ite ?_ ?_
      | refine LeO.bind ?_ (fun _ => ?_)
set_option maxHeartbeats 8000000 in
set_option maxRecDepth 100000 in
theorem spec_l01Ask.calls (k : Nat) (A0_0 : Option Addr) (c0_0 : Nat) (l0_0 : List ByteArray) (A0_1 : Option Addr) (c0_1 : Nat) (l0_1 : List (S92)) (a1 : Int) (a2 : Int) (r : Int) (w : World) (hr0_0 : Kd.C Kd.string w A0_0 l0_0.length l0_0) (hc0_0 : l0_0.length ≤ c0_0) (hr0_1 : Kd.C k92 w A0_1 l0_1.length l0_1) (hc0_1 : l0_1.length ≤ c0_1) (h : spec_l01Ask.f k l0_0 l0_1 a1 a2 = some r) :
    Calls Try.prog 71 #[.agg #[.slice A0_0 l0_0.length c0_0, .slice A0_1 l0_1.length c0_1], .int .i64 a1, .int .i64 a2] w fun e w' => e = .returned (.int .i64 r) ∧ Below w.heap.size w w' := by
 have hu48 := Try.underlying48
 have Zc := zm hr0_0
 have Zd := zm hc0_0
 clear hr0_0 hc0_0
 have Ze := zm hr0_1
 have Zf := zm hc0_1
 clear hr0_1 hc0_1
 have HB := zm (Below.refl w.heap.size w)
 have H : ((spec_DiskOK.f k l0_0 l0_1).bind fun t577 => (if t577 = true then ((spec_l01In.f a1 0 3).bind fun t578 => (if t578 = true then ((spec_l01In.f a2 0 63).bind fun t579 => (if t579 = true then (some 0) else (some 14))) else (some 4))) else (some 1))) = some r := h
 clear h
 replace H := Option.bind_eq_some_iff.mp H
 obtain ⟨t577, A40, H⟩ := H
 replace H : (if t577 = true then ((spec_l01In.f a1 0 3).bind fun t578 => (if t578 = true then ((spec_l01In.f a2 0 63).bind fun t579 => (if t579 = true then (some 0) else (some 14))) else (some 4))) else (some 1)) = some r := H
 have A4 := zm A40
 clear A40
 by_cases c5 : t577 = true
 ·subst c5
  have H1 : ((spec_l01In.f a1 0 3).bind fun t578 => (if t578 = true then ((spec_l01In.f a2 0 63).bind fun t579 => (if t579 = true then (some 0) else (some 14))) else (some 4))) = some r := by rw [if_pos rfl] at H; exact H
  clear H
  have H := H1
  clear H1
  replace H := Option.bind_eq_some_iff.mp H
  obtain ⟨t578, A60, H⟩ := H
  replace H : (if t578 = true then ((spec_l01In.f a2 0 63).bind fun t579 => (if t579 = true then (some 0) else (some 14))) else (some 4)) = some r := H
  have A6 := zm A60
  clear A60
  by_cases c7 : t578 = true
  ·subst c7
   have H1 : ((spec_l01In.f a2 0 63).bind fun t579 => (if t579 = true then (some 0) else (some 14))) = some r := by rw [if_pos rfl] at H; exact H
   clear H
   have H := H1
   clear H1
   replace H := Option.bind_eq_some_iff.mp H
   obtain ⟨t579, A80, H⟩ := H
   replace H : (if t579 = true then (some 0) else (some 14)) = some r := H
   have A8 := zm A80
   clear A80
   by_cases c9 : t579 = true
   ·subst c9
    have H1 : (some 0) = some r := by rw [if_pos rfl] at H; exact H
    clear H
    have H := H1
    clear H1
    obtain rfl := Option.some.inj H
    go_enter Try.func71, Try.ntmps71
    go_wp2_with (first | ((with_reducible refine gate_dst (N := 3) rfl ?_); refine box_event ?hg (N := 3) ?hd (cs := #[.slice A0_0 l0_0.length c0_0, .slice A0_1 l0_1.length c0_1]) (t := 48) ?hr ?_; (case hd => rfl); (case hg => rfl); (case hr => first | (go_simp; done) | (go_simp; rfl)); intro gb576 hg w10 hbox hb; have n0_ := zm (below_step (zg_0 HB.out) hb); have n1_ := zm (hbox); have n2_ := zm ((by rw [hg]; exact (below_size (zg_0 HB.out)) : w.heap.size ≤ gb576)); have n3_ := zm ((by rw [hg]; exact (below_size (zg_0 HB.out)) : w.heap.size ≤ gb576)); clear HB; have HB := n0_; have Za := n1_; have Zg := n2_; have Zb := n3_; clear n0_ n1_ n2_ n3_; clear hb hbox hg; have hcz11_0 : w10.cell? ⟨gb576, 0, none⟩ = some (.slice A0_0 l0_0.length c0_0) := (blk_cell Za.out 0).trans rfl; have hcz11_1 : w10.cell? ⟨gb576, 1, none⟩ = some (.slice A0_1 l0_1.length c0_1) := (blk_cell Za.out 1).trans rfl; have hfz11_0 := blk_frozen Za.out 0; have hfz11_1 := blk_frozen Za.out 1) | ((with_reducible refine gate_callee (f := 116) rfl ?_); refine goesL_ (some 9) rfl rfl Try.func116 (by kernel_rfl) rfl #[.agg #[.slice A0_0 l0_0.length c0_0, .slice A0_1 l0_1.length c0_1]] rfl zq ?_; (with_reducible refine (spec_DiskOK.calls k _ _ l0_0 _ _ l0_1 true _ ?side1 ?side2 ?side3 ?side4 A4.out).mono ?_); (case side1 => repeat (first | exact (Kd.C_below Zc.out HB.out) | (with_reducible refine Kd.C_alloc ?_ _) | (with_reducible refine Kd.C_drewN ?_ _) | (with_reducible refine Kd.C_drew ?_))); (case side2 => exact Zd.out); (case side3 => repeat (first | exact (Kd.C_below Ze.out HB.out) | (with_reducible refine Kd.C_alloc ?_ _) | (with_reducible refine Kd.C_drewN ?_ _) | (with_reducible refine Kd.C_drew ?_))); (case side4 => exact Zf.out); rintro e w12 ⟨rfl, hb⟩; refine ⟨_, rfl, ?_⟩; have n0_ := zm (blk_below (g := gb576) (o := .cells #[.slice A0_0 l0_0.length c0_0, .slice A0_1 l0_1.length c0_1] 48 (0, 0)) (zg_2 Za.out) hb); have n1_ := zm (below_step (zg_1 HB.out Zb.out) hb); clear Za; clear HB; have Za := n0_; have HB := n1_; clear n0_ n1_; (try clear hb); (try clear hb2); (try clear hk); (try clear hi)) | ((with_reducible refine gate_callee (f := 72) rfl ?_); refine goesL_ (some 13) rfl rfl Try.func72 (by kernel_rfl) rfl #[.int .i64 a1, .int .i64 0, .int .i64 3] rfl zq ?_; (with_reducible refine (spec_l01In.calls a1 0 3 true _ A6.out).mono ?_); rintro e w' ⟨rfl, ⟨nd, rfl⟩⟩; refine ⟨_, rfl, ?_⟩) | ((with_reducible refine gate_callee (f := 72) rfl ?_); refine goesL_ (some 17) rfl rfl Try.func72 (by kernel_rfl) rfl #[.int .i64 a2, .int .i64 0, .int .i64 63] rfl zq ?_; (with_reducible refine (spec_l01In.calls a2 0 63 true _ A8.out).mono ?_); rintro e w' ⟨rfl, ⟨nd, rfl⟩⟩; refine ⟨_, rfl, ?_⟩))
    go_ret
    exact ⟨by first | rfl | (simp [errW_none, errW_some] <;> rfl) | (simp [*, errW_none, errW_some] <;> rfl), zg_1 HB.out Zb.out⟩
   ·replace c9 := Bool.eq_false_iff.mpr c9
    subst c9
    have H1 : (some 14) = some r := by rw [if_neg (show ¬ (false = true) by decide)] at H; exact H
    clear H
    have H := H1
    clear H1
    obtain rfl := Option.some.inj H
    go_enter Try.func71, Try.ntmps71
    go_wp2_with (first | ((with_reducible refine gate_dst (N := 3) rfl ?_); refine box_event ?hg (N := 3) ?hd (cs := #[.slice A0_0 l0_0.length c0_0, .slice A0_1 l0_1.length c0_1]) (t := 48) ?hr ?_; (case hd => rfl); (case hg => rfl); (case hr => first | (go_simp; done) | (go_simp; rfl)); intro gb576 hg w13 hbox hb; have n0_ := zm (below_step (zg_0 HB.out) hb); have n1_ := zm (hbox); have n2_ := zm ((by rw [hg]; exact (below_size (zg_0 HB.out)) : w.heap.size ≤ gb576)); have n3_ := zm ((by rw [hg]; exact (below_size (zg_0 HB.out)) : w.heap.size ≤ gb576)); clear HB; have HB := n0_; have Za := n1_; have Zg := n2_; have Zb := n3_; clear n0_ n1_ n2_ n3_; clear hb hbox hg; have hcz14_0 : w13.cell? ⟨gb576, 0, none⟩ = some (.slice A0_0 l0_0.length c0_0) := (blk_cell Za.out 0).trans rfl; have hcz14_1 : w13.cell? ⟨gb576, 1, none⟩ = some (.slice A0_1 l0_1.length c0_1) := (blk_cell Za.out 1).trans rfl; have hfz14_0 := blk_frozen Za.out 0; have hfz14_1 := blk_frozen Za.out 1) | ((with_reducible refine gate_callee (f := 116) rfl ?_); refine goesL_ (some 9) rfl rfl Try.func116 (by kernel_rfl) rfl #[.agg #[.slice A0_0 l0_0.length c0_0, .slice A0_1 l0_1.length c0_1]] rfl zq ?_; (with_reducible refine (spec_DiskOK.calls k _ _ l0_0 _ _ l0_1 true _ ?side1 ?side2 ?side3 ?side4 A4.out).mono ?_); (case side1 => repeat (first | exact (Kd.C_below Zc.out HB.out) | (with_reducible refine Kd.C_alloc ?_ _) | (with_reducible refine Kd.C_drewN ?_ _) | (with_reducible refine Kd.C_drew ?_))); (case side2 => exact Zd.out); (case side3 => repeat (first | exact (Kd.C_below Ze.out HB.out) | (with_reducible refine Kd.C_alloc ?_ _) | (with_reducible refine Kd.C_drewN ?_ _) | (with_reducible refine Kd.C_drew ?_))); (case side4 => exact Zf.out); rintro e w15 ⟨rfl, hb⟩; refine ⟨_, rfl, ?_⟩; have n0_ := zm (blk_below (g := gb576) (o := .cells #[.slice A0_0 l0_0.length c0_0, .slice A0_1 l0_1.length c0_1] 48 (0, 0)) (zg_2 Za.out) hb); have n1_ := zm (below_step (zg_1 HB.out Zb.out) hb); clear Za; clear HB; have Za := n0_; have HB := n1_; clear n0_ n1_; (try clear hb); (try clear hb2); (try clear hk); (try clear hi)) | ((with_reducible refine gate_callee (f := 72) rfl ?_); refine goesL_ (some 13) rfl rfl Try.func72 (by kernel_rfl) rfl #[.int .i64 a1, .int .i64 0, .int .i64 3] rfl zq ?_; (with_reducible refine (spec_l01In.calls a1 0 3 true _ A6.out).mono ?_); rintro e w' ⟨rfl, ⟨nd, rfl⟩⟩; refine ⟨_, rfl, ?_⟩) | ((with_reducible refine gate_callee (f := 72) rfl ?_); refine goesL_ (some 17) rfl rfl Try.func72 (by kernel_rfl) rfl #[.int .i64 a2, .int .i64 0, .int .i64 63] rfl zq ?_; (with_reducible refine (spec_l01In.calls a2 0 63 false _ A8.out).mono ?_); rintro e w' ⟨rfl, ⟨nd, rfl⟩⟩; refine ⟨_, rfl, ?_⟩))
    go_ret
    exact ⟨by first | rfl | (simp [errW_none, errW_some] <;> rfl) | (simp [*, errW_none, errW_some] <;> rfl), zg_1 HB.out Zb.out⟩
  ·replace c7 := Bool.eq_false_iff.mpr c7
   subst c7
   have H1 : (some 4) = some r := by rw [if_neg (show ¬ (false = true) by decide)] at H; exact H
   clear H
   have H := H1
   clear H1
   obtain rfl := Option.some.inj H
   go_enter Try.func71, Try.ntmps71
   go_wp2_with (first | ((with_reducible refine gate_dst (N := 3) rfl ?_); refine box_event ?hg (N := 3) ?hd (cs := #[.slice A0_0 l0_0.length c0_0, .slice A0_1 l0_1.length c0_1]) (t := 48) ?hr ?_; (case hd => rfl); (case hg => rfl); (case hr => first | (go_simp; done) | (go_simp; rfl)); intro gb576 hg w16 hbox hb; have n0_ := zm (below_step (zg_0 HB.out) hb); have n1_ := zm (hbox); have n2_ := zm ((by rw [hg]; exact (below_size (zg_0 HB.out)) : w.heap.size ≤ gb576)); have n3_ := zm ((by rw [hg]; exact (below_size (zg_0 HB.out)) : w.heap.size ≤ gb576)); clear HB; have HB := n0_; have Za := n1_; have Zg := n2_; have Zb := n3_; clear n0_ n1_ n2_ n3_; clear hb hbox hg; have hcz17_0 : w16.cell? ⟨gb576, 0, none⟩ = some (.slice A0_0 l0_0.length c0_0) := (blk_cell Za.out 0).trans rfl; have hcz17_1 : w16.cell? ⟨gb576, 1, none⟩ = some (.slice A0_1 l0_1.length c0_1) := (blk_cell Za.out 1).trans rfl; have hfz17_0 := blk_frozen Za.out 0; have hfz17_1 := blk_frozen Za.out 1) | ((with_reducible refine gate_callee (f := 116) rfl ?_); refine goesL_ (some 9) rfl rfl Try.func116 (by kernel_rfl) rfl #[.agg #[.slice A0_0 l0_0.length c0_0, .slice A0_1 l0_1.length c0_1]] rfl zq ?_; (with_reducible refine (spec_DiskOK.calls k _ _ l0_0 _ _ l0_1 true _ ?side1 ?side2 ?side3 ?side4 A4.out).mono ?_); (case side1 => repeat (first | exact (Kd.C_below Zc.out HB.out) | (with_reducible refine Kd.C_alloc ?_ _) | (with_reducible refine Kd.C_drewN ?_ _) | (with_reducible refine Kd.C_drew ?_))); (case side2 => exact Zd.out); (case side3 => repeat (first | exact (Kd.C_below Ze.out HB.out) | (with_reducible refine Kd.C_alloc ?_ _) | (with_reducible refine Kd.C_drewN ?_ _) | (with_reducible refine Kd.C_drew ?_))); (case side4 => exact Zf.out); rintro e w18 ⟨rfl, hb⟩; refine ⟨_, rfl, ?_⟩; have n0_ := zm (blk_below (g := gb576) (o := .cells #[.slice A0_0 l0_0.length c0_0, .slice A0_1 l0_1.length c0_1] 48 (0, 0)) (zg_2 Za.out) hb); have n1_ := zm (below_step (zg_1 HB.out Zb.out) hb); clear Za; clear HB; have Za := n0_; have HB := n1_; clear n0_ n1_; (try clear hb); (try clear hb2); (try clear hk); (try clear hi)) | ((with_reducible refine gate_callee (f := 72) rfl ?_); refine goesL_ (some 13) rfl rfl Try.func72 (by kernel_rfl) rfl #[.int .i64 a1, .int .i64 0, .int .i64 3] rfl zq ?_; (with_reducible refine (spec_l01In.calls a1 0 3 false _ A6.out).mono ?_); rintro e w' ⟨rfl, ⟨nd, rfl⟩⟩; refine ⟨_, rfl, ?_⟩))
   go_ret
   exact ⟨by first | rfl | (simp [errW_none, errW_some] <;> rfl) | (simp [*, errW_none, errW_some] <;> rfl), zg_1 HB.out Zb.out⟩
 ·replace c5 := Bool.eq_false_iff.mpr c5
  subst c5
  have H1 : (some 1) = some r := by rw [if_neg (show ¬ (false = true) by decide)] at H; exact H
  clear H
  have H := H1
  clear H1
  obtain rfl := Option.some.inj H
  go_enter Try.func71, Try.ntmps71
  go_wp2_with (first | ((with_reducible refine gate_dst (N := 3) rfl ?_); refine box_event ?hg (N := 3) ?hd (cs := #[.slice A0_0 l0_0.length c0_0, .slice A0_1 l0_1.length c0_1]) (t := 48) ?hr ?_; (case hd => rfl); (case hg => rfl); (case hr => first | (go_simp; done) | (go_simp; rfl)); intro gb576 hg w19 hbox hb; have n0_ := zm (below_step (zg_0 HB.out) hb); have n1_ := zm (hbox); have n2_ := zm ((by rw [hg]; exact (below_size (zg_0 HB.out)) : w.heap.size ≤ gb576)); have n3_ := zm ((by rw [hg]; exact (below_size (zg_0 HB.out)) : w.heap.size ≤ gb576)); clear HB; have HB := n0_; have Za := n1_; have Zg := n2_; have Zb := n3_; clear n0_ n1_ n2_ n3_; clear hb hbox hg; have hcz20_0 : w19.cell? ⟨gb576, 0, none⟩ = some (.slice A0_0 l0_0.length c0_0) := (blk_cell Za.out 0).trans rfl; have hcz20_1 : w19.cell? ⟨gb576, 1, none⟩ = some (.slice A0_1 l0_1.length c0_1) := (blk_cell Za.out 1).trans rfl; have hfz20_0 := blk_frozen Za.out 0; have hfz20_1 := blk_frozen Za.out 1) | ((with_reducible refine gate_callee (f := 116) rfl ?_); refine goesL_ (some 9) rfl rfl Try.func116 (by kernel_rfl) rfl #[.agg #[.slice A0_0 l0_0.length c0_0, .slice A0_1 l0_1.length c0_1]] rfl zq ?_; (with_reducible refine (spec_DiskOK.calls k _ _ l0_0 _ _ l0_1 false _ ?side1 ?side2 ?side3 ?side4 A4.out).mono ?_); (case side1 => repeat (first | exact (Kd.C_below Zc.out HB.out) | (with_reducible refine Kd.C_alloc ?_ _) | (with_reducible refine Kd.C_drewN ?_ _) | (with_reducible refine Kd.C_drew ?_))); (case side2 => exact Zd.out); (case side3 => repeat (first | exact (Kd.C_below Ze.out HB.out) | (with_reducible refine Kd.C_alloc ?_ _) | (with_reducible refine Kd.C_drewN ?_ _) | (with_reducible refine Kd.C_drew ?_))); (case side4 => exact Zf.out); rintro e w21 ⟨rfl, hb⟩; refine ⟨_, rfl, ?_⟩; have n0_ := zm (blk_below (g := gb576) (o := .cells #[.slice A0_0 l0_0.length c0_0, .slice A0_1 l0_1.length c0_1] 48 (0, 0)) (zg_2 Za.out) hb); have n1_ := zm (below_step (zg_1 HB.out Zb.out) hb); clear Za; clear HB; have Za := n0_; have HB := n1_; clear n0_ n1_; (try clear hb); (try clear hb2); (try clear hk); (try clear hi)))
  go_ret
  exact ⟨by first | rfl | (simp [errW_none, errW_some] <;> rfl) | (simp [*, errW_none, errW_some] <;> rfl), zg_1 HB.out Zb.out⟩
/-! ### spec_LoseHost: function 26 -/
def spec_LoseHost.f (k : Nat) (l0_0 : List ByteArray) (l0_1 : List (S92)) (a1 : Int) (a2 : Int) : Option (List ByteArray × (List (S92)) × Int) := (spec_l01Ask.f k l0_0 l0_1 a1 0).bind fun t582 => (if t582 = 0 then ((spec_l01In.f a2 0 200).bind fun t583 => (if t583 = true then ((spec_l01Land.f k l0_0 l0_1 a1 a2 true).bind fun bt584 => (some (bt584.1, bt584.2, 0))) else (some (([] : List ByteArray), ([] : List (S92)), 4)))) else (some (([] : List ByteArray), ([] : List (S92)), t582)))
theorem spec_LoseHost.mono : ∀ a0 a1 a2 a3 k, LeO (spec_LoseHost.f k a0 a1 a2 a3) (spec_LoseHost.f (k + 1) a0 a1 a2 a3) := by
  intro a0 a1 a2 a3 k
  unfold spec_LoseHost.f
  repeat' first
      | (with_reducible exact spec_l01Ask.mono _ _ _ _ _)
      | (with_reducible exact spec_l01Land.mono _ _ _ _ _ _)
      | (with_reducible exact LeO.refl _)
      | (with_reducible exact LeO.none _)
      | (with_reducible refine LeO.ite ?_ ?_)
      | (with_reducible refine LeO.bind ?_ (fun _ => ?_))
      | exact spec_l01Ask.mono _ _ _ _ _
      | exact spec_l01Land.mono _ _ _ _ _ _
      | exact LeO.none _
      | refine LeO.ite ?_ ?_
      | refine LeO.bind ?_ (fun _ => ?_)
set_option maxHeartbeats 8000000 in
set_option maxRecDepth 100000 in
theorem spec_LoseHost.calls (k : Nat) (A0_0 : Option Addr) (c0_0 : Nat) (l0_0 : List ByteArray) (A0_1 : Option Addr) (c0_1 : Nat) (l0_1 : List (S92)) (a1 : Int) (a2 : Int) (r1 : List ByteArray) (r2 : List (S92)) (r3 : Int) (w : World) (hr0_0 : Kd.C Kd.string w A0_0 l0_0.length l0_0) (hc0_0 : l0_0.length ≤ c0_0) (hr0_1 : Kd.C k92 w A0_1 l0_1.length l0_1) (hc0_1 : l0_1.length ≤ c0_1) (h : spec_LoseHost.f k l0_0 l0_1 a1 a2 = some (r1, r2, r3)) :
    Calls Try.prog 26 #[.agg #[.slice A0_0 l0_0.length c0_0, .slice A0_1 l0_1.length c0_1], .int .i64 a1, .int .i64 a2] w fun e w' => ∃ v0_ v1_ : Value, e = .returned (.tuple #[.agg #[v0_, v1_], .int .i64 r3]) ∧ Kd.R Kd.string 9 w' w.heap.size (fun _ => True) v0_ r1 ∧ Kd.R k92 92 w' w.heap.size (fun _ => True) v1_ r2 ∧ Below w.heap.size w w' := by
 have hu48 := Try.underlying48
 have Zg := zm hr0_0
 have Zh := zm hc0_0
 clear hr0_0 hc0_0
 have Zi := zm hr0_1
 have Zj := zm hc0_1
 clear hr0_1 hc0_1
 have HB := zm (Below.refl w.heap.size w)
 have H : ((spec_l01Ask.f k l0_0 l0_1 a1 0).bind fun t582 => (if t582 = 0 then ((spec_l01In.f a2 0 200).bind fun t583 => (if t583 = true then ((spec_l01Land.f k l0_0 l0_1 a1 a2 true).bind fun bt584 => (some (bt584.1, bt584.2, 0))) else (some (([] : List ByteArray), ([] : List (S92)), 4)))) else (some (([] : List ByteArray), ([] : List (S92)), t582)))) = some (r1, r2, r3) := h
 clear h
 replace H := Option.bind_eq_some_iff.mp H
 obtain ⟨t582, A40, H⟩ := H
 replace H : (if t582 = 0 then ((spec_l01In.f a2 0 200).bind fun t583 => (if t583 = true then ((spec_l01Land.f k l0_0 l0_1 a1 a2 true).bind fun bt584 => (some (bt584.1, bt584.2, 0))) else (some (([] : List ByteArray), ([] : List (S92)), 4)))) else (some (([] : List ByteArray), ([] : List (S92)), t582))) = some (r1, r2, r3) := H
 have A4 := zm A40
 clear A40
 by_cases c5 : t582 = 0
 ·rw [if_pos c5] at H
  have c5b0 : (t582 == 0) = true := beq_iff_eq.mpr c5
  have c5b1 : (t582 != 0) = false := bne_eq_false_iff_eq.mpr c5
  clear c5
  replace H := Option.bind_eq_some_iff.mp H
  obtain ⟨t583, A60, H⟩ := H
  replace H : (if t583 = true then ((spec_l01Land.f k l0_0 l0_1 a1 a2 true).bind fun bt584 => (some (bt584.1, bt584.2, 0))) else (some (([] : List ByteArray), ([] : List (S92)), 4))) = some (r1, r2, r3) := H
  have A6 := zm A60
  clear A60
  by_cases c7 : t583 = true
  ·subst c7
   have H1 : ((spec_l01Land.f k l0_0 l0_1 a1 a2 true).bind fun bt584 => (some (bt584.1, bt584.2, 0))) = some (r1, r2, r3) := by rw [if_pos rfl] at H; exact H
   clear H
   have H := H1
   clear H1
   replace H := Option.bind_eq_some_iff.mp H
   obtain ⟨⟨t584, t587⟩, A80, H⟩ := H
   replace H : (some (t584, t587, 0)) = some (r1, r2, r3) := H
   have A8 := zm A80
   clear A80
   simp only [Option.some.injEq, Prod.mk.injEq] at H
   obtain ⟨rfl, rfl, rfl⟩ := H
   go_enter Try.func26, Try.ntmps26
   go_wp2_with (first | ((with_reducible refine gate_dst (N := 3) rfl ?_); refine box_event ?hg (N := 3) ?hd (cs := #[.slice A0_0 l0_0.length c0_0, .slice A0_1 l0_1.length c0_1]) (t := 48) ?hr ?_; (case hd => rfl); (case hg => rfl); (case hr => first | (go_simp; done) | (go_simp; rfl)); intro gb580 hg w9 hbox hb; have n0_ := zm (below_step (zg_0 HB.out) hb); have n1_ := zm (hbox); have n2_ := zm ((by rw [hg]; exact (below_size (zg_0 HB.out)) : w.heap.size ≤ gb580)); have n3_ := zm ((by rw [hg]; exact (below_size (zg_0 HB.out)) : w.heap.size ≤ gb580)); clear HB; have HB := n0_; have Za := n1_; have Zk := n2_; have Zc := n3_; clear n0_ n1_ n2_ n3_; clear hb hbox hg) | ((with_reducible refine gate_dst (N := 6) rfl ?_); refine box_event ?hg (N := 6) ?hd (cs := #[.slice none 0 0, .slice none 0 0]) (t := 48) ?hr ?_; (case hd => rfl); (case hg => rfl); (case hr => first | (go_simp; done) | (go_simp; rfl)); intro gb581 hg w10 hbox hb; have n0_ := zm (blk_below (g := gb580) (o := .cells #[.slice A0_0 l0_0.length c0_0, .slice A0_1 l0_1.length c0_1] 48 (0, 0)) (zg_2 Za.out) hb); have n1_ := zm (below_step (zg_1 HB.out Zc.out) hb); have n2_ := zm (hbox); have n3_ := zm ((by rw [hg]; exact (below_size (zg_1 HB.out Zc.out)) : w.heap.size ≤ gb581)); have n4_ := zm ((by rw [hg]; exact (below_size (zg_1 HB.out Zc.out)) : w.heap.size ≤ gb581)); have n5_ := zm ((by rw [hg]; exact Nat.ne_of_lt (blk_lt (g := gb580) (o := .cells #[.slice A0_0 l0_0.length c0_0, .slice A0_1 l0_1.length c0_1] 48 (0, 0)) (zg_2 Za.out)) : gb580 ≠ gb581)); have n6_ := zm ((by rw [hg]; exact Nat.ne_of_gt (blk_lt (g := gb580) (o := .cells #[.slice A0_0 l0_0.length c0_0, .slice A0_1 l0_1.length c0_1] 48 (0, 0)) (zg_2 Za.out)) : gb581 ≠ gb580)); clear Za; clear HB; have Za := n0_; have HB := n1_; have Zb := n2_; have Zl := n3_; have Zd := n4_; have Ze := n5_; have Zf := n6_; clear n0_ n1_ n2_ n3_ n4_ n5_ n6_; clear hb hbox hg; have hnb11 := Ze.out; have hnc11 := Zf.out; have hcz12_0 : w10.cell? ⟨gb580, 0, none⟩ = some (.slice A0_0 l0_0.length c0_0) := (blk_cell Za.out 0).trans rfl; have hcz12_1 : w10.cell? ⟨gb580, 1, none⟩ = some (.slice A0_1 l0_1.length c0_1) := (blk_cell Za.out 1).trans rfl; have hfz12_0 := blk_frozen Za.out 0; have hfz12_1 := blk_frozen Za.out 1) | ((with_reducible refine gate_callee (f := 71) rfl ?_); refine goesL_ (some 11) rfl rfl Try.func71 (by kernel_rfl) rfl #[.agg #[.slice A0_0 l0_0.length c0_0, .slice A0_1 l0_1.length c0_1], .int .i64 a1, .int .i64 0] rfl zq ?_; (with_reducible refine (spec_l01Ask.calls k _ _ l0_0 _ _ l0_1 a1 0 t582 _ ?side1 ?side2 ?side3 ?side4 A4.out).mono ?_); (case side1 => repeat (first | exact (Kd.C_below Zg.out HB.out) | (with_reducible refine Kd.C_alloc ?_ _) | (with_reducible refine Kd.C_drewN ?_ _) | (with_reducible refine Kd.C_drew ?_))); (case side2 => exact Zh.out); (case side3 => repeat (first | exact (Kd.C_below Zi.out HB.out) | (with_reducible refine Kd.C_alloc ?_ _) | (with_reducible refine Kd.C_drewN ?_ _) | (with_reducible refine Kd.C_drew ?_))); (case side4 => exact Zj.out); rintro e w13 ⟨rfl, hb⟩; refine ⟨_, rfl, ?_⟩; have n0_ := zm (blk_below (g := gb580) (o := .cells #[.slice A0_0 l0_0.length c0_0, .slice A0_1 l0_1.length c0_1] 48 (0, 0)) (zg_2 Za.out) hb); have n1_ := zm (blk_below (g := gb581) (o := .cells #[.slice none 0 0, .slice none 0 0] 48 (0, 0)) (zg_2 Zb.out) hb); have n2_ := zm (below_step (zg_3 HB.out Zc.out Zd.out) hb); clear Za; clear Zb; clear HB; have Za := n0_; have Zb := n1_; have HB := n2_; clear n0_ n1_ n2_; (try clear hb); (try clear hb2); (try clear hk); (try clear hi)) | ((with_reducible refine gate_callee (f := 72) rfl ?_); refine goesL_ (some 17) rfl rfl Try.func72 (by kernel_rfl) rfl #[.int .i64 a2, .int .i64 0, .int .i64 200] rfl zq ?_; (with_reducible refine (spec_l01In.calls a2 0 200 true _ A6.out).mono ?_); rintro e w' ⟨rfl, ⟨nd, rfl⟩⟩; refine ⟨_, rfl, ?_⟩; (try (rw [drewN_self w13]; generalize hq_ : World.drewN w13 _ = w13; have n0_ : Aside0 (w13.heap[gb580]? = some (.cells #[.slice A0_0 l0_0.length c0_0, .slice A0_1 l0_1.length c0_1] 48 (0, 0))) := ⟨by rw [← hq_]; exact (zg_2 Za.out)⟩; have n1_ : Aside0 (w13.heap[gb581]? = some (.cells #[.slice none 0 0, .slice none 0 0] 48 (0, 0))) := ⟨by rw [← hq_]; exact (zg_2 Zb.out)⟩; have n2_ : Aside0 (Below w.heap.size w w13) := ⟨by rw [← hq_]; exact (zg_3 HB.out Zc.out Zd.out)⟩; clear Za Zb HB hq_; have Za := n0_; have Zb := n1_; have HB := n2_; clear n0_ n1_ n2_)); have hcz14_0 : w13.cell? ⟨gb580, 0, none⟩ = some (.slice A0_0 l0_0.length c0_0) := (blk_cell Za.out 0).trans rfl; have hcz14_1 : w13.cell? ⟨gb580, 1, none⟩ = some (.slice A0_1 l0_1.length c0_1) := (blk_cell Za.out 1).trans rfl; have hfz14_0 := blk_frozen Za.out 0; have hfz14_1 := blk_frozen Za.out 1) | ((with_reducible refine gate_callee (f := 73) rfl ?_); refine goesL_ (some 23) rfl rfl Try.func73 (by kernel_rfl) rfl #[.agg #[.slice A0_0 l0_0.length c0_0, .slice A0_1 l0_1.length c0_1], .int .i64 a1, .int .i64 a2, .bool true] rfl zq ?_; (with_reducible refine (spec_l01Land.calls k _ _ l0_0 _ _ l0_1 a1 a2 true t584 t587 _ ?side1 ?side2 ?side3 ?side4 A8.out).mono ?_); (case side1 => repeat (first | exact (Kd.C_below Zg.out HB.out) | (with_reducible refine Kd.C_alloc ?_ _) | (with_reducible refine Kd.C_drewN ?_ _) | (with_reducible refine Kd.C_drew ?_))); (case side2 => exact Zh.out); (case side3 => repeat (first | exact (Kd.C_below Zi.out HB.out) | (with_reducible refine Kd.C_alloc ?_ _) | (with_reducible refine Kd.C_drewN ?_ _) | (with_reducible refine Kd.C_drew ?_))); (case side4 => exact Zj.out); rintro e w15 ⟨v585, v588, rfl, ho0, ho1, hb⟩; refine ⟨_, rfl, ?_⟩; have n0_ := zm (Kd.R_lower ho0 (below_size (zg_3 HB.out Zc.out Zd.out))); have n1_ := zm (Kd.R_lower ho1 (below_size (zg_3 HB.out Zc.out Zd.out))); have n2_ := zm (blk_below (g := gb580) (o := .cells #[.slice A0_0 l0_0.length c0_0, .slice A0_1 l0_1.length c0_1] 48 (0, 0)) (zg_2 Za.out) hb); have n3_ := zm (blk_below (g := gb581) (o := .cells #[.slice none 0 0, .slice none 0 0] 48 (0, 0)) (zg_2 Zb.out) hb); have n4_ := zm (below_step (zg_3 HB.out Zc.out Zd.out) hb); clear Za; clear Zb; clear HB; have Zm := n0_; have Zn := n1_; have Za := n2_; have Zb := n3_; have HB := n4_; clear n0_ n1_ n2_ n3_ n4_; (try clear hb); (try clear hb2); (try clear hk); (try clear hi); (try clear ho0); (try clear ho1); obtain ⟨Ao16, co16, eo16⟩ := Kd.R_slice Zm.out; subst eo16; have hcz17_0 : w15.cell? ⟨gb581, 0, none⟩ = some (.slice none 0 0) := (blk_cell Zb.out 0).trans rfl; have hcz17_1 : w15.cell? ⟨gb581, 1, none⟩ = some (.slice none 0 0) := (blk_cell Zb.out 1).trans rfl; have hfz17_0 := blk_frozen Zb.out 0; have hfz17_1 := blk_frozen Zb.out 1; obtain ⟨Ao18, co18, eo18⟩ := Kd.R_slice Zn.out; subst eo18))
   refine bodyPost_ret (results_ct rfl _ _ gb581 48 #[.slice Ao16 t584.length co16, .slice Ao18 t587.length co18] (0, 0) _ rfl (by (with_reducible repeat (first | refine blk_drewN ?_ _ | refine blk_drew ?_ | refine blk_alloc ?_ _)); refine blk_put (cs := #[.slice Ao16 t584.length co16, .slice none 0 0]) ?_ 1 _ rfl; (with_reducible repeat (first | refine blk_drewN ?_ _ | refine blk_drew ?_ | refine blk_alloc ?_ _)); refine blk_put (cs := #[.slice none 0 0, .slice none 0 0]) ?_ 0 _ rfl; (with_reducible repeat (first | refine blk_drewN ?_ _ | refine blk_drew ?_ | refine blk_alloc ?_ _)); exact Zb.out) Try.underlying48 rfl (by kernel_rfl)) rfl ?_
   exact ⟨_, _, by first | rfl | (simp [errW_none, errW_some] <;> rfl) | (simp [*, errW_none, errW_some] <;> rfl), by (with_reducible repeat (first | apply Kd.R_alloc | apply Kd.R_drewN | apply Kd.R_drew)); exact Kd.R_mono (Kd.R_far (p := ⟨gb581, 1, none⟩) (Kd.R_far (p := ⟨gb581, 0, none⟩) (Kd.R_types Zm.out Zb.out (by decide)) (fun _ hk => hk.2) (.slice Ao16 t584.length co16)) (fun _ hk => hk.2) (.slice Ao18 t587.length co18)) (fun _ hk => trivial), by (with_reducible repeat (first | apply Kd.R_alloc | apply Kd.R_drewN | apply Kd.R_drew)); exact Kd.R_mono (Kd.R_far (p := ⟨gb581, 1, none⟩) (Kd.R_far (p := ⟨gb581, 0, none⟩) (Kd.R_types Zn.out Zb.out (by decide)) (fun _ hk => hk.2) (.slice Ao16 t584.length co16)) (fun _ hk => hk.2) (.slice Ao18 t587.length co18)) (fun _ hk => trivial), zg_3 HB.out Zc.out Zd.out⟩
  ·replace c7 := Bool.eq_false_iff.mpr c7
   subst c7
   have H1 : (some (([] : List ByteArray), ([] : List (S92)), 4)) = some (r1, r2, r3) := by rw [if_neg (show ¬ (false = true) by decide)] at H; exact H
   clear H
   have H := H1
   clear H1
   simp only [Option.some.injEq, Prod.mk.injEq] at H
   obtain ⟨rfl, rfl, rfl⟩ := H
   go_enter Try.func26, Try.ntmps26
   go_wp2_with (first | ((with_reducible refine gate_dst (N := 3) rfl ?_); refine box_event ?hg (N := 3) ?hd (cs := #[.slice A0_0 l0_0.length c0_0, .slice A0_1 l0_1.length c0_1]) (t := 48) ?hr ?_; (case hd => rfl); (case hg => rfl); (case hr => first | (go_simp; done) | (go_simp; rfl)); intro gb580 hg w19 hbox hb; have n0_ := zm (below_step (zg_0 HB.out) hb); have n1_ := zm (hbox); have n2_ := zm ((by rw [hg]; exact (below_size (zg_0 HB.out)) : w.heap.size ≤ gb580)); have n3_ := zm ((by rw [hg]; exact (below_size (zg_0 HB.out)) : w.heap.size ≤ gb580)); clear HB; have HB := n0_; have Za := n1_; have Zk := n2_; have Zc := n3_; clear n0_ n1_ n2_ n3_; clear hb hbox hg) | ((with_reducible refine gate_dst (N := 6) rfl ?_); refine box_event ?hg (N := 6) ?hd (cs := #[.slice none 0 0, .slice none 0 0]) (t := 48) ?hr ?_; (case hd => rfl); (case hg => rfl); (case hr => first | (go_simp; done) | (go_simp; rfl)); intro gb581 hg w20 hbox hb; have n0_ := zm (blk_below (g := gb580) (o := .cells #[.slice A0_0 l0_0.length c0_0, .slice A0_1 l0_1.length c0_1] 48 (0, 0)) (zg_2 Za.out) hb); have n1_ := zm (below_step (zg_1 HB.out Zc.out) hb); have n2_ := zm (hbox); have n3_ := zm ((by rw [hg]; exact (below_size (zg_1 HB.out Zc.out)) : w.heap.size ≤ gb581)); have n4_ := zm ((by rw [hg]; exact (below_size (zg_1 HB.out Zc.out)) : w.heap.size ≤ gb581)); have n5_ := zm ((by rw [hg]; exact Nat.ne_of_lt (blk_lt (g := gb580) (o := .cells #[.slice A0_0 l0_0.length c0_0, .slice A0_1 l0_1.length c0_1] 48 (0, 0)) (zg_2 Za.out)) : gb580 ≠ gb581)); have n6_ := zm ((by rw [hg]; exact Nat.ne_of_gt (blk_lt (g := gb580) (o := .cells #[.slice A0_0 l0_0.length c0_0, .slice A0_1 l0_1.length c0_1] 48 (0, 0)) (zg_2 Za.out)) : gb581 ≠ gb580)); clear Za; clear HB; have Za := n0_; have HB := n1_; have Zb := n2_; have Zl := n3_; have Zd := n4_; have Ze := n5_; have Zf := n6_; clear n0_ n1_ n2_ n3_ n4_ n5_ n6_; clear hb hbox hg; have hnb21 := Ze.out; have hnc21 := Zf.out; have hcz22_0 : w20.cell? ⟨gb580, 0, none⟩ = some (.slice A0_0 l0_0.length c0_0) := (blk_cell Za.out 0).trans rfl; have hcz22_1 : w20.cell? ⟨gb580, 1, none⟩ = some (.slice A0_1 l0_1.length c0_1) := (blk_cell Za.out 1).trans rfl; have hfz22_0 := blk_frozen Za.out 0; have hfz22_1 := blk_frozen Za.out 1) | ((with_reducible refine gate_callee (f := 71) rfl ?_); refine goesL_ (some 11) rfl rfl Try.func71 (by kernel_rfl) rfl #[.agg #[.slice A0_0 l0_0.length c0_0, .slice A0_1 l0_1.length c0_1], .int .i64 a1, .int .i64 0] rfl zq ?_; (with_reducible refine (spec_l01Ask.calls k _ _ l0_0 _ _ l0_1 a1 0 t582 _ ?side1 ?side2 ?side3 ?side4 A4.out).mono ?_); (case side1 => repeat (first | exact (Kd.C_below Zg.out HB.out) | (with_reducible refine Kd.C_alloc ?_ _) | (with_reducible refine Kd.C_drewN ?_ _) | (with_reducible refine Kd.C_drew ?_))); (case side2 => exact Zh.out); (case side3 => repeat (first | exact (Kd.C_below Zi.out HB.out) | (with_reducible refine Kd.C_alloc ?_ _) | (with_reducible refine Kd.C_drewN ?_ _) | (with_reducible refine Kd.C_drew ?_))); (case side4 => exact Zj.out); rintro e w23 ⟨rfl, hb⟩; refine ⟨_, rfl, ?_⟩; have n0_ := zm (blk_below (g := gb580) (o := .cells #[.slice A0_0 l0_0.length c0_0, .slice A0_1 l0_1.length c0_1] 48 (0, 0)) (zg_2 Za.out) hb); have n1_ := zm (blk_below (g := gb581) (o := .cells #[.slice none 0 0, .slice none 0 0] 48 (0, 0)) (zg_2 Zb.out) hb); have n2_ := zm (below_step (zg_3 HB.out Zc.out Zd.out) hb); clear Za; clear Zb; clear HB; have Za := n0_; have Zb := n1_; have HB := n2_; clear n0_ n1_ n2_; (try clear hb); (try clear hb2); (try clear hk); (try clear hi)) | ((with_reducible refine gate_callee (f := 72) rfl ?_); refine goesL_ (some 17) rfl rfl Try.func72 (by kernel_rfl) rfl #[.int .i64 a2, .int .i64 0, .int .i64 200] rfl zq ?_; (with_reducible refine (spec_l01In.calls a2 0 200 false _ A6.out).mono ?_); rintro e w' ⟨rfl, ⟨nd, rfl⟩⟩; refine ⟨_, rfl, ?_⟩; (try (rw [drewN_self w23]; generalize hq_ : World.drewN w23 _ = w23; have n0_ : Aside0 (w23.heap[gb580]? = some (.cells #[.slice A0_0 l0_0.length c0_0, .slice A0_1 l0_1.length c0_1] 48 (0, 0))) := ⟨by rw [← hq_]; exact (zg_2 Za.out)⟩; have n1_ : Aside0 (w23.heap[gb581]? = some (.cells #[.slice none 0 0, .slice none 0 0] 48 (0, 0))) := ⟨by rw [← hq_]; exact (zg_2 Zb.out)⟩; have n2_ : Aside0 (Below w.heap.size w w23) := ⟨by rw [← hq_]; exact (zg_3 HB.out Zc.out Zd.out)⟩; clear Za Zb HB hq_; have Za := n0_; have Zb := n1_; have HB := n2_; clear n0_ n1_ n2_)); have hcz24_0 : w23.cell? ⟨gb581, 0, none⟩ = some (.slice none 0 0) := (blk_cell Zb.out 0).trans rfl; have hcz24_1 : w23.cell? ⟨gb581, 1, none⟩ = some (.slice none 0 0) := (blk_cell Zb.out 1).trans rfl; have hfz24_0 := blk_frozen Zb.out 0; have hfz24_1 := blk_frozen Zb.out 1))
   refine bodyPost_ret (results_ct rfl _ _ gb581 48 #[.slice none 0 0, .slice none 0 0] (0, 0) _ rfl (by (with_reducible repeat (first | refine blk_drewN ?_ _ | refine blk_drew ?_ | refine blk_alloc ?_ _)); refine blk_put (cs := #[.slice none 0 0, .slice none 0 0]) ?_ 1 _ rfl; (with_reducible repeat (first | refine blk_drewN ?_ _ | refine blk_drew ?_ | refine blk_alloc ?_ _)); refine blk_put (cs := #[.slice none 0 0, .slice none 0 0]) ?_ 0 _ rfl; (with_reducible repeat (first | refine blk_drewN ?_ _ | refine blk_drew ?_ | refine blk_alloc ?_ _)); exact Zb.out) Try.underlying48 rfl (by kernel_rfl)) rfl ?_
   exact ⟨_, _, by first | rfl | (simp [errW_none, errW_some] <;> rfl) | (simp [*, errW_none, errW_some] <;> rfl), by first | exact Kd.R_nil _ _ _ _ _ | exact Kd.N_nil _ _ _ _ _ | exact Kd.V_nil _ _ _ _ _ | exact Kd.Q_nil _ _ _ _ _ | exact Kd.S_nil _ _ _ _ _, by first | exact Kd.R_nil _ _ _ _ _ | exact Kd.N_nil _ _ _ _ _ | exact Kd.V_nil _ _ _ _ _ | exact Kd.Q_nil _ _ _ _ _ | exact Kd.S_nil _ _ _ _ _, zg_3 HB.out Zc.out Zd.out⟩
 ·rw [if_neg c5] at H
  have c5b0 : (t582 == 0) = false := beq_eq_false_iff_ne.mpr c5
  have c5b1 : (t582 != 0) = true := bne_iff_ne.mpr c5
  simp only [Option.some.injEq, Prod.mk.injEq] at H
  obtain ⟨rfl, rfl, rfl⟩ := H
  go_enter Try.func26, Try.ntmps26
  go_wp2_with (first | ((with_reducible refine gate_dst (N := 3) rfl ?_); refine box_event ?hg (N := 3) ?hd (cs := #[.slice A0_0 l0_0.length c0_0, .slice A0_1 l0_1.length c0_1]) (t := 48) ?hr ?_; (case hd => rfl); (case hg => rfl); (case hr => first | (go_simp; done) | (go_simp; rfl)); intro gb580 hg w25 hbox hb; have n0_ := zm (below_step (zg_0 HB.out) hb); have n1_ := zm (hbox); have n2_ := zm ((by rw [hg]; exact (below_size (zg_0 HB.out)) : w.heap.size ≤ gb580)); have n3_ := zm ((by rw [hg]; exact (below_size (zg_0 HB.out)) : w.heap.size ≤ gb580)); clear HB; have HB := n0_; have Za := n1_; have Zk := n2_; have Zc := n3_; clear n0_ n1_ n2_ n3_; clear hb hbox hg) | ((with_reducible refine gate_dst (N := 6) rfl ?_); refine box_event ?hg (N := 6) ?hd (cs := #[.slice none 0 0, .slice none 0 0]) (t := 48) ?hr ?_; (case hd => rfl); (case hg => rfl); (case hr => first | (go_simp; done) | (go_simp; rfl)); intro gb581 hg w26 hbox hb; have n0_ := zm (blk_below (g := gb580) (o := .cells #[.slice A0_0 l0_0.length c0_0, .slice A0_1 l0_1.length c0_1] 48 (0, 0)) (zg_2 Za.out) hb); have n1_ := zm (below_step (zg_1 HB.out Zc.out) hb); have n2_ := zm (hbox); have n3_ := zm ((by rw [hg]; exact (below_size (zg_1 HB.out Zc.out)) : w.heap.size ≤ gb581)); have n4_ := zm ((by rw [hg]; exact (below_size (zg_1 HB.out Zc.out)) : w.heap.size ≤ gb581)); have n5_ := zm ((by rw [hg]; exact Nat.ne_of_lt (blk_lt (g := gb580) (o := .cells #[.slice A0_0 l0_0.length c0_0, .slice A0_1 l0_1.length c0_1] 48 (0, 0)) (zg_2 Za.out)) : gb580 ≠ gb581)); have n6_ := zm ((by rw [hg]; exact Nat.ne_of_gt (blk_lt (g := gb580) (o := .cells #[.slice A0_0 l0_0.length c0_0, .slice A0_1 l0_1.length c0_1] 48 (0, 0)) (zg_2 Za.out)) : gb581 ≠ gb580)); clear Za; clear HB; have Za := n0_; have HB := n1_; have Zb := n2_; have Zl := n3_; have Zd := n4_; have Ze := n5_; have Zf := n6_; clear n0_ n1_ n2_ n3_ n4_ n5_ n6_; clear hb hbox hg; have hnb27 := Ze.out; have hnc27 := Zf.out; have hcz28_0 : w26.cell? ⟨gb580, 0, none⟩ = some (.slice A0_0 l0_0.length c0_0) := (blk_cell Za.out 0).trans rfl; have hcz28_1 : w26.cell? ⟨gb580, 1, none⟩ = some (.slice A0_1 l0_1.length c0_1) := (blk_cell Za.out 1).trans rfl; have hfz28_0 := blk_frozen Za.out 0; have hfz28_1 := blk_frozen Za.out 1) | ((with_reducible refine gate_callee (f := 71) rfl ?_); refine goesL_ (some 11) rfl rfl Try.func71 (by kernel_rfl) rfl #[.agg #[.slice A0_0 l0_0.length c0_0, .slice A0_1 l0_1.length c0_1], .int .i64 a1, .int .i64 0] rfl zq ?_; (with_reducible refine (spec_l01Ask.calls k _ _ l0_0 _ _ l0_1 a1 0 t582 _ ?side1 ?side2 ?side3 ?side4 A4.out).mono ?_); (case side1 => repeat (first | exact (Kd.C_below Zg.out HB.out) | (with_reducible refine Kd.C_alloc ?_ _) | (with_reducible refine Kd.C_drewN ?_ _) | (with_reducible refine Kd.C_drew ?_))); (case side2 => exact Zh.out); (case side3 => repeat (first | exact (Kd.C_below Zi.out HB.out) | (with_reducible refine Kd.C_alloc ?_ _) | (with_reducible refine Kd.C_drewN ?_ _) | (with_reducible refine Kd.C_drew ?_))); (case side4 => exact Zj.out); rintro e w29 ⟨rfl, hb⟩; refine ⟨_, rfl, ?_⟩; have n0_ := zm (blk_below (g := gb580) (o := .cells #[.slice A0_0 l0_0.length c0_0, .slice A0_1 l0_1.length c0_1] 48 (0, 0)) (zg_2 Za.out) hb); have n1_ := zm (blk_below (g := gb581) (o := .cells #[.slice none 0 0, .slice none 0 0] 48 (0, 0)) (zg_2 Zb.out) hb); have n2_ := zm (below_step (zg_3 HB.out Zc.out Zd.out) hb); clear Za; clear Zb; clear HB; have Za := n0_; have Zb := n1_; have HB := n2_; clear n0_ n1_ n2_; (try clear hb); (try clear hb2); (try clear hk); (try clear hi); have hcz30_0 : w29.cell? ⟨gb581, 0, none⟩ = some (.slice none 0 0) := (blk_cell Zb.out 0).trans rfl; have hcz30_1 : w29.cell? ⟨gb581, 1, none⟩ = some (.slice none 0 0) := (blk_cell Zb.out 1).trans rfl; have hfz30_0 := blk_frozen Zb.out 0; have hfz30_1 := blk_frozen Zb.out 1))
  refine bodyPost_ret (results_ct rfl _ _ gb581 48 #[.slice none 0 0, .slice none 0 0] (0, 0) _ rfl (by (with_reducible repeat (first | refine blk_drewN ?_ _ | refine blk_drew ?_ | refine blk_alloc ?_ _)); refine blk_put (cs := #[.slice none 0 0, .slice none 0 0]) ?_ 1 _ rfl; (with_reducible repeat (first | refine blk_drewN ?_ _ | refine blk_drew ?_ | refine blk_alloc ?_ _)); refine blk_put (cs := #[.slice none 0 0, .slice none 0 0]) ?_ 0 _ rfl; (with_reducible repeat (first | refine blk_drewN ?_ _ | refine blk_drew ?_ | refine blk_alloc ?_ _)); exact Zb.out) Try.underlying48 rfl (by kernel_rfl)) rfl ?_
  exact ⟨_, _, by first | rfl | (simp [errW_none, errW_some] <;> rfl) | (simp [*, errW_none, errW_some] <;> rfl), by first | exact Kd.R_nil _ _ _ _ _ | exact Kd.N_nil _ _ _ _ _ | exact Kd.V_nil _ _ _ _ _ | exact Kd.Q_nil _ _ _ _ _ | exact Kd.S_nil _ _ _ _ _, by first | exact Kd.R_nil _ _ _ _ _ | exact Kd.N_nil _ _ _ _ _ | exact Kd.V_nil _ _ _ _ _ | exact Kd.Q_nil _ _ _ _ _ | exact Kd.S_nil _ _ _ _ _, zg_3 HB.out Zc.out Zd.out⟩
end Go.Proofs.Ytajflpcihblkfaa.Q
