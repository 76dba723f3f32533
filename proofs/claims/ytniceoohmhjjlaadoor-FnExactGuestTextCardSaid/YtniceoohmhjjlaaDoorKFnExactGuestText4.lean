/- What laws.FnExactGuestText reaches, part 4: the functions as Lean functions, the proofs that the program's functions answer so, and plain laws about them. -/
import Derived.Test.YtniceoohmhjjlaaDoorKFnExactGuestText1
import Derived.Test.YtniceoohmhjjlaaDoorKFnExactGuestText2
import Derived.Test.YtniceoohmhjjlaaDoorKFnExactGuestText3
namespace Go.Proofs.YtniceoohmhjjlaaDoor.Q
open Go.RowKit Go.Proofs.YtniceoohmhjjlaaDoor.Ext Go.Proofs.YtniceoohmhjjlaaDoorW.PrintWords Go.Proofs.YtniceoohmhjjlaaDoorW.PrintLast Go.Proofs.YtniceoohmhjjlaaDoorW.PrintMore
attribute [local go_sem] max2_int min2_int max_two min_two max_three min_three max_four min_four   -- for this text's walks alone
set_option linter.unusedVariables false
set_option linter.unusedSimpArgs false

set_option linter.unusedVariables false
set_option linter.unusedSimpArgs false
/-! ### spec_l14Text: function 55 -/
def spec_l14Text.l0 : Nat → List ByteArray → Int → List Int → List (S102) → Option (List ByteArray)
  | 0, _, _, _, _ => none
  | k + 1, x3, x4, x246000, x246001 => if x4 < (x246001.length : Int) then (if 0 ≤ x4 then (if ((rd_T102 x246001 x4).f0).size + 1 ≤ 9223372036854775807 then ((spec_l14Line.f k (((rd_T102 x246001 x4).f0) ++ (⟨#[58]⟩ : ByteArray)) ((rd_T102 x246001 x4).f1)).bind fun t252 => (if x3.length < 8796093022208 then (spec_l14Text.l0 k (x3 ++ [t252]) (wrap64 (x4 + 1)) x246000 x246001) else (none))) else (none)) else (none)) else (some x3)
def spec_l14Text.f (k : Nat) (l0_0 : List Int) (l0_1 : List (S102)) : Option (List ByteArray) := (spec_l14Line.f k (⟨#[110, 111, 119, 58]⟩ : ByteArray) l0_0).bind fun t246 => (spec_l14Text.l0 k (([t246] : List ByteArray)) 0 l0_0 l0_1)
theorem spec_l14Text.mono_l : ∀ k, (∀ y0 y1 y2 y3, LeO (spec_l14Text.l0 k y0 y1 y2 y3) (spec_l14Text.l0 (k + 1) y0 y1 y2 y3))
  | 0 => fun _ _ _ _ r h => by simp [spec_l14Text.l0] at h
  | k + 1 => by
    have ih0 := spec_l14Text.mono_l k
    · intro y0 y1 y2 y3
      unfold spec_l14Text.l0
      repeat' first
      | (with_reducible exact ih0 _ _ _ _)
      | (with_reducible exact spec_l14Line.mono _ _ _)
      | (with_reducible exact LeO.refl _)
      | (with_reducible exact LeO.none _)
      | (with_reducible refine LeO.ite ?_ ?_)
      | (with_reducible refine LeO.bind ?_ (fun _ => ?_))
      | exact ih0 _ _ _ _
      | exact spec_l14Line.mono _ _ _
      | exact LeO.none _
      | refine LeO.ite ?_ ?_
      | refine LeO.bind ?_ (fun _ => ?_)
theorem spec_l14Text.mono : ∀ a0 a1 k, LeO (spec_l14Text.f k a0 a1) (spec_l14Text.f (k + 1) a0 a1) := by
  intro a0 a1 k
  have ih0 := spec_l14Text.mono_l k
  unfold spec_l14Text.f
  repeat' first
      | (with_reducible exact ih0 _ _ _ _)
      | (with_reducible exact spec_l14Line.mono _ _ _)
      | (with_reducible exact LeO.refl _)
      | (with_reducible exact LeO.none _)
      | (with_reducible refine LeO.ite ?_ ?_)
      | (with_reducible refine LeO.bind ?_ (fun _ => ?_))
      | exact ih0 _ _ _ _
      | exact spec_l14Line.mono _ _ _
      | exact LeO.none _
      | refine LeO.ite ?_ ?_
      | refine LeO.bind ?_ (fun _ => ?_)
def spec_l14Text.T5 : Bool × List (List Nat × List Nat) := (true, [([], []), ([], []), ([1], [1]), ([], []), ([2, 3], [2, 3]), ([4], [4]), ([5], [5]), ([6], [6]), ([], []), ([8], [8]), ([], []), ([9, 10], [9, 10]), ([11], [11]), ([12], [12]), ([7, 13], [7, 13]), ([14], [14]), ([0, 15, 14], [0, 15]), ([16, 16, 0, 1, 2, 3, 4, 5, 6, 7, 8, 9, 10, 11, 12, 13, 14, 15, 16], [0, 16])])
def spec_l14Text.B5 : List Nat := [0, 0, 2, 0, 14, 30, 62, 126, 0, 256, 0, 1792, 3840, 7936, 16382, 32766, 65535, 131071]
theorem spec_l14Text.tab5 : rtab .any (opsOf Tryd.f55 5) = spec_l14Text.T5 := by kernel_rfl
theorem spec_l14Text.bits5 : waitsOk spec_l14Text.T5.2 spec_l14Text.B5 = true := by kernel_rfl
set_option maxHeartbeats 8000000 in
set_option maxRecDepth 100000 in
theorem spec_l14Text.calls (k : Nat) (A0_0 : Option Addr) (c0_0 : Nat) (l0_0 : List Int) (A0_1 : Option Addr) (c0_1 : Nat) (l0_1 : List (S102)) (r : List ByteArray) (w : World) (hr0_0 : Kd.C (Kd.int .i64) w A0_0 l0_0.length l0_0) (hc0_0 : l0_0.length ≤ c0_0) (hr0_1 : Kd.C k102 w A0_1 l0_1.length l0_1) (hc0_1 : l0_1.length ≤ c0_1) (h : spec_l14Text.f k l0_0 l0_1 = some r) :
    Calls Tryd.prog 55 #[.agg #[.slice A0_0 l0_0.length c0_0, .slice A0_1 l0_1.length c0_1]] w fun e w' => ∃ v0_ : Value, e = .returned (v0_) ∧ Kd.R Kd.string 9 w' w.heap.size (fun _ => True) v0_ r ∧ Below w.heap.size w w' := by
 have hu55 := Tryd.underlying55
 have Zh := zm hr0_0
 have Zi := zm hc0_0
 clear hr0_0 hc0_0
 have Zg := zm hr0_1
 have Zm := zm hc0_1
 clear hr0_1 hc0_1
 have HB := zm (Below.refl w.heap.size w)
 have H : ((spec_l14Line.f k (⟨#[110, 111, 119, 58]⟩ : ByteArray) l0_0).bind fun t246 => (spec_l14Text.l0 k (([t246] : List ByteArray)) 0 l0_0 l0_1)) = some r := h
 clear h
 replace H := Option.bind_eq_some_iff.mp H
 obtain ⟨t246, A20, H⟩ := H
 replace H : (spec_l14Text.l0 k (([t246] : List ByteArray)) 0 l0_0 l0_1) = some r := H
 have A2 := zm A20
 clear A20
 obtain ⟨y247, hy247⟩ : ∃ y_ : List ByteArray, y_ = (([t246] : List ByteArray)) := ⟨_, rfl⟩
 replace H : (spec_l14Text.l0 k y247 0 l0_0 l0_1) = some r := by first | (rw [hy247]; with_reducible exact H) | (have H2_ := (Option.bind_some _ _).symm.trans H; rw [hy247]; with_reducible exact H2_) | (have H2_ := (Option.bind_some _ _).symm.trans H; with_reducible exact H2_) | with_reducible exact H | (rw [hy247]; exact H) | exact H
 have Ny247 := zm hy247
 clear hy247
 have H' := zm H
 clear H
 go_enter Tryd.func55, Tryd.ntmps55
 go_wp2_with (first | ((with_reducible refine gate_dst (N := 1) rfl ?_); refine box_event ?hg (N := 1) ?hd (cs := #[.slice A0_0 l0_0.length c0_0, .slice A0_1 l0_1.length c0_1]) (t := 55) ?hr ?_; (case hd => rfl); (case hg => rfl); (case hr => first | (go_simp; done) | (go_simp; rfl)); intro gb245 hg w3 hbox hb; have n0_ := zm (below_step (zg_0 HB.out) hb); have n1_ := zm (hbox); have n2_ := zm ((by rw [hg]; exact (below_size (zg_0 HB.out)) : w.heap.size ≤ gb245)); have n3_ := zm ((by rw [hg]; exact (below_size (zg_0 HB.out)) : w.heap.size ≤ gb245)); clear HB; have HB := n0_; have Za := n1_; have Zn := n2_; have Zb := n3_; clear n0_ n1_ n2_ n3_; clear hb hbox hg; have hcz4_0 : w3.cell? ⟨gb245, 0, none⟩ = some (.slice A0_0 l0_0.length c0_0) := (blk_cell Za.out 0).trans rfl; have hcz4_1 : w3.cell? ⟨gb245, 1, none⟩ = some (.slice A0_1 l0_1.length c0_1) := (blk_cell Za.out 1).trans rfl; have hfz4_0 := blk_frozen Za.out 0; have hfz4_1 := blk_frozen Za.out 1) | ((with_reducible refine gate_callee (f := 86) rfl ?_); refine goesL_ (some 7) rfl rfl Tryd.func86 (by kernel_rfl) rfl #[.string (⟨#[110, 111, 119, 58]⟩ : ByteArray), .slice A0_0 l0_0.length c0_0] rfl zq ?_; (with_reducible refine (spec_l14Line.calls k (⟨#[110, 111, 119, 58]⟩ : ByteArray) _ _ l0_0 t246 _ ?side1 ?side2 A2.out).mono ?_); (case side1 => exact zC (Kd.C_below Zh.out HB.out)); (case side2 => exact Zi.out); rintro e w5 ⟨rfl, hb⟩; refine ⟨_, rfl, ?_⟩; have n0_ := zm (blk_below (g := gb245) (o := .cells #[.slice A0_0 l0_0.length c0_0, .slice A0_1 l0_1.length c0_1] 55 (0, 0)) (zg_1 Za.out) hb); have n1_ := zm (below_step (zg_2 HB.out Zb.out) hb); clear Za; clear HB; have Za := n0_; have HB := n1_; clear n0_ n1_; (try clear hb); (try clear hb2); (try clear hk); (try clear hi)) | ((with_reducible refine gate_dst (N := 8) rfl ?_); refine Kd.R_lit Kd.string _ 9 ?hg (N := 8) ?hd (xs := ([t246] : List ByteArray)) (inner := [.string t246]) (ok := fun _ => True) (okp := fun _ => True) ?hr ?hp (fun _ hk => hk) trivial (Below.refl _ _) (Nat.le_refl _) (by simp) ?_; (case hd => rfl); (case hg => rfl); (case hr => first | (go_simp; done) | (go_simp; rfl)); (case hp => exact (Reps.one (show Kd.M Kd.string _ _ _ t246 [.string t246] from rfl) (Reps.none _ _))); intro v248 w6 ho7 hb hg_ hnew_; clear hg_ hnew_; (first | rw [← Ny247.out] at ho7 | (simp only [Int.reduceToNat] at ho7; rw [← Ny247.out] at ho7)); have n0_ := zm (Kd.R_lower ho7 (below_size (zg_2 HB.out Zb.out))); have n1_ := zm (blk_below (g := gb245) (o := .cells #[.slice A0_0 l0_0.length c0_0, .slice A0_1 l0_1.length c0_1] 55 (0, 0)) (zg_1 Za.out) hb); have n2_ := zm (below_step (zg_2 HB.out Zb.out) hb); clear Za; clear HB; have Zj := n0_; have Za := n1_; have HB := n2_; clear n0_ n1_ n2_; clear hb ho7))
 go_loopg [3, 4] k (fun kq v3 v4 w' => ∃ (x3_1 : List ByteArray) (x4_1 : Int), v4 = .int .i64 x4_1 ∧ Aside0 (spec_l14Text.l0 kq x3_1 x4_1 l0_0 l0_1 = some r) ∧ Aside0 (kq ≤ k) ∧ Aside0 (Kd.R Kd.string 9 w' w.heap.size (fun _ => True) v3 x3_1) ∧ Aside0 (w'.heap[gb245]? = some (.cells #[(.slice A0_0 l0_0.length c0_0), (.slice A0_1 l0_1.length c0_1)] 55 (0, 0))) ∧ Aside0 (Below w.heap.size w w'))
 case atStart => exact ⟨(y247), (0), zr, H', ⟨Nat.le_refl _⟩, ⟨by (with_reducible repeat (first | apply Kd.R_alloc | apply Kd.R_drewN | apply Kd.R_drew)); exact Zj.out⟩, ⟨by (with_reducible repeat (first | refine blk_drewN ?_ _ | refine blk_drew ?_ | refine blk_alloc ?_ _)); exact Za.out⟩, ⟨zg_2 HB.out Zb.out⟩⟩
 case round =>
  clear H'
  try clear p2
  try clear c5
  try clear hcz4_0
  try clear hcz4_1
  try clear hfz4_0
  try clear hfz4_1
  obtain ⟨x3_1, x4_1, rfl, HA, HK1, Zc, Za, HB⟩ := hrel
  cases gk with
  | zero => exact absurd HA.out (by simp [spec_l14Text.l0])
  | succ k1 =>
   have H := HA.out
   clear HA
   simp only [spec_l14Text.l0] at H
   by_cases c8 : x4_1 < (l0_1.length : Int)
   ·rw [if_pos c8] at H
    have c8b0 : decide (x4_1 < (l0_1.length : Int)) = true := decide_eq_true c8
    clear c8
    by_cases c9 : 0 ≤ x4_1
    ·rw [if_pos c9] at H
     have c9b0 : decide (0 ≤ x4_1) = true := decide_eq_true c9
     clear c9
     by_cases c10 : ((rd_T102 l0_1 x4_1).f0).size + 1 ≤ 9223372036854775807
     ·rw [if_pos c10] at H
      have c10b0 := eq_true c10
      have c10b1 : decide (((rd_T102 l0_1 x4_1).f0).size + 1 ≤ 9223372036854775807) = true := decide_eq_true c10
      try have c10b2 : (9223372036854775807 < ((rd_T102 l0_1 x4_1).f0).size + 1) = False := eq_false (Nat.not_lt.2 c10)
      replace H := Option.bind_eq_some_iff.mp H
      obtain ⟨t252, A110, H⟩ := H
      replace H : (if x3_1.length < 8796093022208 then (spec_l14Text.l0 k1 (x3_1 ++ [t252]) (wrap64 (x4_1 + 1)) l0_0 l0_1) else (none)) = some r := H
      have A11 := zm A110
      clear A110
      by_cases c12 : x3_1.length < 8796093022208
      ·rw [if_pos c12] at H
       have LMc12 := zm c12
       clear c12
       obtain ⟨y253, hy253⟩ : ∃ y_ : List ByteArray, y_ = (x3_1 ++ [t252]) := ⟨_, rfl⟩
       replace H : (spec_l14Text.l0 k1 y253 (wrap64 (x4_1 + 1)) l0_0 l0_1) = some r := by first | (rw [hy253]; with_reducible exact H) | (have H2_ := (Option.bind_some _ _).symm.trans H; rw [hy253]; with_reducible exact H2_) | (have H2_ := (Option.bind_some _ _).symm.trans H; with_reducible exact H2_) | with_reducible exact H | (rw [hy253]; exact H) | exact H
       have Ny253 := zm hy253
       clear hy253
       have H' := zm H
       clear H
       have hcz13_0 : wr.cell? ⟨gb245, 0, none⟩ = some (.slice A0_0 l0_0.length c0_0) := (blk_cell Za.out 0).trans rfl
       have hcz13_1 : wr.cell? ⟨gb245, 1, none⟩ = some (.slice A0_1 l0_1.length c0_1) := (blk_cell Za.out 1).trans rfl
       have hfz13_0 := blk_frozen Za.out 0
       have hfz13_1 := blk_frozen Za.out 1
       try go_wp2
       have n0_ := zm (Kd.R_drew Zc.out)
       have n1_ := zm (blk_drew Za.out)
       have n2_ := zm (below_drew1 HB.out)
       clear Zc
       clear Za
       clear HB
       have Zc := n0_
       have Za := n1_
       have HB := n2_
       clear n0_ n1_ n2_
       have p250 : 0 ≤ (x4_1 : Int) := zd
       have q250 : x4_1 < (l0_1.length : Int) := zd
       obtain ⟨ad250, A250_1, c250_1, e250, hx250_0, hx250_1, hl250_1, hi250_1⟩ := at_T102 Zg.out x4_1 p250 q250
       have hw250_1 := hx250_1
       have hw250_0 := hx250_0
       cases e250
       replace hx250_0 := (HB.out.cell (World.block_lt_of_cell? w _ hx250_0)).trans hx250_0
       replace hx250_1 := (HB.out.cell (World.block_lt_of_cell? w _ hx250_1)).trans hx250_1
       have Ze := zm hi250_1
       have Zl := zm hl250_1
       clear hi250_1 hl250_1
       replace p250 := eq_true p250
       replace q250 := eq_true q250
       have p251 : 0 ≤ (x4_1 : Int) := zd
       have q251 : x4_1 < (l0_1.length : Int) := zd
       obtain ⟨ad251, A251_1, c251_1, e251, hx251_0, hx251_1, hl251_1, hi251_1⟩ := at_T102 Zg.out x4_1 p251 q251
       have hw251_1 := hx251_1
       have hw251_0 := hx251_0
       obtain rfl : ad250 = ad251 := (by injection e251)
       replace hx251_0 := (HB.out.cell (World.block_lt_of_cell? w _ hx251_0)).trans hx251_0
       replace hx251_1 := (HB.out.cell (World.block_lt_of_cell? w _ hx251_1)).trans hx251_1
       have Zd := zm hi251_1
       have Zf := zm hl251_1
       clear hi251_1 hl251_1
       replace p251 := eq_true p251
       replace q251 := eq_true q251
       have ea_ := Option.some.inj (hx250_1.symm.trans hx251_1)
       injection ea_ with ea_ en_ ec_
       subst ea_
       subst ec_
       clear en_
       refine start_ (n := 18) (S := fun w' => w'.cell? ⟨gb245, 0, none⟩ = some (.slice A0_0 l0_0.length c0_0) ∧ w'.cell? ⟨gb245, 1, none⟩ = some (.slice (some ad250) l0_1.length c0_1) ∧ w'.cell? (ad250.add ((x4_1).toNat * 2)) = some (.string ((rd_T102 l0_1 x4_1).f0)) ∧ w'.cell? ⟨(ad250.add ((x4_1).toNat * 2)).block, (ad250.add ((x4_1).toNat * 2)).off + 1, none⟩ = some (.slice A250_1 ((rd_T102 l0_1 x4_1).f1).length c250_1) ∧ w'.cell? (ad250.add ((x4_1).toNat * 2)) = some (.string ((rd_T102 l0_1 x4_1).f0)) ∧ w'.cell? ⟨(ad250.add ((x4_1).toNat * 2)).block, (ad250.add ((x4_1).toNat * 2)).off + 1, none⟩ = some (.slice A250_1 ((rd_T102 l0_1 x4_1).f1).length c250_1)) (ds := []) #[false, false, false, false, false, false, false, false, false, false, false, false, false, false, false, false, false, false] (by kernel_rfl) rfl rfl ⟨(blk_cell Za.out 0).trans rfl, (blk_cell Za.out 1).trans rfl, ((HB.out.cell (World.block_lt_of_cell? w _ hw250_0)).trans hw250_0), ((HB.out.cell (World.block_lt_of_cell? w _ hw250_1)).trans hw250_1), ((HB.out.cell (World.block_lt_of_cell? w _ hw251_0)).trans hw251_0), ((HB.out.cell (World.block_lt_of_cell? w _ hw251_1)).trans hw251_1)⟩ (fun hHeld => ?_); refine with_tabW spec_l14Text.tab5 spec_l14Text.bits5 (fun HT_ HW_ => ?_)
       generalize wr.drew = w14 at Zc Za HB Ze Zd hx250_0 hx250_1 hx251_0 hx251_1 hHeld ⊢
       refine pure_ (i := 0) (N := some 16) (v := ?_) (a' := ?_) #[true, false, false, false, false, false, false, false, false, false, false, false, false, false, false, false, false, false] rfl rfl (any_of HT_.out (by kernel_rfl)) (fun _ _ _ h => h) (Or.inl ⟨by rfl, ?_⟩) ?_ ?_
       rotate_left
       ·intro w'
        go_simp
        with_reducible rfl
       rotate_left
       ·simp only [Act.put, zs, zz, zt, i64_w, i32_w]
        rfl
       refine pure_ (i := 1) (N := some 17) (v := ?_) (a' := ?_) #[true, true, false, false, false, false, false, false, false, false, false, false, false, false, false, false, false, false] rfl rfl (any_of HT_.out (by kernel_rfl)) (fun _ _ _ h => h) (Or.inl ⟨by rfl, ?_⟩) ?_ ?_
       rotate_left
       ·intro w'
        go_simp
        with_reducible rfl
       rotate_left
       ·simp only [Act.put, zs, zz, zt, i64_w, i32_w]
        rfl
       refine pure_ (i := 3) (N := some 19) (v := ?_) (a' := ?_) #[true, true, false, true, false, false, false, false, false, false, false, false, false, false, false, false, false, false] rfl rfl (any_of HT_.out (by kernel_rfl)) (fun _ _ _ h => h) (Or.inl ⟨by rfl, ?_⟩) ?_ ?_
       rotate_left
       ·intro w'
        go_simp
        with_reducible rfl
       rotate_left
       ·simp only [Act.put, zs, zz, zt, i64_w, i32_w]
        rfl
       refine pure_ (i := 8) (N := some 24) (v := ?_) (a' := ?_) #[true, true, false, true, false, false, false, false, true, false, false, false, false, false, false, false, false, false] rfl rfl (any_of HT_.out (by kernel_rfl)) (fun _ _ _ h => h) (Or.inl ⟨by rfl, ?_⟩) ?_ ?_
       rotate_left
       ·intro w'
        go_simp
        with_reducible rfl
       rotate_left
       ·simp only [Act.put, zs, zz, zt, i64_w, i32_w]
        rfl
       refine pure_ (i := 10) (N := some 26) (v := ?_) (a' := ?_) #[true, true, false, true, false, false, false, false, true, false, true, false, false, false, false, false, false, false] rfl rfl (any_of HT_.out (by kernel_rfl)) (fun _ _ _ h => h) (Or.inl ⟨by rfl, ?_⟩) ?_ ?_
       rotate_left
       ·intro w'
        go_simp
        with_reducible rfl
       rotate_left
       ·simp only [Act.put, zs, zz, zt, i64_w, i32_w]
        rfl
       refine take_ (i := 2) (N := some 18) (v := ?_) (a' := ?_) #[true, true, true, true, false, false, false, false, true, false, true, false, false, false, false, false, false, false] rfl rfl (take_ofW HT_.out HW_.out (by kernel_rfl)) (fun _ _ _ h => h) (Or.inl ⟨by rfl, ?_⟩) hHeld ?_ ?_
       rotate_left
       ·rintro w' ⟨s0, s1, s2, s3, s4, s5⟩
        go_simp
        with_reducible rfl
       rotate_left
       ·simp only [Act.put, zs, zz, zt, i64_w, i32_w]
        rfl
       refine pure_ (i := 4) (N := some 20) (v := ?_) (a' := ?_) #[true, true, true, true, true, false, false, false, true, false, true, false, false, false, false, false, false, false] rfl rfl (any_of HT_.out (by kernel_rfl)) (fun _ _ _ h => h) (Or.inl ⟨by rfl, ?_⟩) ?_ ?_
       rotate_left
       ·intro w'
        go_simp
        with_reducible rfl
       rotate_left
       ·simp only [Act.put, zs, zz, zt, i64_w, i32_w]
        rfl
       refine pure_ (i := 5) (N := some 21) (v := ?_) (a' := ?_) #[true, true, true, true, true, true, false, false, true, false, true, false, false, false, false, false, false, false] rfl rfl (any_of HT_.out (by kernel_rfl)) (fun _ _ _ h => h) (Or.inl ⟨by rfl, ?_⟩) ?_ ?_
       rotate_left
       ·intro w'
        go_simp
        with_reducible rfl
       rotate_left
       ·simp only [Act.put, zs, zz, zt, i64_w, i32_w]
        rfl
       refine take_ (i := 6) (N := some 22) (v := ?_) (a' := ?_) #[true, true, true, true, true, true, true, false, true, false, true, false, false, false, false, false, false, false] rfl rfl (take_ofW HT_.out HW_.out (by kernel_rfl)) (fun _ _ _ h => h) (Or.inl ⟨by rfl, ?_⟩) hHeld ?_ ?_
       rotate_left
       ·rintro w' ⟨s0, s1, s2, s3, s4, s5⟩
        go_simp
        with_reducible rfl
       rotate_left
       ·simp only [Act.put, zs, zz, zt, i64_w, i32_w]
        rfl
       refine pure_ (i := 7) (N := some 23) (v := ?_) (a' := ?_) #[true, true, true, true, true, true, true, true, true, false, true, false, false, false, false, false, false, false] rfl rfl (any_of HT_.out (by kernel_rfl)) (fun _ _ _ h => h) (Or.inl ⟨by rfl, ?_⟩) ?_ ?_
       rotate_left
       ·intro w'
        go_simp
        with_reducible rfl
       rotate_left
       ·simp only [Act.put, zs, zz, zt, i64_w, i32_w]
        rfl
       refine take_ (i := 9) (N := some 25) (v := ?_) (a' := ?_) #[true, true, true, true, true, true, true, true, true, true, true, false, false, false, false, false, false, false] rfl rfl (take_ofW HT_.out HW_.out (by kernel_rfl)) (fun _ _ _ h => h) (Or.inl ⟨by rfl, ?_⟩) hHeld ?_ ?_
       rotate_left
       ·rintro w' ⟨s0, s1, s2, s3, s4, s5⟩
        go_simp
        with_reducible rfl
       rotate_left
       ·simp only [Act.put, zs, zz, zt, i64_w, i32_w]
        rfl
       refine pure_ (i := 11) (N := some 27) (v := ?_) (a' := ?_) #[true, true, true, true, true, true, true, true, true, true, true, true, false, false, false, false, false, false] rfl rfl (any_of HT_.out (by kernel_rfl)) (fun _ _ _ h => h) (Or.inl ⟨by rfl, ?_⟩) ?_ ?_
       rotate_left
       ·intro w'
        go_simp
        with_reducible rfl
       rotate_left
       ·simp only [Act.put, zs, zz, zt, i64_w, i32_w]
        rfl
       refine pure_ (i := 12) (N := some 28) (v := ?_) (a' := ?_) #[true, true, true, true, true, true, true, true, true, true, true, true, true, false, false, false, false, false] rfl rfl (any_of HT_.out (by kernel_rfl)) (fun _ _ _ h => h) (Or.inl ⟨by rfl, ?_⟩) ?_ ?_
       rotate_left
       ·intro w'
        go_simp
        with_reducible rfl
       rotate_left
       ·simp only [Act.put, zs, zz, zt, i64_w, i32_w]
        rfl
       refine take_ (i := 13) (N := some 29) (v := ?_) (a' := ?_) #[true, true, true, true, true, true, true, true, true, true, true, true, true, true, false, false, false, false] rfl rfl (take_ofW HT_.out HW_.out (by kernel_rfl)) (fun _ _ _ h => h) (Or.inl ⟨by rfl, ?_⟩) hHeld ?_ ?_
       rotate_left
       ·rintro w' ⟨s0, s1, s2, s3, s4, s5⟩
        go_simp
        with_reducible rfl
       rotate_left
       ·simp only [Act.put, zs, zz, zt, i64_w, i32_w]
        rfl
       refine one_ (i := 14) (N := some 30) #[true, true, true, true, true, true, true, true, true, true, true, true, true, true, true, false, false, false] rfl rfl (one_of HT_.out (by kernel_rfl)) (by decide) (fun K hK => ?_)
       refine goes_ Tryd.func86 (by kernel_rfl) rfl #[.string (((rd_T102 l0_1 x4_1).f0) ++ (⟨#[58]⟩ : ByteArray)), .slice A250_1 ((rd_T102 l0_1 x4_1).f1).length c250_1] (by rfl) rfl rfl zq ?_
       with_reducible refine (spec_l14Line.calls k1 (((rd_T102 l0_1 x4_1).f0) ++ (⟨#[58]⟩ : ByteArray)) _ _ ((rd_T102 l0_1 x4_1).f1) t252 _ ?side1 ?side2 A11.out).mono ?_
       (case side1 => exact zC (Kd.C_below Zd.out HB.out))
       (case side2 => exact Zf.out)
       rintro e w15 ⟨rfl, hb⟩
       refine ⟨_, rfl, ?_⟩
       have n0_ := zm (Kd.R_below (zg_3 Zc.out) hb)
       have n1_ := zm (blk_below (g := gb245) (o := .cells #[.slice A0_0 l0_0.length c0_0, .slice (some ad250) l0_1.length c0_1] 55 (0, 0)) (zg_1 Za.out) hb)
       have n2_ := zm (below_step (zg_2 HB.out Zb.out) hb)
       clear Zc
       clear Za
       clear HB
       have Zc := n0_
       have Za := n1_
       have HB := n2_
       clear n0_ n1_ n2_
       (try clear hb)
       (try clear hb2)
       (try clear hk)
       (try clear hi)
       refine hK.out _ _ ⟨(blk_cell Za.out 0).trans rfl, (blk_cell Za.out 1).trans rfl, ((HB.out.cell (World.block_lt_of_cell? w _ hw250_0)).trans hw250_0), ((HB.out.cell (World.block_lt_of_cell? w _ hw250_1)).trans hw250_1), ((HB.out.cell (World.block_lt_of_cell? w _ hw251_0)).trans hw251_0), ((HB.out.cell (World.block_lt_of_cell? w _ hw251_1)).trans hw251_1)⟩ (fun hHeld => ?_)
       clear hK K
       refine norm_ (a' := ?_) ?_ ?_
       rotate_left
       ·show Act.put _ (some 30) _ = _
        simp only [Act.put, zs, zz, zt, i64_w, i32_w]
        rfl
       refine one_ (i := 15) (N := some 31) #[true, true, true, true, true, true, true, true, true, true, true, true, true, true, true, true, false, false] rfl rfl (one_of HT_.out (by kernel_rfl)) (by decide) (fun K hK => ?_)
       refine value_ (w1 := ?_) (v := ?_) (by rfl) rfl ?_ ?_
       rotate_left 2
       ·go_simp
        constructor
        ·rfl
        ·rfl
       refine hK.out _ _ ⟨(blk_cell (blk_alloc Za.out _) 0).trans rfl, (blk_cell (blk_alloc Za.out _) 1).trans rfl, (World.cell?_alloc_lt _ _ _ (World.block_lt_of_cell? _ _ (((HB.out.cell (World.block_lt_of_cell? w _ hw250_0)).trans hw250_0)))).trans (((HB.out.cell (World.block_lt_of_cell? w _ hw250_0)).trans hw250_0)), (World.cell?_alloc_lt _ _ _ (World.block_lt_of_cell? _ _ (((HB.out.cell (World.block_lt_of_cell? w _ hw250_1)).trans hw250_1)))).trans (((HB.out.cell (World.block_lt_of_cell? w _ hw250_1)).trans hw250_1)), (World.cell?_alloc_lt _ _ _ (World.block_lt_of_cell? _ _ (((HB.out.cell (World.block_lt_of_cell? w _ hw251_0)).trans hw251_0)))).trans (((HB.out.cell (World.block_lt_of_cell? w _ hw251_0)).trans hw251_0)), (World.cell?_alloc_lt _ _ _ (World.block_lt_of_cell? _ _ (((HB.out.cell (World.block_lt_of_cell? w _ hw251_1)).trans hw251_1)))).trans (((HB.out.cell (World.block_lt_of_cell? w _ hw251_1)).trans hw251_1))⟩ (fun hHeld => ?_)
       clear hK K
       refine norm_ (a' := ?_) ?_ ?_
       rotate_left
       ·show Act.put _ (some 31) _ = _
        simp only [Act.put, zs, zz, zt, i64_w, i32_w]
        rfl
       refine one_ (i := 16) (N := some 32) #[true, true, true, true, true, true, true, true, true, true, true, true, true, true, true, true, true, false] rfl rfl (one_of HT_.out (by kernel_rfl)) (by decide) (fun K hK => ?_)
       refine Kd.R_append_step Kd.string (w0 := w) w.heap.size (by rfl) (.tmp 16) (.tmp 31) 37 9 (.string ⟨#[]⟩) 16 rfl Tryd.underlying37 info9 rfl (by decide) (by omega) u3 x3_1 t252 [.string t252] (fun _ => True) (fun _ => False) rfl rfl ?aP (fun _ hk => hk.elim) ?aF ?aO ?aB ?aS ?aL ?_
       (case aP => exact rfl)
       (case aB => exact (zg_2 HB.out Zb.out))
       (case aF => exact (fun _ _ => trivial))
       (case aO => exact (zg_3 Zc.out))
       (case aS => exact (below_size (zg_2 HB.out Zb.out)))
       (case aL => have := LMc12.out; omega)
       intro v254 w16 ho hb hg hat
       rw [← Ny253.out] at ho
       have n0_ := zm (blk_grown (g := gb245) (o := .cells #[.slice A0_0 l0_0.length c0_0, .slice (some ad250) l0_1.length c0_1] 55 (0, 0)) (zg_1 Za.out) hg (Kd.R_ne Zc.out Za.out (by decide)))
       have n1_ := zm (hb)
       have n2_ := zm (ho)
       clear Za
       clear HB
       clear Zc
       have Za := n0_
       have HB := n1_
       have Zk := n2_
       clear n0_ n1_ n2_
       clear ho hb hg hat
       refine hK.out _ _ ⟨(blk_cell Za.out 0).trans rfl, (blk_cell Za.out 1).trans rfl, ((HB.out.cell (World.block_lt_of_cell? w _ hw250_0)).trans hw250_0), ((HB.out.cell (World.block_lt_of_cell? w _ hw250_1)).trans hw250_1), ((HB.out.cell (World.block_lt_of_cell? w _ hw251_0)).trans hw251_0), ((HB.out.cell (World.block_lt_of_cell? w _ hw251_1)).trans hw251_1)⟩ (fun hHeld => ?_)
       clear hK K
       refine norm_ (a' := ?_) ?_ ?_
       rotate_left
       ·show Act.put _ (some 32) _ = _
        simp only [Act.put, zs, zz, zt, i64_w, i32_w]
        rfl
       refine pure_ (i := 17) (N := some 3) (v := ?_) (a' := ?_) #[true, true, true, true, true, true, true, true, true, true, true, true, true, true, true, true, true, true] rfl rfl (any_of HT_.out (by kernel_rfl)) (fun _ _ _ h => h) (Or.inl ⟨by rfl, ?_⟩) ?_ ?_
       rotate_left
       ·intro w'
        go_simp
        with_reducible rfl
       rotate_left
       ·simp only [Act.put, zs, zz, zt, i64_w, i32_w]
        rfl
       refine done_ (done_of HT_.out (by kernel_rfl)) ?_
       try go_wp2
       go_roundg k1
       case measure => have := HK1.out; omega
       case rel => exact ⟨(y253), (wrap64 (x4_1 + 1)), zr, H', ⟨by have := HK1.out; omega⟩, ⟨by (with_reducible repeat (first | apply Kd.R_alloc | apply Kd.R_drewN | apply Kd.R_drew)); exact Zk.out⟩, ⟨by (with_reducible repeat (first | refine blk_drewN ?_ _ | refine blk_drew ?_ | refine blk_alloc ?_ _)); exact Za.out⟩, ⟨zg_2 HB.out Zb.out⟩⟩
      ·rw [if_neg c12] at H
       exact absurd H (by simp)
     ·rw [if_neg c10] at H
      exact absurd H (by simp)
    ·rw [if_neg c9] at H
     exact absurd H (by simp)
   ·rw [if_neg c8] at H
    have c8b0 : decide (x4_1 < (l0_1.length : Int)) = false := decide_eq_false c8
    clear c8
    obtain rfl := Option.some.inj H
    have hcz17_0 : wr.cell? ⟨gb245, 0, none⟩ = some (.slice A0_0 l0_0.length c0_0) := (blk_cell Za.out 0).trans rfl
    have hcz17_1 : wr.cell? ⟨gb245, 1, none⟩ = some (.slice A0_1 l0_1.length c0_1) := (blk_cell Za.out 1).trans rfl
    have hfz17_0 := blk_frozen Za.out 0
    have hfz17_1 := blk_frozen Za.out 1
    go_wp2
    go_ret
    exact ⟨_, by first | rfl | (simp [errW_none, errW_some] <;> rfl) | (simp [*, errW_none, errW_some] <;> rfl), by (with_reducible repeat (first | apply Kd.R_alloc | apply Kd.R_drewN | apply Kd.R_drew)); exact Zc.out, zg_2 HB.out Zb.out⟩
/-! ### spec_GuestText: function 22 -/
def spec_GuestText.f (k : Nat) (l0_0 : List Int) (l0_1 : List (S102)) : Option (List ByteArray × Int) := (spec_GuestOK.f k l0_0 l0_1).bind fun t257 => (if t257 = true then ((spec_l14Text.f k l0_0 l0_1).bind fun t258 => (some (t258, 0))) else (some ((([] : List ByteArray)), 1)))
theorem spec_GuestText.mono : ∀ a0 a1 k, LeO (spec_GuestText.f k a0 a1) (spec_GuestText.f (k + 1) a0 a1) := by
  intro a0 a1 k
  unfold spec_GuestText.f
  repeat' first
      | (with_reducible exact spec_GuestOK.mono _ _ _)
      | (with_reducible exact spec_l14Text.mono _ _ _)
      | (with_reducible exact LeO.refl _)
      | (with_reducible exact LeO.none _)
      | (with_reducible refine LeO.ite ?_ ?_)
      | (with_reducible refine LeO.bind ?_ (fun _ => ?_))
      | exact spec_GuestOK.mono _ _ _
      | exact spec_l14Text.mono _ _ _
      | exact LeO.none _
      | refine LeO.ite ?_ ?_
      | refine LeO.bind ?_ (fun _ => ?_)
set_option maxHeartbeats 8000000 in
set_option maxRecDepth 100000 in
theorem spec_GuestText.calls (k : Nat) (A0_0 : Option Addr) (c0_0 : Nat) (l0_0 : List Int) (A0_1 : Option Addr) (c0_1 : Nat) (l0_1 : List (S102)) (r1 : List ByteArray) (r2 : Int) (w : World) (hr0_0 : Kd.C (Kd.int .i64) w A0_0 l0_0.length l0_0) (hc0_0 : l0_0.length ≤ c0_0) (hr0_1 : Kd.C k102 w A0_1 l0_1.length l0_1) (hc0_1 : l0_1.length ≤ c0_1) (h : spec_GuestText.f k l0_0 l0_1 = some (r1, r2)) :
    Calls Tryd.prog 22 #[.agg #[.slice A0_0 l0_0.length c0_0, .slice A0_1 l0_1.length c0_1]] w fun e w' => ∃ v0_ : Value, e = .returned (.tuple #[v0_, .int .i64 r2]) ∧ Kd.R Kd.string 9 w' w.heap.size (fun _ => True) v0_ r1 ∧ Below w.heap.size w w' := by
 have hu55 := Tryd.underlying55
 have Zc := zm hr0_0
 have Zd := zm hc0_0
 clear hr0_0 hc0_0
 have Ze := zm hr0_1
 have Zf := zm hc0_1
 clear hr0_1 hc0_1
 have HB := zm (Below.refl w.heap.size w)
 have H : ((spec_GuestOK.f k l0_0 l0_1).bind fun t257 => (if t257 = true then ((spec_l14Text.f k l0_0 l0_1).bind fun t258 => (some (t258, 0))) else (some ((([] : List ByteArray)), 1)))) = some (r1, r2) := h
 clear h
 replace H := Option.bind_eq_some_iff.mp H
 obtain ⟨t257, A20, H⟩ := H
 replace H : (if t257 = true then ((spec_l14Text.f k l0_0 l0_1).bind fun t258 => (some (t258, 0))) else (some ((([] : List ByteArray)), 1))) = some (r1, r2) := H
 have A2 := zm A20
 clear A20
 by_cases c3 : t257 = true
 ·subst c3
  have H1 : ((spec_l14Text.f k l0_0 l0_1).bind fun t258 => (some (t258, 0))) = some (r1, r2) := by rw [if_pos rfl] at H; exact H
  clear H
  have H := H1
  clear H1
  replace H := Option.bind_eq_some_iff.mp H
  obtain ⟨t258, A40, H⟩ := H
  replace H : (some (t258, 0)) = some (r1, r2) := H
  have A4 := zm A40
  clear A40
  simp only [Option.some.injEq, Prod.mk.injEq] at H
  obtain ⟨rfl, rfl⟩ := H
  go_enter Tryd.func22, Tryd.ntmps22
  go_wp2_with (first | ((with_reducible refine gate_dst (N := 1) rfl ?_); refine box_event ?hg (N := 1) ?hd (cs := #[.slice A0_0 l0_0.length c0_0, .slice A0_1 l0_1.length c0_1]) (t := 55) ?hr ?_; (case hd => rfl); (case hg => rfl); (case hr => first | (go_simp; done) | (go_simp; rfl)); intro gb256 hg w5 hbox hb; have n0_ := zm (below_step (zg_0 HB.out) hb); have n1_ := zm (hbox); have n2_ := zm ((by rw [hg]; exact (below_size (zg_0 HB.out)) : w.heap.size ≤ gb256)); have n3_ := zm ((by rw [hg]; exact (below_size (zg_0 HB.out)) : w.heap.size ≤ gb256)); clear HB; have HB := n0_; have Za := n1_; have Zg := n2_; have Zb := n3_; clear n0_ n1_ n2_ n3_; clear hb hbox hg; have hcz6_0 : w5.cell? ⟨gb256, 0, none⟩ = some (.slice A0_0 l0_0.length c0_0) := (blk_cell Za.out 0).trans rfl; have hcz6_1 : w5.cell? ⟨gb256, 1, none⟩ = some (.slice A0_1 l0_1.length c0_1) := (blk_cell Za.out 1).trans rfl; have hfz6_0 := blk_frozen Za.out 0; have hfz6_1 := blk_frozen Za.out 1) | ((with_reducible refine gate_callee (f := 54) rfl ?_); refine goesL_ (some 5) rfl rfl Tryd.func54 (by kernel_rfl) rfl #[.agg #[.slice A0_0 l0_0.length c0_0, .slice A0_1 l0_1.length c0_1]] rfl zq ?_; (with_reducible refine (spec_GuestOK.calls k _ _ l0_0 _ _ l0_1 true _ ?side1 ?side2 ?side3 ?side4 A2.out).mono ?_); (case side1 => exact zC (Kd.C_below Zc.out HB.out)); (case side2 => exact Zd.out); (case side3 => exact zC (Kd.C_below Ze.out HB.out)); (case side4 => exact Zf.out); rintro e w7 ⟨rfl, hb⟩; refine ⟨_, rfl, ?_⟩; have n0_ := zm (blk_below (g := gb256) (o := .cells #[.slice A0_0 l0_0.length c0_0, .slice A0_1 l0_1.length c0_1] 55 (0, 0)) (zg_1 Za.out) hb); have n1_ := zm (below_step (zg_2 HB.out Zb.out) hb); clear Za; clear HB; have Za := n0_; have HB := n1_; clear n0_ n1_; (try clear hb); (try clear hb2); (try clear hk); (try clear hi); have hcz8_0 : w7.cell? ⟨gb256, 0, none⟩ = some (.slice A0_0 l0_0.length c0_0) := (blk_cell Za.out 0).trans rfl; have hcz8_1 : w7.cell? ⟨gb256, 1, none⟩ = some (.slice A0_1 l0_1.length c0_1) := (blk_cell Za.out 1).trans rfl; have hfz8_0 := blk_frozen Za.out 0; have hfz8_1 := blk_frozen Za.out 1) | ((with_reducible refine gate_callee (f := 55) rfl ?_); refine goesL_ (some 9) rfl rfl Tryd.func55 (by kernel_rfl) rfl #[.agg #[.slice A0_0 l0_0.length c0_0, .slice A0_1 l0_1.length c0_1]] rfl zq ?_; (with_reducible refine (spec_l14Text.calls k _ _ l0_0 _ _ l0_1 t258 _ ?side1 ?side2 ?side3 ?side4 A4.out).mono ?_); (case side1 => exact zC (Kd.C_below Zc.out HB.out)); (case side2 => exact Zd.out); (case side3 => exact zC (Kd.C_below Ze.out HB.out)); (case side4 => exact Zf.out); rintro e w9 ⟨v259, rfl, ho0, hb⟩; refine ⟨_, rfl, ?_⟩; have n0_ := zm (Kd.R_lower ho0 (below_size (zg_2 HB.out Zb.out))); have n1_ := zm (blk_below (g := gb256) (o := .cells #[.slice A0_0 l0_0.length c0_0, .slice A0_1 l0_1.length c0_1] 55 (0, 0)) (zg_1 Za.out) hb); have n2_ := zm (below_step (zg_2 HB.out Zb.out) hb); clear Za; clear HB; have Zh := n0_; have Za := n1_; have HB := n2_; clear n0_ n1_ n2_; (try clear hb); (try clear hb2); (try clear hk); (try clear hi); (try clear ho0)))
  go_ret2
  exact ⟨_, by first | rfl | (simp [errW_none, errW_some] <;> rfl) | (simp [*, errW_none, errW_some] <;> rfl), by (with_reducible repeat (first | apply Kd.R_alloc | apply Kd.R_drewN | apply Kd.R_drew)); exact Zh.out, zg_2 HB.out Zb.out⟩
 ·replace c3 := Bool.eq_false_iff.mpr c3
  subst c3
  have H1 : (some ((([] : List ByteArray)), 1)) = some (r1, r2) := by rw [if_neg (show ¬ (false = true) by decide)] at H; exact H
  clear H
  have H := H1
  clear H1
  obtain ⟨y261, hy261⟩ : ∃ y_ : List ByteArray, y_ = (([] : List ByteArray)) := ⟨_, rfl⟩
  replace H : (some (y261, 1)) = some (r1, r2) := by first | (rw [hy261]; with_reducible exact H) | (have H2_ := (Option.bind_some _ _).symm.trans H; rw [hy261]; with_reducible exact H2_) | (have H2_ := (Option.bind_some _ _).symm.trans H; with_reducible exact H2_) | with_reducible exact H | (rw [hy261]; exact H) | exact H
  have Ny261 := zm hy261
  clear hy261
  simp only [Option.some.injEq, Prod.mk.injEq] at H
  obtain ⟨rfl, rfl⟩ := H
  go_enter Tryd.func22, Tryd.ntmps22
  go_wp2_with (first | ((with_reducible refine gate_dst (N := 1) rfl ?_); refine box_event ?hg (N := 1) ?hd (cs := #[.slice A0_0 l0_0.length c0_0, .slice A0_1 l0_1.length c0_1]) (t := 55) ?hr ?_; (case hd => rfl); (case hg => rfl); (case hr => first | (go_simp; done) | (go_simp; rfl)); intro gb256 hg w10 hbox hb; have n0_ := zm (below_step (zg_0 HB.out) hb); have n1_ := zm (hbox); have n2_ := zm ((by rw [hg]; exact (below_size (zg_0 HB.out)) : w.heap.size ≤ gb256)); have n3_ := zm ((by rw [hg]; exact (below_size (zg_0 HB.out)) : w.heap.size ≤ gb256)); clear HB; have HB := n0_; have Za := n1_; have Zg := n2_; have Zb := n3_; clear n0_ n1_ n2_ n3_; clear hb hbox hg; have hcz11_0 : w10.cell? ⟨gb256, 0, none⟩ = some (.slice A0_0 l0_0.length c0_0) := (blk_cell Za.out 0).trans rfl; have hcz11_1 : w10.cell? ⟨gb256, 1, none⟩ = some (.slice A0_1 l0_1.length c0_1) := (blk_cell Za.out 1).trans rfl; have hfz11_0 := blk_frozen Za.out 0; have hfz11_1 := blk_frozen Za.out 1) | ((with_reducible refine gate_callee (f := 54) rfl ?_); refine goesL_ (some 5) rfl rfl Tryd.func54 (by kernel_rfl) rfl #[.agg #[.slice A0_0 l0_0.length c0_0, .slice A0_1 l0_1.length c0_1]] rfl zq ?_; (with_reducible refine (spec_GuestOK.calls k _ _ l0_0 _ _ l0_1 false _ ?side1 ?side2 ?side3 ?side4 A2.out).mono ?_); (case side1 => exact zC (Kd.C_below Zc.out HB.out)); (case side2 => exact Zd.out); (case side3 => exact zC (Kd.C_below Ze.out HB.out)); (case side4 => exact Zf.out); rintro e w12 ⟨rfl, hb⟩; refine ⟨_, rfl, ?_⟩; have n0_ := zm (blk_below (g := gb256) (o := .cells #[.slice A0_0 l0_0.length c0_0, .slice A0_1 l0_1.length c0_1] 55 (0, 0)) (zg_1 Za.out) hb); have n1_ := zm (below_step (zg_2 HB.out Zb.out) hb); clear Za; clear HB; have Za := n0_; have HB := n1_; clear n0_ n1_; (try clear hb); (try clear hb2); (try clear hk); (try clear hi)) | ((with_reducible refine gate_dst (N := 7) rfl ?_); refine Kd.R_lit Kd.string _ 9 ?hg (N := 7) ?hd (xs := ([] : List ByteArray)) (inner := []) (ok := fun _ => True) (okp := fun _ => True) ?hr ?hp (fun _ hk => hk) trivial (Below.refl _ _) (Nat.le_refl _) (by simp) ?_; (case hd => rfl); (case hg => rfl); (case hr => first | (go_simp; done) | (go_simp; rfl)); (case hp => exact (Reps.none _ _)); intro v262 w13 ho14 hb hg_ hnew_; clear hg_ hnew_; (first | rw [← Ny261.out] at ho14 | (simp only [Int.reduceToNat] at ho14; rw [← Ny261.out] at ho14)); have n0_ := zm (Kd.R_lower ho14 (below_size (zg_2 HB.out Zb.out))); have n1_ := zm (blk_below (g := gb256) (o := .cells #[.slice A0_0 l0_0.length c0_0, .slice A0_1 l0_1.length c0_1] 55 (0, 0)) (zg_1 Za.out) hb); have n2_ := zm (below_step (zg_2 HB.out Zb.out) hb); clear Za; clear HB; have Zi := n0_; have Za := n1_; have HB := n2_; clear n0_ n1_ n2_; clear hb ho14))
  go_ret2
  exact ⟨_, by first | rfl | (simp [errW_none, errW_some] <;> rfl) | (simp [*, errW_none, errW_some] <;> rfl), by (with_reducible repeat (first | apply Kd.R_alloc | apply Kd.R_drewN | apply Kd.R_drew)); exact Zi.out, zg_2 HB.out Zb.out⟩
/-! ### laws_FnExactGuestText: function 7 -/
def laws_FnExactGuestText.f (k : Nat) (l0_0 : List Int) (l0_1 : List (S100)) : Option (Bool) := (laws_szGuest.f k l0_0 l0_1 1048576).bind fun t352 => (if t352 < 0 then (some true) else ((laws_toGuest.f k l0_0 l0_1).bind fun bt353 => ((spec_GuestText.f k bt353.1 bt353.2).bind fun bt359 => ((laws_toGuest.f k l0_0 l0_1).bind fun bt363 => ((impl_GuestText.f k bt363.1 bt363.2).bind fun bt370 => ((laws_eqStringS.f k bt370.1 bt359.1).bind fun t374 => (if t374 = true then (if bt370.2 = bt359.2 then ((laws_toGuest.f k l0_0 l0_1).bind fun bt375 => ((laws_eqGuest.f k bt363.1 bt363.2 bt375.1 bt375.2).bind fun t381 => (if t381 = true then ((laws_markGuest.f k bt363.1 bt363.2 1).bind fun bt382 => (if bt382.1 < 0 then (some false) else ((laws_eqStringS.f k bt370.1 bt359.1).bind fun t385 => (if t385 = true then ((laws_markStringS.f k bt370.1 1).bind fun bt386 => ((laws_heldStringS.f k bt386.2 1).bind fun t388 => (if t388 < 0 then (some false) else (if t388 = bt386.1 then ((laws_toGuest.f k l0_0 l0_1).bind fun bt389 => ((impl_GuestText.f k bt389.1 bt389.2).bind fun bt395 => ((laws_eqStringS.f k bt395.1 bt359.1).bind fun t399 => (if t399 = true then (if bt395.2 = bt359.2 then ((laws_heldStringS.f k bt386.2 1).bind fun t400 => (if t400 < 0 then (some false) else (if t400 = bt386.1 then (some true) else (some false)))) else (some false)) else (some false))))) else (some false))))) else (some false))))) else (some false)))) else (some false)) else (some false))))))))
theorem laws_FnExactGuestText.mono : ∀ a0 a1 k, LeO (laws_FnExactGuestText.f k a0 a1) (laws_FnExactGuestText.f (k + 1) a0 a1) := by
  intro a0 a1 k
  unfold laws_FnExactGuestText.f
  repeat' first
      | (with_reducible exact impl_GuestText.mono _ _ _)
      | (with_reducible exact laws_eqGuest.mono _ _ _ _ _)
      | (with_reducible exact laws_eqStringS.mono _ _ _)
      | (with_reducible exact laws_heldStringS.mono _ _ _)
      | (with_reducible exact laws_markGuest.mono _ _ _ _)
      | (with_reducible exact laws_markStringS.mono _ _ _)
      | (with_reducible exact laws_szGuest.mono _ _ _ _)
      | (with_reducible exact laws_toGuest.mono _ _ _)
      | (with_reducible exact spec_GuestText.mono _ _ _)
      | (with_reducible exact LeO.refl _)
      | (with_reducible exact LeO.none _)
      | (with_reducible refine LeO.ite ?_ ?_)
      | (with_reducible refine LeO.bind ?_ (fun _ => ?_))
      | exact impl_GuestText.mono _ _ _
      | exact laws_eqGuest.mono _ _ _ _ _
      | exact laws_eqStringS.mono _ _ _
      | exact laws_heldStringS.mono _ _ _
      | exact laws_markGuest.mono _ _ _ _
      | exact laws_markStringS.mono _ _ _
      | exact laws_szGuest.mono _ _ _ _
      | exact laws_toGuest.mono _ _ _
      | exact spec_GuestText.mono _ _ _
      | exact LeO.none _
      | refine LeO.ite ?_ ?_
      | refine LeO.bind ?_ (fun _ => ?_)
set_option maxHeartbeats 8000000 in
set_option maxRecDepth 100000 in
theorem laws_FnExactGuestText.calls (k : Nat) (A0_0 : Option Addr) (c0_0 : Nat) (l0_0 : List Int) (A0_1 : Option Addr) (c0_1 : Nat) (l0_1 : List (S100)) (r : Bool) (w : World) (hr0_0 : Kd.C (Kd.int .i64) w A0_0 l0_0.length l0_0) (hc0_0 : l0_0.length ≤ c0_0) (hr0_1 : Kd.C k100 w A0_1 l0_1.length l0_1) (hc0_1 : l0_1.length ≤ c0_1) (h : laws_FnExactGuestText.f k l0_0 l0_1 = some r) (hr_ : Aside0 (r = true)) (HTB_ : TrydTab w := by first | exact HTB_ | exact TrydTab.to HTB_ HB.out | exact TrydTab.to HTB_ (by repeat (first | exact HB.out | apply below_alloc | apply pw_below_drewN | apply below_drew1 | refine below_set ?_ (Aside0.out (by assumption))))) :
    Calls Tryd.prog 7 #[.agg #[.slice A0_0 l0_0.length c0_0, .slice A0_1 l0_1.length c0_1]] w fun e w' => e = .returned (.bool r) ∧ Below w.heap.size w w' := by
 have hu49 := Tryd.underlying49
 have hu55 := Tryd.underlying55
 have Zl := zm hr0_0
 have Zm := zm hc0_0
 clear hr0_0 hc0_0
 have Zn := zm hr0_1
 have Zo := zm hc0_1
 clear hr0_1 hc0_1
 have HB := zm (Below.refl w.heap.size w)
 have H : ((laws_szGuest.f k l0_0 l0_1 1048576).bind fun t352 => (if t352 < 0 then (some true) else ((laws_toGuest.f k l0_0 l0_1).bind fun bt353 => ((spec_GuestText.f k bt353.1 bt353.2).bind fun bt359 => ((laws_toGuest.f k l0_0 l0_1).bind fun bt363 => ((impl_GuestText.f k bt363.1 bt363.2).bind fun bt370 => ((laws_eqStringS.f k bt370.1 bt359.1).bind fun t374 => (if t374 = true then (if bt370.2 = bt359.2 then ((laws_toGuest.f k l0_0 l0_1).bind fun bt375 => ((laws_eqGuest.f k bt363.1 bt363.2 bt375.1 bt375.2).bind fun t381 => (if t381 = true then ((laws_markGuest.f k bt363.1 bt363.2 1).bind fun bt382 => (if bt382.1 < 0 then (some false) else ((laws_eqStringS.f k bt370.1 bt359.1).bind fun t385 => (if t385 = true then ((laws_markStringS.f k bt370.1 1).bind fun bt386 => ((laws_heldStringS.f k bt386.2 1).bind fun t388 => (if t388 < 0 then (some false) else (if t388 = bt386.1 then ((laws_toGuest.f k l0_0 l0_1).bind fun bt389 => ((impl_GuestText.f k bt389.1 bt389.2).bind fun bt395 => ((laws_eqStringS.f k bt395.1 bt359.1).bind fun t399 => (if t399 = true then (if bt395.2 = bt359.2 then ((laws_heldStringS.f k bt386.2 1).bind fun t400 => (if t400 < 0 then (some false) else (if t400 = bt386.1 then (some true) else (some false)))) else (some false)) else (some false))))) else (some false))))) else (some false))))) else (some false)))) else (some false)) else (some false))))))))) = some r := h
 clear h
 replace H := Option.bind_eq_some_iff.mp H
 obtain ⟨t352, A20, H⟩ := H
 replace H : (if t352 < 0 then (some true) else ((laws_toGuest.f k l0_0 l0_1).bind fun bt353 => ((spec_GuestText.f k bt353.1 bt353.2).bind fun bt359 => ((laws_toGuest.f k l0_0 l0_1).bind fun bt363 => ((impl_GuestText.f k bt363.1 bt363.2).bind fun bt370 => ((laws_eqStringS.f k bt370.1 bt359.1).bind fun t374 => (if t374 = true then (if bt370.2 = bt359.2 then ((laws_toGuest.f k l0_0 l0_1).bind fun bt375 => ((laws_eqGuest.f k bt363.1 bt363.2 bt375.1 bt375.2).bind fun t381 => (if t381 = true then ((laws_markGuest.f k bt363.1 bt363.2 1).bind fun bt382 => (if bt382.1 < 0 then (some false) else ((laws_eqStringS.f k bt370.1 bt359.1).bind fun t385 => (if t385 = true then ((laws_markStringS.f k bt370.1 1).bind fun bt386 => ((laws_heldStringS.f k bt386.2 1).bind fun t388 => (if t388 < 0 then (some false) else (if t388 = bt386.1 then ((laws_toGuest.f k l0_0 l0_1).bind fun bt389 => ((impl_GuestText.f k bt389.1 bt389.2).bind fun bt395 => ((laws_eqStringS.f k bt395.1 bt359.1).bind fun t399 => (if t399 = true then (if bt395.2 = bt359.2 then ((laws_heldStringS.f k bt386.2 1).bind fun t400 => (if t400 < 0 then (some false) else (if t400 = bt386.1 then (some true) else (some false)))) else (some false)) else (some false))))) else (some false))))) else (some false))))) else (some false)))) else (some false)) else (some false)))))))) = some r := H
 have A2 := zm A20
 clear A20
 by_cases c3 : t352 < 0
 ·rw [if_pos c3] at H
  have c3b0 : decide (t352 < 0) = true := decide_eq_true c3
  clear c3
  obtain rfl := Option.some.inj H
  go_enter Tryd.func7, Tryd.ntmps7
  go_wp2_with (first | ((with_reducible refine gate_dst (N := 1) rfl ?_); refine box_event ?hg (N := 1) ?hd (cs := #[.slice A0_0 l0_0.length c0_0, .slice A0_1 l0_1.length c0_1]) (t := 49) ?hr ?_; (case hd => rfl); (case hg => rfl); (case hr => first | (go_simp; done) | (go_simp; rfl)); intro gb351 hg w4 hbox hb; have n0_ := zm (below_step (zg_0 HB.out) hb); have n1_ := zm (hbox); have n2_ := zm ((by rw [hg]; exact (below_size (zg_0 HB.out)) : w.heap.size ≤ gb351)); have n3_ := zm ((by rw [hg]; exact (below_size (zg_0 HB.out)) : w.heap.size ≤ gb351)); clear HB; have HB := n0_; have Za := n1_; have Zv := n2_; have Zf := n3_; clear n0_ n1_ n2_ n3_; clear hb hbox hg; have hcz5_0 : w4.cell? ⟨gb351, 0, none⟩ = some (.slice A0_0 l0_0.length c0_0) := (blk_cell Za.out 0).trans rfl; have hcz5_1 : w4.cell? ⟨gb351, 1, none⟩ = some (.slice A0_1 l0_1.length c0_1) := (blk_cell Za.out 1).trans rfl; have hfz5_0 := blk_frozen Za.out 0; have hfz5_1 := blk_frozen Za.out 1) | ((with_reducible refine gate_callee (f := 21) rfl ?_); refine goesL_ (some 16) rfl rfl Tryd.func21 (by kernel_rfl) rfl #[.agg #[.slice A0_0 l0_0.length c0_0, .slice A0_1 l0_1.length c0_1], .int .i64 1048576] rfl zq ?_; (with_reducible refine (laws_szGuest.calls k _ _ l0_0 _ _ l0_1 1048576 t352 _ ?side1 ?side2 ?side3 ?side4 A2.out).mono ?_); (case side1 => exact zC (Kd.C_below Zl.out HB.out)); (case side2 => exact Zm.out); (case side3 => exact zC (Kd.C_below Zn.out HB.out)); (case side4 => exact Zo.out); rintro e w6 ⟨rfl, hb⟩; refine ⟨_, rfl, ?_⟩; have n0_ := zm (blk_below (g := gb351) (o := .cells #[.slice A0_0 l0_0.length c0_0, .slice A0_1 l0_1.length c0_1] 49 (0, 0)) (zg_1 Za.out) hb); have n1_ := zm (below_step (zg_2 HB.out Zf.out) hb); clear Za; clear HB; have Za := n0_; have HB := n1_; clear n0_ n1_; (try clear hb); (try clear hb2); (try clear hk); (try clear hi)))
  go_ret
  exact ⟨by first | rfl | (simp [errW_none, errW_some] <;> rfl) | (simp [*, errW_none, errW_some] <;> rfl), zg_2 HB.out Zf.out⟩
 ·rw [if_neg c3] at H
  have c3b0 : decide (t352 < 0) = false := decide_eq_false c3
  clear c3
  replace H := Option.bind_eq_some_iff.mp H
  obtain ⟨⟨t353, t356⟩, A70, H⟩ := H
  replace H : ((spec_GuestText.f k t353 t356).bind fun bt359 => ((laws_toGuest.f k l0_0 l0_1).bind fun bt363 => ((impl_GuestText.f k bt363.1 bt363.2).bind fun bt370 => ((laws_eqStringS.f k bt370.1 bt359.1).bind fun t374 => (if t374 = true then (if bt370.2 = bt359.2 then ((laws_toGuest.f k l0_0 l0_1).bind fun bt375 => ((laws_eqGuest.f k bt363.1 bt363.2 bt375.1 bt375.2).bind fun t381 => (if t381 = true then ((laws_markGuest.f k bt363.1 bt363.2 1).bind fun bt382 => (if bt382.1 < 0 then (some false) else ((laws_eqStringS.f k bt370.1 bt359.1).bind fun t385 => (if t385 = true then ((laws_markStringS.f k bt370.1 1).bind fun bt386 => ((laws_heldStringS.f k bt386.2 1).bind fun t388 => (if t388 < 0 then (some false) else (if t388 = bt386.1 then ((laws_toGuest.f k l0_0 l0_1).bind fun bt389 => ((impl_GuestText.f k bt389.1 bt389.2).bind fun bt395 => ((laws_eqStringS.f k bt395.1 bt359.1).bind fun t399 => (if t399 = true then (if bt395.2 = bt359.2 then ((laws_heldStringS.f k bt386.2 1).bind fun t400 => (if t400 < 0 then (some false) else (if t400 = bt386.1 then (some true) else (some false)))) else (some false)) else (some false))))) else (some false))))) else (some false))))) else (some false)))) else (some false)) else (some false)))))) = some r := H
  have A7 := zm A70
  clear A70
  replace H := Option.bind_eq_some_iff.mp H
  obtain ⟨⟨t359, t362⟩, A80, H⟩ := H
  replace H : ((laws_toGuest.f k l0_0 l0_1).bind fun bt363 => ((impl_GuestText.f k bt363.1 bt363.2).bind fun bt370 => ((laws_eqStringS.f k bt370.1 t359).bind fun t374 => (if t374 = true then (if bt370.2 = t362 then ((laws_toGuest.f k l0_0 l0_1).bind fun bt375 => ((laws_eqGuest.f k bt363.1 bt363.2 bt375.1 bt375.2).bind fun t381 => (if t381 = true then ((laws_markGuest.f k bt363.1 bt363.2 1).bind fun bt382 => (if bt382.1 < 0 then (some false) else ((laws_eqStringS.f k bt370.1 t359).bind fun t385 => (if t385 = true then ((laws_markStringS.f k bt370.1 1).bind fun bt386 => ((laws_heldStringS.f k bt386.2 1).bind fun t388 => (if t388 < 0 then (some false) else (if t388 = bt386.1 then ((laws_toGuest.f k l0_0 l0_1).bind fun bt389 => ((impl_GuestText.f k bt389.1 bt389.2).bind fun bt395 => ((laws_eqStringS.f k bt395.1 t359).bind fun t399 => (if t399 = true then (if bt395.2 = t362 then ((laws_heldStringS.f k bt386.2 1).bind fun t400 => (if t400 < 0 then (some false) else (if t400 = bt386.1 then (some true) else (some false)))) else (some false)) else (some false))))) else (some false))))) else (some false))))) else (some false)))) else (some false)) else (some false))))) = some r := H
  have A8 := zm A80
  clear A80
  replace H := Option.bind_eq_some_iff.mp H
  obtain ⟨⟨t363, t366⟩, A90, H⟩ := H
  replace H : ((impl_GuestText.f k t363 t366).bind fun bt370 => ((laws_eqStringS.f k bt370.1 t359).bind fun t374 => (if t374 = true then (if bt370.2 = t362 then ((laws_toGuest.f k l0_0 l0_1).bind fun bt375 => ((laws_eqGuest.f k t363 t366 bt375.1 bt375.2).bind fun t381 => (if t381 = true then ((laws_markGuest.f k t363 t366 1).bind fun bt382 => (if bt382.1 < 0 then (some false) else ((laws_eqStringS.f k bt370.1 t359).bind fun t385 => (if t385 = true then ((laws_markStringS.f k bt370.1 1).bind fun bt386 => ((laws_heldStringS.f k bt386.2 1).bind fun t388 => (if t388 < 0 then (some false) else (if t388 = bt386.1 then ((laws_toGuest.f k l0_0 l0_1).bind fun bt389 => ((impl_GuestText.f k bt389.1 bt389.2).bind fun bt395 => ((laws_eqStringS.f k bt395.1 t359).bind fun t399 => (if t399 = true then (if bt395.2 = t362 then ((laws_heldStringS.f k bt386.2 1).bind fun t400 => (if t400 < 0 then (some false) else (if t400 = bt386.1 then (some true) else (some false)))) else (some false)) else (some false))))) else (some false))))) else (some false))))) else (some false)))) else (some false)) else (some false)))) = some r := H
  have A9 := zm A90
  clear A90
  replace H := Option.bind_eq_some_iff.mp H
  obtain ⟨⟨t370, t373⟩, A100, H⟩ := H
  replace H : ((laws_eqStringS.f k t370 t359).bind fun t374 => (if t374 = true then (if t373 = t362 then ((laws_toGuest.f k l0_0 l0_1).bind fun bt375 => ((laws_eqGuest.f k t363 t366 bt375.1 bt375.2).bind fun t381 => (if t381 = true then ((laws_markGuest.f k t363 t366 1).bind fun bt382 => (if bt382.1 < 0 then (some false) else ((laws_eqStringS.f k t370 t359).bind fun t385 => (if t385 = true then ((laws_markStringS.f k t370 1).bind fun bt386 => ((laws_heldStringS.f k bt386.2 1).bind fun t388 => (if t388 < 0 then (some false) else (if t388 = bt386.1 then ((laws_toGuest.f k l0_0 l0_1).bind fun bt389 => ((impl_GuestText.f k bt389.1 bt389.2).bind fun bt395 => ((laws_eqStringS.f k bt395.1 t359).bind fun t399 => (if t399 = true then (if bt395.2 = t362 then ((laws_heldStringS.f k bt386.2 1).bind fun t400 => (if t400 < 0 then (some false) else (if t400 = bt386.1 then (some true) else (some false)))) else (some false)) else (some false))))) else (some false))))) else (some false))))) else (some false)))) else (some false)) else (some false))) = some r := H
  have A10 := zm A100
  clear A100
  replace H := Option.bind_eq_some_iff.mp H
  obtain ⟨t374, A110, H⟩ := H
  replace H : (if t374 = true then (if t373 = t362 then ((laws_toGuest.f k l0_0 l0_1).bind fun bt375 => ((laws_eqGuest.f k t363 t366 bt375.1 bt375.2).bind fun t381 => (if t381 = true then ((laws_markGuest.f k t363 t366 1).bind fun bt382 => (if bt382.1 < 0 then (some false) else ((laws_eqStringS.f k t370 t359).bind fun t385 => (if t385 = true then ((laws_markStringS.f k t370 1).bind fun bt386 => ((laws_heldStringS.f k bt386.2 1).bind fun t388 => (if t388 < 0 then (some false) else (if t388 = bt386.1 then ((laws_toGuest.f k l0_0 l0_1).bind fun bt389 => ((impl_GuestText.f k bt389.1 bt389.2).bind fun bt395 => ((laws_eqStringS.f k bt395.1 t359).bind fun t399 => (if t399 = true then (if bt395.2 = t362 then ((laws_heldStringS.f k bt386.2 1).bind fun t400 => (if t400 < 0 then (some false) else (if t400 = bt386.1 then (some true) else (some false)))) else (some false)) else (some false))))) else (some false))))) else (some false))))) else (some false)))) else (some false)) else (some false)) = some r := H
  have A11 := zm A110
  clear A110
  by_cases c12 : t374 = true
  ·subst c12
   have H1 : (if t373 = t362 then ((laws_toGuest.f k l0_0 l0_1).bind fun bt375 => ((laws_eqGuest.f k t363 t366 bt375.1 bt375.2).bind fun t381 => (if t381 = true then ((laws_markGuest.f k t363 t366 1).bind fun bt382 => (if bt382.1 < 0 then (some false) else ((laws_eqStringS.f k t370 t359).bind fun t385 => (if t385 = true then ((laws_markStringS.f k t370 1).bind fun bt386 => ((laws_heldStringS.f k bt386.2 1).bind fun t388 => (if t388 < 0 then (some false) else (if t388 = bt386.1 then ((laws_toGuest.f k l0_0 l0_1).bind fun bt389 => ((impl_GuestText.f k bt389.1 bt389.2).bind fun bt395 => ((laws_eqStringS.f k bt395.1 t359).bind fun t399 => (if t399 = true then (if bt395.2 = t362 then ((laws_heldStringS.f k bt386.2 1).bind fun t400 => (if t400 < 0 then (some false) else (if t400 = bt386.1 then (some true) else (some false)))) else (some false)) else (some false))))) else (some false))))) else (some false))))) else (some false)))) else (some false)) = some r := by rw [if_pos rfl] at H; exact H
   clear H
   have H := H1
   clear H1
   by_cases c13 : t373 = t362
   ·rw [if_pos c13] at H
    have c13b0 : (t373 == t362) = true := beq_iff_eq.mpr c13
    have c13b1 : (t373 != t362) = false := bne_eq_false_iff_eq.mpr c13
    clear c13
    replace H := Option.bind_eq_some_iff.mp H
    obtain ⟨⟨t375, t378⟩, A140, H⟩ := H
    replace H : ((laws_eqGuest.f k t363 t366 t375 t378).bind fun t381 => (if t381 = true then ((laws_markGuest.f k t363 t366 1).bind fun bt382 => (if bt382.1 < 0 then (some false) else ((laws_eqStringS.f k t370 t359).bind fun t385 => (if t385 = true then ((laws_markStringS.f k t370 1).bind fun bt386 => ((laws_heldStringS.f k bt386.2 1).bind fun t388 => (if t388 < 0 then (some false) else (if t388 = bt386.1 then ((laws_toGuest.f k l0_0 l0_1).bind fun bt389 => ((impl_GuestText.f k bt389.1 bt389.2).bind fun bt395 => ((laws_eqStringS.f k bt395.1 t359).bind fun t399 => (if t399 = true then (if bt395.2 = t362 then ((laws_heldStringS.f k bt386.2 1).bind fun t400 => (if t400 < 0 then (some false) else (if t400 = bt386.1 then (some true) else (some false)))) else (some false)) else (some false))))) else (some false))))) else (some false))))) else (some false))) = some r := H
    have A14 := zm A140
    clear A140
    replace H := Option.bind_eq_some_iff.mp H
    obtain ⟨t381, A150, H⟩ := H
    replace H : (if t381 = true then ((laws_markGuest.f k t363 t366 1).bind fun bt382 => (if bt382.1 < 0 then (some false) else ((laws_eqStringS.f k t370 t359).bind fun t385 => (if t385 = true then ((laws_markStringS.f k t370 1).bind fun bt386 => ((laws_heldStringS.f k bt386.2 1).bind fun t388 => (if t388 < 0 then (some false) else (if t388 = bt386.1 then ((laws_toGuest.f k l0_0 l0_1).bind fun bt389 => ((impl_GuestText.f k bt389.1 bt389.2).bind fun bt395 => ((laws_eqStringS.f k bt395.1 t359).bind fun t399 => (if t399 = true then (if bt395.2 = t362 then ((laws_heldStringS.f k bt386.2 1).bind fun t400 => (if t400 < 0 then (some false) else (if t400 = bt386.1 then (some true) else (some false)))) else (some false)) else (some false))))) else (some false))))) else (some false))))) else (some false)) = some r := H
    have A15 := zm A150
    clear A150
    by_cases c16 : t381 = true
    ·subst c16
     have H1 : ((laws_markGuest.f k t363 t366 1).bind fun bt382 => (if bt382.1 < 0 then (some false) else ((laws_eqStringS.f k t370 t359).bind fun t385 => (if t385 = true then ((laws_markStringS.f k t370 1).bind fun bt386 => ((laws_heldStringS.f k bt386.2 1).bind fun t388 => (if t388 < 0 then (some false) else (if t388 = bt386.1 then ((laws_toGuest.f k l0_0 l0_1).bind fun bt389 => ((impl_GuestText.f k bt389.1 bt389.2).bind fun bt395 => ((laws_eqStringS.f k bt395.1 t359).bind fun t399 => (if t399 = true then (if bt395.2 = t362 then ((laws_heldStringS.f k bt386.2 1).bind fun t400 => (if t400 < 0 then (some false) else (if t400 = bt386.1 then (some true) else (some false)))) else (some false)) else (some false))))) else (some false))))) else (some false))))) = some r := by rw [if_pos rfl] at H; exact H
     clear H
     have H := H1
     clear H1
     replace H := Option.bind_eq_some_iff.mp H
     obtain ⟨⟨t382, t383, t384⟩, A170, H⟩ := H
     replace H : (if t382 < 0 then (some false) else ((laws_eqStringS.f k t370 t359).bind fun t385 => (if t385 = true then ((laws_markStringS.f k t370 1).bind fun bt386 => ((laws_heldStringS.f k bt386.2 1).bind fun t388 => (if t388 < 0 then (some false) else (if t388 = bt386.1 then ((laws_toGuest.f k l0_0 l0_1).bind fun bt389 => ((impl_GuestText.f k bt389.1 bt389.2).bind fun bt395 => ((laws_eqStringS.f k bt395.1 t359).bind fun t399 => (if t399 = true then (if bt395.2 = t362 then ((laws_heldStringS.f k bt386.2 1).bind fun t400 => (if t400 < 0 then (some false) else (if t400 = bt386.1 then (some true) else (some false)))) else (some false)) else (some false))))) else (some false))))) else (some false)))) = some r := H
     have A17 := zm A170
     clear A170
     by_cases c18 : t382 < 0
     ·rw [if_pos c18] at H
      have c18b0 : decide (t382 < 0) = true := decide_eq_true c18
      clear c18
      exact absurd hr_.out (by rw [← Option.some.inj H]; decide)
     ·rw [if_neg c18] at H
      have c18b0 : decide (t382 < 0) = false := decide_eq_false c18
      clear c18
      replace H := Option.bind_eq_some_iff.mp H
      obtain ⟨t385, A190, H⟩ := H
      replace H : (if t385 = true then ((laws_markStringS.f k t370 1).bind fun bt386 => ((laws_heldStringS.f k bt386.2 1).bind fun t388 => (if t388 < 0 then (some false) else (if t388 = bt386.1 then ((laws_toGuest.f k l0_0 l0_1).bind fun bt389 => ((impl_GuestText.f k bt389.1 bt389.2).bind fun bt395 => ((laws_eqStringS.f k bt395.1 t359).bind fun t399 => (if t399 = true then (if bt395.2 = t362 then ((laws_heldStringS.f k bt386.2 1).bind fun t400 => (if t400 < 0 then (some false) else (if t400 = bt386.1 then (some true) else (some false)))) else (some false)) else (some false))))) else (some false))))) else (some false)) = some r := H
      have A19 := zm A190
      clear A190
      by_cases c20 : t385 = true
      ·subst c20
       have H1 : ((laws_markStringS.f k t370 1).bind fun bt386 => ((laws_heldStringS.f k bt386.2 1).bind fun t388 => (if t388 < 0 then (some false) else (if t388 = bt386.1 then ((laws_toGuest.f k l0_0 l0_1).bind fun bt389 => ((impl_GuestText.f k bt389.1 bt389.2).bind fun bt395 => ((laws_eqStringS.f k bt395.1 t359).bind fun t399 => (if t399 = true then (if bt395.2 = t362 then ((laws_heldStringS.f k bt386.2 1).bind fun t400 => (if t400 < 0 then (some false) else (if t400 = bt386.1 then (some true) else (some false)))) else (some false)) else (some false))))) else (some false))))) = some r := by rw [if_pos rfl] at H; exact H
       clear H
       have H := H1
       clear H1
       replace H := Option.bind_eq_some_iff.mp H
       obtain ⟨⟨t386, t387⟩, A210, H⟩ := H
       replace H : ((laws_heldStringS.f k t387 1).bind fun t388 => (if t388 < 0 then (some false) else (if t388 = t386 then ((laws_toGuest.f k l0_0 l0_1).bind fun bt389 => ((impl_GuestText.f k bt389.1 bt389.2).bind fun bt395 => ((laws_eqStringS.f k bt395.1 t359).bind fun t399 => (if t399 = true then (if bt395.2 = t362 then ((laws_heldStringS.f k t387 1).bind fun t400 => (if t400 < 0 then (some false) else (if t400 = t386 then (some true) else (some false)))) else (some false)) else (some false))))) else (some false)))) = some r := H
       have A21 := zm A210
       clear A210
       replace H := Option.bind_eq_some_iff.mp H
       obtain ⟨t388, A220, H⟩ := H
       replace H : (if t388 < 0 then (some false) else (if t388 = t386 then ((laws_toGuest.f k l0_0 l0_1).bind fun bt389 => ((impl_GuestText.f k bt389.1 bt389.2).bind fun bt395 => ((laws_eqStringS.f k bt395.1 t359).bind fun t399 => (if t399 = true then (if bt395.2 = t362 then ((laws_heldStringS.f k t387 1).bind fun t400 => (if t400 < 0 then (some false) else (if t400 = t386 then (some true) else (some false)))) else (some false)) else (some false))))) else (some false))) = some r := H
       have A22 := zm A220
       clear A220
       by_cases c23 : t388 < 0
       ·rw [if_pos c23] at H
        have c23b0 : decide (t388 < 0) = true := decide_eq_true c23
        clear c23
        exact absurd hr_.out (by rw [← Option.some.inj H]; decide)
       ·rw [if_neg c23] at H
        have c23b0 : decide (t388 < 0) = false := decide_eq_false c23
        clear c23
        by_cases c24 : t388 = t386
        ·rw [if_pos c24] at H
         have c24b0 : (t388 == t386) = true := beq_iff_eq.mpr c24
         have c24b1 : (t388 != t386) = false := bne_eq_false_iff_eq.mpr c24
         clear c24
         replace H := Option.bind_eq_some_iff.mp H
         obtain ⟨⟨t389, t392⟩, A250, H⟩ := H
         replace H : ((impl_GuestText.f k t389 t392).bind fun bt395 => ((laws_eqStringS.f k bt395.1 t359).bind fun t399 => (if t399 = true then (if bt395.2 = t362 then ((laws_heldStringS.f k t387 1).bind fun t400 => (if t400 < 0 then (some false) else (if t400 = t386 then (some true) else (some false)))) else (some false)) else (some false)))) = some r := H
         have A25 := zm A250
         clear A250
         replace H := Option.bind_eq_some_iff.mp H
         obtain ⟨⟨t395, t398⟩, A260, H⟩ := H
         replace H : ((laws_eqStringS.f k t395 t359).bind fun t399 => (if t399 = true then (if t398 = t362 then ((laws_heldStringS.f k t387 1).bind fun t400 => (if t400 < 0 then (some false) else (if t400 = t386 then (some true) else (some false)))) else (some false)) else (some false))) = some r := H
         have A26 := zm A260
         clear A260
         replace H := Option.bind_eq_some_iff.mp H
         obtain ⟨t399, A270, H⟩ := H
         replace H : (if t399 = true then (if t398 = t362 then ((laws_heldStringS.f k t387 1).bind fun t400 => (if t400 < 0 then (some false) else (if t400 = t386 then (some true) else (some false)))) else (some false)) else (some false)) = some r := H
         have A27 := zm A270
         clear A270
         by_cases c28 : t399 = true
         ·subst c28
          have H1 : (if t398 = t362 then ((laws_heldStringS.f k t387 1).bind fun t400 => (if t400 < 0 then (some false) else (if t400 = t386 then (some true) else (some false)))) else (some false)) = some r := by rw [if_pos rfl] at H; exact H
          clear H
          have H := H1
          clear H1
          by_cases c29 : t398 = t362
          ·rw [if_pos c29] at H
           have c29b0 : (t398 == t362) = true := beq_iff_eq.mpr c29
           have c29b1 : (t398 != t362) = false := bne_eq_false_iff_eq.mpr c29
           clear c29
           replace H := Option.bind_eq_some_iff.mp H
           obtain ⟨t400, A300, H⟩ := H
           replace H : (if t400 < 0 then (some false) else (if t400 = t386 then (some true) else (some false))) = some r := H
           have A30 := zm A300
           clear A300
           by_cases c31 : t400 < 0
           ·rw [if_pos c31] at H
            have c31b0 : decide (t400 < 0) = true := decide_eq_true c31
            clear c31
            exact absurd hr_.out (by rw [← Option.some.inj H]; decide)
           ·rw [if_neg c31] at H
            have c31b0 : decide (t400 < 0) = false := decide_eq_false c31
            clear c31
            by_cases c32 : t400 = t386
            ·rw [if_pos c32] at H
             have c32b0 : (t400 == t386) = true := beq_iff_eq.mpr c32
             have c32b1 : (t400 != t386) = false := bne_eq_false_iff_eq.mpr c32
             clear c32
             obtain rfl := Option.some.inj H
             go_enter Tryd.func7, Tryd.ntmps7
             try go_wp2_with (first | ((with_reducible refine gate_dst (N := 1) rfl ?_); refine box_event ?hg (N := 1) ?hd (cs := #[.slice A0_0 l0_0.length c0_0, .slice A0_1 l0_1.length c0_1]) (t := 49) ?hr ?_; (case hd => rfl); (case hg => rfl); (case hr => first | (go_simp; done) | (go_simp; rfl)); intro gb351 hg w33 hbox hb; have n0_ := zm (below_step (zg_0 HB.out) hb); have n1_ := zm (hbox); have n2_ := zm ((by rw [hg]; exact (below_size (zg_0 HB.out)) : w.heap.size ≤ gb351)); have n3_ := zm ((by rw [hg]; exact (below_size (zg_0 HB.out)) : w.heap.size ≤ gb351)); clear HB; have HB := n0_; have Za := n1_; have Zv := n2_; have Zf := n3_; clear n0_ n1_ n2_ n3_; clear hb hbox hg; have hcz34_0 : w33.cell? ⟨gb351, 0, none⟩ = some (.slice A0_0 l0_0.length c0_0) := (blk_cell Za.out 0).trans rfl; have hcz34_1 : w33.cell? ⟨gb351, 1, none⟩ = some (.slice A0_1 l0_1.length c0_1) := (blk_cell Za.out 1).trans rfl; have hfz34_0 := blk_frozen Za.out 0; have hfz34_1 := blk_frozen Za.out 1) | ((with_reducible refine gate_callee (f := 21) rfl ?_); refine goesL_ (some 16) rfl rfl Tryd.func21 (by kernel_rfl) rfl #[.agg #[.slice A0_0 l0_0.length c0_0, .slice A0_1 l0_1.length c0_1], .int .i64 1048576] rfl zq ?_; (with_reducible refine (laws_szGuest.calls k _ _ l0_0 _ _ l0_1 1048576 t352 _ ?side1 ?side2 ?side3 ?side4 A2.out).mono ?_); (case side1 => exact zC (Kd.C_below Zl.out HB.out)); (case side2 => exact Zm.out); (case side3 => exact zC (Kd.C_below Zn.out HB.out)); (case side4 => exact Zo.out); rintro e w35 ⟨rfl, hb⟩; refine ⟨_, rfl, ?_⟩; have n0_ := zm (blk_below (g := gb351) (o := .cells #[.slice A0_0 l0_0.length c0_0, .slice A0_1 l0_1.length c0_1] 49 (0, 0)) (zg_1 Za.out) hb); have n1_ := zm (below_step (zg_2 HB.out Zf.out) hb); clear Za; clear HB; have Za := n0_; have HB := n1_; clear n0_ n1_; (try clear hb); (try clear hb2); (try clear hk); (try clear hi); have hcz36_0 : w35.cell? ⟨gb351, 0, none⟩ = some (.slice A0_0 l0_0.length c0_0) := (blk_cell Za.out 0).trans rfl; have hcz36_1 : w35.cell? ⟨gb351, 1, none⟩ = some (.slice A0_1 l0_1.length c0_1) := (blk_cell Za.out 1).trans rfl; have hfz36_0 := blk_frozen Za.out 0; have hfz36_1 := blk_frozen Za.out 1) | ((with_reducible refine gate_callee (f := 23) rfl ?_); refine goesL_ (some 21) rfl rfl Tryd.func23 (by kernel_rfl) rfl #[.agg #[.slice A0_0 l0_0.length c0_0, .slice A0_1 l0_1.length c0_1]] rfl zq ?_; (with_reducible refine (laws_toGuest.calls k _ _ l0_0 _ _ l0_1 t353 t356 _ ?side1 ?side2 ?side3 ?side4 A7.out).mono ?_); (case side1 => exact zC (Kd.C_below Zl.out HB.out)); (case side2 => exact Zm.out); (case side3 => exact zC (Kd.C_below Zn.out HB.out)); (case side4 => exact Zo.out); rintro e w37 ⟨v354, v357, rfl, ho0, ho1, hb⟩; refine ⟨_, rfl, ?_⟩; have n0_ := zm (Kd.R_lower ho0 (below_size (zg_2 HB.out Zf.out))); have n1_ := zm (Kd.S_lower ho1 (below_size (zg_2 HB.out Zf.out))); have n2_ := zm (blk_below (g := gb351) (o := .cells #[.slice A0_0 l0_0.length c0_0, .slice A0_1 l0_1.length c0_1] 49 (0, 0)) (zg_1 Za.out) hb); have n3_ := zm (below_step (zg_2 HB.out Zf.out) hb); clear Za; clear HB; have Zp := n0_; have Zq := n1_; have Za := n2_; have HB := n3_; clear n0_ n1_ n2_ n3_; (try clear hb); (try clear hb2); (try clear hk); (try clear hi); (try clear ho0); (try clear ho1); obtain ⟨Ao38, co38, eo38⟩ := Kd.R_slice Zp.out; subst eo38; obtain ⟨Ao39, co39, eo39⟩ := Kd.S_slice Zq.out; subst eo39) | ((with_reducible refine gate_callee (f := 22) rfl ?_); refine goesL_ (some 22) rfl rfl Tryd.func22 (by kernel_rfl) rfl #[.agg #[.slice Ao38 t353.length co38, .slice Ao39 t356.length co39]] rfl zq ?_; (with_reducible refine (spec_GuestText.calls k _ _ t353 _ _ t356 t359 t362 _ ?side1 ?side2 ?side3 ?side4 A8.out).mono ?_); (case side1 => exact zC ((Kd.R_reads' Zp.out).2.2)); (case side2 => exact (Kd.R_reads' Zp.out).2.1); (case side3 => exact zC ((Kd.S_reads' Zq.out).2.2)); (case side4 => exact (Kd.S_reads' Zq.out).2.1); rintro e w40 ⟨v360, rfl, ho0, hb⟩; refine ⟨_, rfl, ?_⟩; have n0_ := zm (Kd.R_lower ho0 (below_size (zg_2 HB.out Zf.out))); have n1_ := zm (blk_below (g := gb351) (o := .cells #[.slice A0_0 l0_0.length c0_0, .slice A0_1 l0_1.length c0_1] 49 (0, 0)) (zg_1 Za.out) hb); have n2_ := zm (below_step (zg_2 HB.out Zf.out) hb); clear Za; clear HB; have Zd := n0_; have Za := n1_; have HB := n2_; clear n0_ n1_ n2_; (try clear hb); (try clear hb2); (try clear hk); (try clear hi); (try clear ho0); (try clear Zp); (try clear Zq); have hcz41_0 : w40.cell? ⟨gb351, 0, none⟩ = some (.slice A0_0 l0_0.length c0_0) := (blk_cell Za.out 0).trans rfl; have hcz41_1 : w40.cell? ⟨gb351, 1, none⟩ = some (.slice A0_1 l0_1.length c0_1) := (blk_cell Za.out 1).trans rfl; have hfz41_0 := blk_frozen Za.out 0; have hfz41_1 := blk_frozen Za.out 1) | ((with_reducible refine gate_callee (f := 23) rfl ?_); refine goesL_ (some 26) rfl rfl Tryd.func23 (by kernel_rfl) rfl #[.agg #[.slice A0_0 l0_0.length c0_0, .slice A0_1 l0_1.length c0_1]] rfl zq ?_; (with_reducible refine (laws_toGuest.calls k _ _ l0_0 _ _ l0_1 t363 t366 _ ?side1 ?side2 ?side3 ?side4 A9.out).mono ?_); (case side1 => exact zC (Kd.C_below Zl.out HB.out)); (case side2 => exact Zm.out); (case side3 => exact zC (Kd.C_below Zn.out HB.out)); (case side4 => exact Zo.out); rintro e w42 ⟨v364, v367, rfl, ho0, ho1, hb⟩; refine ⟨_, rfl, ?_⟩; have n0_ := zm (Kd.R_below (zg_3 Zd.out) hb); have n1_ := zm (Kd.R_lower ho0 (below_size (zg_2 HB.out Zf.out))); have n2_ := zm (Kd.S_lower ho1 (below_size (zg_2 HB.out Zf.out))); have n3_ := zm (blk_below (g := gb351) (o := .cells #[.slice A0_0 l0_0.length c0_0, .slice A0_1 l0_1.length c0_1] 49 (0, 0)) (zg_1 Za.out) hb); have n4_ := zm (below_step (zg_2 HB.out Zf.out) hb); clear Zd; clear Za; clear HB; have Zd := n0_; have Ze := n1_; have Zg := n2_; have Za := n3_; have HB := n4_; clear n0_ n1_ n2_ n3_ n4_; (try clear hb); (try clear hb2); (try clear hk); (try clear hi); (try clear ho0); (try clear ho1)) | ((with_reducible refine gate_dst (N := 6) rfl ?_); refine box_event ?hg (N := 6) ?hd (cs := #[.slice none 0 0, .slice none 0 0]) (t := 55) ?hr ?_; (case hd => rfl); (case hg => rfl); (case hr => first | (go_simp; done) | (go_simp; rfl)); intro gb369 hg w43 hbox hb; have n0_ := zm (Kd.R_below (zg_3 Zd.out) hb); have n1_ := zm (Kd.R_below (zg_3 Ze.out) hb); have n2_ := zm (Kd.S_below (zg_6 Zg.out) hb); have n3_ := zm (blk_below (g := gb351) (o := .cells #[.slice A0_0 l0_0.length c0_0, .slice A0_1 l0_1.length c0_1] 49 (0, 0)) (zg_1 Za.out) hb); have n4_ := zm (below_step (zg_2 HB.out Zf.out) hb); have n5_ := zm (hbox); have n6_ := zm ((by rw [hg]; exact (below_size (zg_2 HB.out Zf.out)) : w.heap.size ≤ gb369)); have n7_ := zm ((by rw [hg]; exact (below_size (zg_2 HB.out Zf.out)) : w.heap.size ≤ gb369)); have n8_ := zm ((by rw [hg]; exact Nat.ne_of_lt (blk_lt (g := gb351) (o := .cells #[.slice A0_0 l0_0.length c0_0, .slice A0_1 l0_1.length c0_1] 49 (0, 0)) (zg_1 Za.out)) : gb351 ≠ gb369)); have n9_ := zm ((by rw [hg]; exact Nat.ne_of_gt (blk_lt (g := gb351) (o := .cells #[.slice A0_0 l0_0.length c0_0, .slice A0_1 l0_1.length c0_1] 49 (0, 0)) (zg_1 Za.out)) : gb369 ≠ gb351)); clear Zd; clear Ze; clear Zg; clear Za; clear HB; have Zd := n0_; have Ze := n1_; have Zg := n2_; have Za := n3_; have HB := n4_; have Zb := n5_; have Zw := n6_; have Zh := n7_; have Zi := n8_; have Zu := n9_; clear n0_ n1_ n2_ n3_ n4_ n5_ n6_ n7_ n8_ n9_; clear hb hbox hg; obtain ⟨Ao44, co44, eo44⟩ := Kd.R_slice Ze.out; subst eo44; have hnb45 := Zu.out; have hnc45 := Zi.out; have hcz46_0 : w43.cell? ⟨gb369, 0, none⟩ = some (.slice none 0 0) := (blk_cell Zb.out 0).trans rfl; have hcz46_1 : w43.cell? ⟨gb369, 1, none⟩ = some (.slice none 0 0) := (blk_cell Zb.out 1).trans rfl; have hfz46_0 := blk_frozen Zb.out 0; have hfz46_1 := blk_frozen Zb.out 1; obtain ⟨Ao47, co47, eo47⟩ := Kd.S_slice Zg.out; subst eo47) | ((with_reducible refine gate_callee (f := 24) rfl ?_); refine goesL_ (some 29) rfl rfl Tryd.func24 (by kernel_rfl) rfl #[.agg #[.slice Ao44 t363.length co44, .slice Ao47 t366.length co47]] rfl zq ?_; (with_reducible refine (impl_GuestText.calls k _ _ t363 _ _ t366 t370 t373 _ ?side1 ?side2 ?side3 ?side4 A10.out).mono ?_); (case side1 => refine (Kd.R_reads' (e := 3) (base := w.heap.size) (ok := fun k_ => True) (n := t363.length) (c := co44) ?_).2.2; exact (by (with_reducible repeat (first | apply Kd.R_alloc | apply Kd.R_drewN | apply Kd.R_drew)); exact (Kd.R_mono (Kd.R_far (p := ⟨gb369, 1, none⟩) (Kd.R_far (p := ⟨gb369, 0, none⟩) (Kd.R_types Ze.out Zb.out (by decide)) (fun _ hk => hk.2) (.slice Ao44 t363.length co44)) (fun _ hk => hk.2) (.slice Ao47 t366.length co47)) (fun _ h_ => h_.1)))); (case side2 => exact (Kd.R_reads' Ze.out).2.1); (case side3 => refine (Kd.S_reads' (e := 102) (base := w.heap.size) (ok := fun k_ => some k_ ≠ (.slice Ao44 t363.length co44 : Value).ownBlock) (n := t366.length) (c := co47) ?_).2.2; exact (by (with_reducible repeat (first | apply Kd.S_alloc | apply Kd.S_drewN | apply Kd.S_drew)); exact (Kd.S_mono (Kd.S_far (p := ⟨gb369, 1, none⟩) (Kd.S_far (p := ⟨gb369, 0, none⟩) (Kd.S_types Zg.out Zb.out (by decide)) (fun _ hk => hk.2) (.slice Ao44 t363.length co44)) (fun _ hk => hk.2) (.slice Ao47 t366.length co47)) (fun _ h_ => h_.1)))); (case side4 => exact (Kd.S_reads' Zg.out).2.1); rintro e w48 ⟨v371, rfl, ho0, hb⟩; refine ⟨_, rfl, ?_⟩; have n0_ := zm (Kd.R_elder' (by (with_reducible repeat (first | apply Kd.R_alloc | apply Kd.R_drewN | apply Kd.R_drew)); exact (Kd.R_mono (Kd.R_far (p := ⟨gb369, 1, none⟩) (Kd.R_far (p := ⟨gb369, 0, none⟩) (Kd.R_types Zd.out Zb.out (by decide)) (fun _ hk => hk.2) (.slice Ao44 t363.length co44)) (fun _ hk => hk.2) (.slice Ao47 t366.length co47)) (fun _ h_ => h_.1))) (Kd.R_base ho0) hb); have n1_ := zm (Kd.R_below (by (with_reducible repeat (first | apply Kd.R_alloc | apply Kd.R_drewN | apply Kd.R_drew)); exact (Kd.R_mono (Kd.R_far (p := ⟨gb369, 1, none⟩) (Kd.R_far (p := ⟨gb369, 0, none⟩) (Kd.R_types Ze.out Zb.out (by decide)) (fun _ hk => hk.2) (.slice Ao44 t363.length co44)) (fun _ hk => hk.2) (.slice Ao47 t366.length co47)) (fun _ h_ => h_.1))) hb); have n2_ := zm (Kd.S_below (by (with_reducible repeat (first | apply Kd.S_alloc | apply Kd.S_drewN | apply Kd.S_drew)); exact (Kd.S_mono (Kd.S_far (p := ⟨gb369, 1, none⟩) (Kd.S_far (p := ⟨gb369, 0, none⟩) (Kd.S_types Zg.out Zb.out (by decide)) (fun _ hk => hk.2) (.slice Ao44 t363.length co44)) (fun _ hk => hk.2) (.slice Ao47 t366.length co47)) (fun _ h_ => h_.1))) hb); have n3_ := zm (Kd.R_lower (Kd.R_new' ho0 (Kd.R_lt (by (with_reducible repeat (first | apply Kd.R_alloc | apply Kd.R_drewN | apply Kd.R_drew)); exact (Kd.R_mono (Kd.R_far (p := ⟨gb369, 1, none⟩) (Kd.R_far (p := ⟨gb369, 0, none⟩) (Kd.R_types Zd.out Zb.out (by decide)) (fun _ hk => hk.2) (.slice Ao44 t363.length co44)) (fun _ hk => hk.2) (.slice Ao47 t366.length co47)) (fun _ h_ => h_.1))))) (below_size (zg_4 HB.out Zf.out Zh.out))); have n4_ := zm (blk_below (g := gb351) (o := .cells #[.slice A0_0 l0_0.length c0_0, .slice A0_1 l0_1.length c0_1] 49 (0, 0)) (by (with_reducible repeat (first | refine blk_drewN ?_ _ | refine blk_drew ?_ | refine blk_alloc ?_ _)); refine blk_far ?_ Zi.out _; (with_reducible repeat (first | refine blk_drewN ?_ _ | refine blk_drew ?_ | refine blk_alloc ?_ _)); refine blk_far ?_ Zi.out _; (with_reducible repeat (first | refine blk_drewN ?_ _ | refine blk_drew ?_ | refine blk_alloc ?_ _)); exact Za.out) hb); have n5_ := zm (blk_below (g := gb369) (o := .cells #[.slice Ao44 t363.length co44, .slice Ao47 t366.length co47] 55 (0, 0)) (by (with_reducible repeat (first | refine blk_drewN ?_ _ | refine blk_drew ?_ | refine blk_alloc ?_ _)); refine blk_put (cs := #[.slice Ao44 t363.length co44, .slice none 0 0]) ?_ 1 _ rfl; (with_reducible repeat (first | refine blk_drewN ?_ _ | refine blk_drew ?_ | refine blk_alloc ?_ _)); refine blk_put (cs := #[.slice none 0 0, .slice none 0 0]) ?_ 0 _ rfl; (with_reducible repeat (first | refine blk_drewN ?_ _ | refine blk_drew ?_ | refine blk_alloc ?_ _)); exact Zb.out) hb); have n6_ := zm (below_step (zg_4 HB.out Zf.out Zh.out) hb); clear Zd; clear Ze; clear Zg; clear Za; clear Zb; clear HB; have Zd := n0_; have Ze := n1_; have Zg := n2_; have Zc := n3_; have Za := n4_; have Zb := n5_; have HB := n6_; clear n0_ n1_ n2_ n3_ n4_ n5_ n6_; (try clear hb); (try clear hb2); (try clear hk); (try clear hi); (try clear ho0); obtain ⟨Ao49, co49, eo49⟩ := Kd.R_slice Zc.out; subst eo49; obtain ⟨Ao50, co50, eo50⟩ := Kd.R_slice Zd.out; subst eo50) | ((with_reducible refine gate_callee (f := 25) rfl ?_); refine goesL_ (some 34) rfl rfl Tryd.func25 (by kernel_rfl) rfl #[.slice Ao49 t370.length co49, .slice Ao50 t359.length co50] rfl zq ?_; (with_reducible refine (laws_eqStringS.calls k _ _ t370 _ _ t359 true _ ?side1 ?side2 ?side3 ?side4 A11.out).mono ?_); (case side1 => exact zC ((Kd.R_reads' Zc.out).2.2)); (case side2 => exact (Kd.R_reads' Zc.out).2.1); (case side3 => exact zC ((Kd.R_reads' Zd.out).2.2)); (case side4 => exact (Kd.R_reads' Zd.out).2.1); rintro e w' ⟨rfl, ⟨nd, rfl⟩⟩; refine ⟨_, rfl, ?_⟩))
             (try (rw [drewN_self w48]; generalize hq_ : World.drewN w48 _ = w48; have n0_ : Aside0 (Kd.R Kd.string 9 w48 w.heap.size (fun k_ => some k_ ≠ (.slice Ao49 t370.length co49 : Value).ownBlock) (.slice Ao50 t359.length co50) t359) := ⟨by rw [← hq_]; exact (by (with_reducible repeat (first | apply Kd.R_alloc | apply Kd.R_drewN | apply Kd.R_drew)); exact Kd.R_mono Zd.out (fun _ hk => hk.2))⟩; have n1_ : Aside0 (Kd.R (Kd.int .i64) 3 w48 w.heap.size (fun _ => True) (.slice Ao44 t363.length co44) t363) := ⟨by rw [← hq_]; exact (zg_3 Ze.out)⟩; have n2_ : Aside0 (Kd.S k102 102 w48 w.heap.size (fun k_ => some k_ ≠ (.slice Ao44 t363.length co44 : Value).ownBlock) (.slice Ao47 t366.length co47) t366) := ⟨by rw [← hq_]; exact (zg_6 Zg.out)⟩; have n3_ : Aside0 (Kd.R Kd.string 9 w48 w.heap.size (fun k_ => some k_ ≠ (.slice Ao50 t359.length co50 : Value).ownBlock) (.slice Ao49 t370.length co49) t370) := ⟨by rw [← hq_]; exact (by (with_reducible repeat (first | apply Kd.R_alloc | apply Kd.R_drewN | apply Kd.R_drew)); exact Kd.R_mono Zc.out (fun _ hk => hk.2))⟩; have n4_ : Aside0 (w48.heap[gb351]? = some (.cells #[.slice A0_0 l0_0.length c0_0, .slice A0_1 l0_1.length c0_1] 49 (0, 0))) := ⟨by rw [← hq_]; exact (zg_1 Za.out)⟩; have n5_ : Aside0 (w48.heap[gb369]? = some (.cells #[.slice Ao44 t363.length co44, .slice Ao47 t366.length co47] 55 (0, 0))) := ⟨by rw [← hq_]; exact (zg_1 Zb.out)⟩; have n6_ : Aside0 (Below w.heap.size w w48) := ⟨by rw [← hq_]; exact (zg_4 HB.out Zf.out Zh.out)⟩; clear Zd Ze Zg Zc Za Zb HB hq_; have Zd := n0_; have Ze := n1_; have Zg := n2_; have Zc := n3_; have Za := n4_; have Zb := n5_; have HB := n6_; clear n0_ n1_ n2_ n3_ n4_ n5_ n6_))
             have n0_ := zm (Kd.R_drew Zd.out)
             have n1_ := zm (Kd.R_drew Ze.out)
             have n2_ := zm (Kd.S_drew Zg.out)
             have n3_ := zm (Kd.R_drew Zc.out)
             have n4_ := zm (blk_drew Za.out)
             have n5_ := zm (blk_drew Zb.out)
             have n6_ := zm (below_drew1 HB.out)
             clear Zd
             clear Ze
             clear Zg
             clear Zc
             clear Za
             clear Zb
             clear HB
             have Zd := n0_
             have Ze := n1_
             have Zg := n2_
             have Zc := n3_
             have Za := n4_
             have Zb := n5_
             have HB := n6_
             clear n0_ n1_ n2_ n3_ n4_ n5_ n6_
             refine start_ (n := 5) (S := fun w' => w'.cell? ⟨gb369, 0, none⟩ = some (.slice Ao44 t363.length co44) ∧ w'.cell? ⟨gb369, 1, none⟩ = some (.slice Ao47 t366.length co47) ∧ w'.cell? ⟨gb351, 0, none⟩ = some (.slice A0_0 l0_0.length c0_0) ∧ w'.cell? ⟨gb351, 1, none⟩ = some (.slice A0_1 l0_1.length c0_1)) (ds := []) #[false, false, false, false, false] (by kernel_rfl) rfl rfl ⟨(blk_cell Zb.out 0).trans rfl, (blk_cell Zb.out 1).trans rfl, (blk_cell Za.out 0).trans rfl, (blk_cell Za.out 1).trans rfl⟩ (fun hHeld => ?_)
             generalize w48.drew = w51 at Zd Ze Zg Zc Za Zb HB hHeld ⊢
             refine take_ (i := 0) (N := some 41) (v := ?_) (a' := ?_) #[true, false, false, false, false] rfl rfl (by kernel_rfl) (fun _ _ _ h => h) (Or.inl ⟨by rfl, ?_⟩) hHeld ?_ ?_
             rotate_left
             ·rintro w' ⟨s0, s1, s2, s3⟩
              go_simp
              with_reducible rfl
             rotate_left
             ·simp only [Act.put, zs, zz, zt, i64_w, i32_w]
              rfl
             refine take_ (i := 1) (N := some 42) (v := ?_) (a' := ?_) #[true, true, false, false, false] rfl rfl (by kernel_rfl) (fun _ _ _ h => h) (Or.inl ⟨by rfl, ?_⟩) hHeld ?_ ?_
             rotate_left
             ·rintro w' ⟨s0, s1, s2, s3⟩
              go_simp
              with_reducible rfl
             rotate_left
             ·simp only [Act.put, zs, zz, zt, i64_w, i32_w]
              rfl
             refine one_ (i := 2) (N := some 43) #[true, true, true, false, false] rfl rfl (by kernel_rfl) (by decide) (fun K hK => ?_)
             refine goes_ Tryd.func23 (by kernel_rfl) rfl #[.agg #[.slice A0_0 l0_0.length c0_0, .slice A0_1 l0_1.length c0_1]] (by rfl) rfl rfl zq ?_
             with_reducible refine (laws_toGuest.calls k _ _ l0_0 _ _ l0_1 t375 t378 _ ?side1 ?side2 ?side3 ?side4 A14.out).mono ?_
             (case side1 => exact zC (Kd.C_below Zl.out HB.out))
             (case side2 => exact Zm.out)
             (case side3 => exact zC (Kd.C_below Zn.out HB.out))
             (case side4 => exact Zo.out)
             rintro e w52 ⟨v376, v379, rfl, ho0, ho1, hb⟩
             refine ⟨_, rfl, ?_⟩
             obtain ⟨sz53, hsz53⟩ := (show ∀ {W_ w2_ : World}, Below W_.heap.size W_ w2_ → ∃ s_ : Nat, s_ = W_.heap.size from fun _ => ⟨_, rfl⟩) hb
             have n0_ := zm (Kd.R_below (zg_3 Zd.out) hb)
             have n1_ := zm (Kd.R_elder' (zg_3 Ze.out) (Kd.R_base ho0) hb)
             have n2_ := zm (Kd.S_mono (Kd.S_told (Kd.S_told (Kd.S_old (Kd.S_mono (Kd.S_bound (zg_6 Zg.out)) (fun k_ h_ => And.intro h_.1 (show k_ < sz53 from (by rw [hsz53]; exact h_.2.2.1)))) hb) (Kd.R_base ho0)) (Kd.S_base ho1)) (fun _ h_ => h_.1))
             have n3_ := zm (Kd.R_below (zg_3 Zc.out) hb)
             have n4_ := zm (Kd.R_lower (Kd.R_new' ho0 (Kd.R_lt (zg_3 Ze.out))) (below_size (zg_4 HB.out Zf.out Zh.out)))
             have n5_ := zm (Kd.S_lower (Kd.S_new' (Kd.S_new' (Kd.S_mono (Kd.S_bound ho1) (fun k_ h_ => And.intro h_.1 (show sz53 ≤ k_ from (by rw [hsz53]; exact h_.2.1)))) (Kd.R_lt (zg_3 Ze.out))) (Kd.S_lt (zg_6 Zg.out))) (below_size (zg_4 HB.out Zf.out Zh.out)))
             have n6_ := zm (blk_below (g := gb351) (o := .cells #[.slice A0_0 l0_0.length c0_0, .slice A0_1 l0_1.length c0_1] 49 (0, 0)) (zg_1 Za.out) hb)
             have n7_ := zm (blk_below (g := gb369) (o := .cells #[.slice Ao44 t363.length co44, .slice Ao47 t366.length co47] 55 (0, 0)) (zg_1 Zb.out) hb)
             have n8_ := zm (below_step (zg_4 HB.out Zf.out Zh.out) hb)
             clear Zd
             clear Ze
             clear Zg
             clear Zc
             clear Za
             clear Zb
             clear HB
             have Zd := n0_
             have Ze := n1_
             have Zg := n2_
             have Zc := n3_
             have Zj := n4_
             have Zk := n5_
             have Za := n6_
             have Zb := n7_
             have HB := n8_
             clear n0_ n1_ n2_ n3_ n4_ n5_ n6_ n7_ n8_
             (try clear hb)
             (try clear hb2)
             (try clear hk)
             (try clear hi)
             (try clear ho0)
             (try clear ho1)
             obtain ⟨Ao54, co54, eo54⟩ := Kd.R_slice Zj.out
             (first | subst eo54 | (injection eo54 with f1_ f2_ f3_; have f4_ := f1_.symm; have f5_ := f3_.symm; clear f1_ f2_ f3_; subst f4_; subst f5_))
             obtain ⟨Ao55, co55, eo55⟩ := Kd.S_slice Zk.out
             (first | subst eo55 | (injection eo55 with f1_ f2_ f3_; have f4_ := f1_.symm; have f5_ := f3_.symm; clear f1_ f2_ f3_; subst f4_; subst f5_))
             refine hK.out _ _ ⟨(blk_cell Zb.out 0).trans rfl, (blk_cell Zb.out 1).trans rfl, (blk_cell Za.out 0).trans rfl, (blk_cell Za.out 1).trans rfl⟩ (fun hHeld => ?_)
             clear hK K
             refine norm_ (a' := ?_) ?_ ?_
             rotate_left
             ·show Act.put _ (some 43) _ = _
              simp only [Act.put, zs, zz, zt, i64_w, i32_w]
              rfl
             refine one_ (i := 3) (N := some 44) #[true, true, true, true, false] rfl rfl (by kernel_rfl) (by decide) (fun K hK => ?_)
             refine goes_ Tryd.func26 (by kernel_rfl) rfl #[.agg #[.slice Ao44 t363.length co44, .slice Ao47 t366.length co47], .agg #[.slice Ao54 t375.length co54, .slice Ao55 t378.length co55]] (by rfl) rfl rfl zq ?_
             with_reducible refine (laws_eqGuest.calls k _ _ t363 _ _ t366 _ _ t375 _ _ t378 true _ ?side1 ?side2 ?side3 ?side4 ?side5 ?side6 ?side7 ?side8 A15.out).mono ?_
             (case side1 => exact zC ((Kd.R_reads' Ze.out).2.2))
             (case side2 => exact (Kd.R_reads' Ze.out).2.1)
             (case side3 => exact zC ((Kd.S_reads' Zg.out).2.2))
             (case side4 => exact (Kd.S_reads' Zg.out).2.1)
             (case side5 => exact zC ((Kd.R_reads' Zj.out).2.2))
             (case side6 => exact (Kd.R_reads' Zj.out).2.1)
             (case side7 => exact zC ((Kd.S_reads' Zk.out).2.2))
             (case side8 => exact (Kd.S_reads' Zk.out).2.1)
             rintro e w56 ⟨rfl, hb⟩
             refine ⟨_, rfl, ?_⟩
             have n0_ := zm (Kd.R_below (zg_3 Zd.out) hb)
             have n1_ := zm (Kd.R_below (zg_3 Ze.out) hb)
             have n2_ := zm (Kd.S_below (zg_6 Zg.out) hb)
             have n3_ := zm (Kd.R_below (zg_3 Zc.out) hb)
             have n4_ := zm (Kd.R_below (zg_3 Zj.out) hb)
             have n5_ := zm (Kd.S_below (zg_6 Zk.out) hb)
             have n6_ := zm (blk_below (g := gb351) (o := .cells #[.slice A0_0 l0_0.length c0_0, .slice A0_1 l0_1.length c0_1] 49 (0, 0)) (zg_1 Za.out) hb)
             have n7_ := zm (blk_below (g := gb369) (o := .cells #[.slice Ao44 t363.length co44, .slice Ao47 t366.length co47] 55 (0, 0)) (zg_1 Zb.out) hb)
             have n8_ := zm (below_step (zg_4 HB.out Zf.out Zh.out) hb)
             clear Zd
             clear Ze
             clear Zg
             clear Zc
             clear Zj
             clear Zk
             clear Za
             clear Zb
             clear HB
             have Zd := n0_
             have Ze := n1_
             have Zg := n2_
             have Zc := n3_
             have Zj := n4_
             have Zk := n5_
             have Za := n6_
             have Zb := n7_
             have HB := n8_
             clear n0_ n1_ n2_ n3_ n4_ n5_ n6_ n7_ n8_
             (try clear hb)
             (try clear hb2)
             (try clear hk)
             (try clear hi)
             refine hK.out _ _ ⟨(blk_cell Zb.out 0).trans rfl, (blk_cell Zb.out 1).trans rfl, (blk_cell Za.out 0).trans rfl, (blk_cell Za.out 1).trans rfl⟩ (fun hHeld => ?_)
             clear hK K
             refine norm_ (a' := ?_) ?_ ?_
             rotate_left
             ·show Act.put _ (some 44) _ = _
              simp only [Act.put, zs, zz, zt, i64_w, i32_w]
              rfl
             refine pure_ (i := 4) (N := some 45) (v := ?_) (a' := ?_) #[true, true, true, true, true] rfl rfl (by kernel_rfl) (fun _ _ _ h => h) (Or.inl ⟨by rfl, ?_⟩) ?_ ?_
             rotate_left
             ·intro w'
              go_simp
              with_reducible rfl
             rotate_left
             ·simp only [Act.put, zs, zz, zt, i64_w, i32_w]
              rfl
             refine done_ (by kernel_rfl) ?_
             have hcz57_0 : w56.cell? ⟨gb369, 0, none⟩ = some (.slice Ao44 t363.length co44) := (blk_cell Zb.out 0).trans rfl
             have hcz57_1 : w56.cell? ⟨gb369, 1, none⟩ = some (.slice Ao47 t366.length co47) := (blk_cell Zb.out 1).trans rfl
             have hfz57_0 := blk_frozen Zb.out 0
             have hfz57_1 := blk_frozen Zb.out 1
             clear Zj Zk
             have n_ := zm (Kd.R_mono (ok' := (fun k_ => some k_ ≠ (.slice Ao49 t370.length co49 : Value).ownBlock)) Zd.out (fun k_ hk => by first | exact hk.2 | exact hk))
             clear Zd
             have Zd := n_
             clear n_
             have n_ := zm (Kd.R_mono (ok' := (fun _ => True)) Ze.out (fun k_ hk => trivial))
             clear Ze
             have Ze := n_
             clear n_
             have n_ := zm (Kd.S_mono (ok' := (fun k_ => some k_ ≠ (.slice Ao44 t363.length co44 : Value).ownBlock ∧ k_ < sz53)) Zg.out (fun k_ hk => ⟨hk.1.1.1, hk.1.1.2⟩))
             clear Zg
             have Zg := n_
             clear n_
             have n_ := zm (Kd.R_mono (ok' := (fun k_ => some k_ ≠ (.slice Ao50 t359.length co50 : Value).ownBlock)) Zc.out (fun k_ hk => by first | exact hk.2 | exact hk))
             clear Zc
             have Zc := n_
             clear n_
             try go_wp2_with (first | ((with_reducible refine gate_callee (f := 27) rfl ?_); refine goesL_ (some 48) rfl rfl Tryd.func27 (by kernel_rfl) rfl #[.agg #[.slice Ao44 t363.length co44, .slice Ao47 t366.length co47], .int .i64 1] rfl zq ?_; (with_reducible refine (laws_markGuest.calls k (fun k_ => some k_ = (.slice Ao44 t363.length co44 : Value).ownBlock) (.slice Ao44 t363.length co44) t363 (fun k_ => ((some k_ ≠ (.slice Ao44 t363.length co44 : Value).ownBlock ∧ k_ < sz53)) ∧ ∃ q_, q_ ∈ (102 :: (k102).E) ∧ ∃ cs_, w56.heap[k_]? = some (.cells cs_ q_ (0, 0))) (.slice Ao47 t366.length co47) t366 1 t382 t383 t384 w _ ?side1 ?side2 ?side3 ?side4 ?side5 A17.out).mono ?_); (case side1 => repeat (first | (with_reducible first | exact HB.out | apply below_alloc | apply pw_below_drewN | apply below_drew1 | refine below_set ?_ Zf.out | refine below_set ?_ Zh.out) | exact HB.out)); (case side2 => exact Kd.R_tight rfl Ze.out); (case side3 => exact fun k_ e_ hP_ => (hP_.1.1) e_); (case side4 => exact Kd.S_mono (Kd.S_bound (Zg.out)) (fun k_ h_ => ⟨h_.1, h_.2.2.2⟩)); (case side5 => exact fun k_ hP_ e_ => (hP_.1.1) e_); rintro e w58 ⟨rfl, hy0, hy1, hb, hkp⟩; refine ⟨_, rfl, ?_⟩; have n0_ := zm (blk_kept (zg_1 Za.out) hkp (fun hs_ => Or.elim hs_ (fun e_ => (fun e_ => (Kd.R_ne Ze.out Za.out (by decide)) e_) e_) (fun e_ => (fun hP_ => (by obtain ⟨_, q_, hq_, cs_, hc_⟩ := hP_; have hb_ := Za.out; rw [hb_] at hc_; injection hc_ with hc_; injection hc_ with _ h2_; rw [← h2_] at hq_; exact absurd hq_ (by decide))) e_))); have n1_ := zm (Kd.R_mono (ok' := fun k_ => some k_ ≠ (.slice Ao49 t370.length co49 : Value).ownBlock) (Kd.R_keptB ((Kd.R_mono (ok' := fun k_ => (some k_ ≠ (.slice Ao49 t370.length co49 : Value).ownBlock ∧ some k_ ≠ (.slice Ao44 t363.length co44 : Value).ownBlock) ∧ ¬ (((some k_ ≠ (.slice Ao44 t363.length co44 : Value).ownBlock ∧ k_ < sz53)) ∧ ∃ q_, q_ ∈ (102 :: (k102).E) ∧ ∃ cs_, w56.heap[k_]? = some (.cells cs_ q_ (0, 0)))) (Kd.R_tight2 rfl (Kd.R_apart' Zd.out (Kd.R_typed Ze.out) (by decide))) (fun k_ hk => ⟨hk.2, fun hP_ => (by obtain ⟨_, q_, hq_, cs_, hc_⟩ := hP_; obtain ⟨c2_, h2_⟩ := Kd.R_typed ((Kd.R_apart' Zd.out (Kd.R_typed Ze.out) (by decide))) _ hk.1.symm; rw [h2_] at hc_; injection hc_ with hc_; injection hc_ with _ h3_; rw [← h3_] at hq_; exact absurd hq_ (by decide))⟩))) hkp (fun k_ hk_ hs_ => Or.elim hs_ (fun e_ => (hk_.1.2) e_) (fun e_ => (hk_.2) e_))) (fun k_ hk_ => hk_.1.1.1)); have n2_ := zm (blk_kept (zg_1 Zb.out) hkp (fun hs_ => Or.elim hs_ (fun e_ => (fun e_ => (Kd.R_ne Ze.out Zb.out (by decide)) e_) e_) (fun e_ => (fun hP_ => (by obtain ⟨_, q_, hq_, cs_, hc_⟩ := hP_; have hb_ := Zb.out; rw [hb_] at hc_; injection hc_ with hc_; injection hc_ with _ h2_; rw [← h2_] at hq_; exact absurd hq_ (by decide))) e_))); have n3_ := zm (Kd.R_mono (ok' := fun k_ => some k_ ≠ (.slice Ao50 t359.length co50 : Value).ownBlock) (Kd.R_keptB ((Kd.R_mono (ok' := fun k_ => (some k_ ≠ (.slice Ao50 t359.length co50 : Value).ownBlock ∧ some k_ ≠ (.slice Ao44 t363.length co44 : Value).ownBlock) ∧ ¬ (((some k_ ≠ (.slice Ao44 t363.length co44 : Value).ownBlock ∧ k_ < sz53)) ∧ ∃ q_, q_ ∈ (102 :: (k102).E) ∧ ∃ cs_, w56.heap[k_]? = some (.cells cs_ q_ (0, 0)))) (Kd.R_tight2 rfl (Kd.R_apart' Zc.out (Kd.R_typed Ze.out) (by decide))) (fun k_ hk => ⟨hk.2, fun hP_ => (by obtain ⟨_, q_, hq_, cs_, hc_⟩ := hP_; obtain ⟨c2_, h2_⟩ := Kd.R_typed ((Kd.R_apart' Zc.out (Kd.R_typed Ze.out) (by decide))) _ hk.1.symm; rw [h2_] at hc_; injection hc_ with hc_; injection hc_ with _ h3_; rw [← h3_] at hq_; exact absurd hq_ (by decide))⟩))) hkp (fun k_ hk_ hs_ => Or.elim hs_ (fun e_ => (hk_.1.2) e_) (fun e_ => (hk_.2) e_))) (fun k_ hk_ => hk_.1.1.1)); have n4_ := zm (hb); clear Za; clear Zd; clear Zb; clear Zc; clear HB; clear Ze; clear Zg; have Za := n0_; have Zd := n1_; have Zb := n2_; have Zc := n3_; have HB := n4_; clear n0_ n1_ n2_ n3_ n4_; (try clear hb); (try clear hkp); (try clear hy0); (try clear hy1)) | (go_at_call 25; (with_reducible refine (laws_eqStringS.calls k _ _ t370 _ _ t359 true _ ?side1 ?side2 ?side3 ?side4 A19.out).mono ?_); (case side1 => exact zC ((Kd.R_reads' Zc.out).2.2)); (case side2 => exact (Kd.R_reads' Zc.out).2.1); (case side3 => exact zC ((Kd.R_reads' Zd.out).2.2)); (case side4 => exact (Kd.R_reads' Zd.out).2.1); rintro e w' ⟨rfl, ⟨nd, rfl⟩⟩) | ((with_reducible refine gate_callee (f := 28) rfl ?_); refine goesL_ (some 64) rfl rfl Tryd.func28 (by kernel_rfl) rfl #[.slice Ao49 t370.length co49, .int .i64 1] rfl zq ?_; (with_reducible refine (laws_markStringS.calls k (fun k_ => some k_ = (.slice Ao49 t370.length co49 : Value).ownBlock) (.slice Ao49 t370.length co49) t370 1 t386 t387 w _ ?side1 ?side2 A21.out).mono ?_); (case side1 => repeat (first | (with_reducible first | exact HB.out | apply below_alloc | apply pw_below_drewN | apply below_drew1 | refine below_set ?_ Zf.out | refine below_set ?_ Zh.out) | exact HB.out)); (case side2 => exact Kd.R_tight rfl Zc.out); rintro e w59 ⟨rfl, hy0, hb, hkp⟩; refine ⟨_, rfl, ?_⟩; have n0_ := zm (blk_kept (zg_1 Za.out) hkp (fun hs_ => (fun e_ => (Kd.R_ne Zc.out Za.out (by decide)) e_) hs_)); have n1_ := zm (Kd.R_mono (ok' := fun k_ => some k_ ≠ (.slice Ao49 t370.length co49 : Value).ownBlock) (Kd.R_keptB (Zd.out) hkp (fun k_ hk_ hs_ => (hk_) hs_)) (fun k_ hk_ => hk_.1)); have n2_ := zm (blk_kept (zg_1 Zb.out) hkp (fun hs_ => (fun e_ => (Kd.R_ne Zc.out Zb.out (by decide)) e_) hs_)); have n3_ := zm (Kd.R_reok rfl hy0 (fun k_ e_ => Zc.out.1 k_ e_)); have n4_ := zm (hb); clear Za; clear Zd; clear Zb; clear Zc; clear HB; have Za := n0_; have Zd := n1_; have Zb := n2_; have Zc := n3_; have HB := n4_; clear n0_ n1_ n2_ n3_ n4_; (try clear hb); (try clear hkp); (try clear hy0)) | ((with_reducible refine gate_callee (f := 29) rfl ?_); refine goesL_ (some 67) rfl rfl Tryd.func29 (by kernel_rfl) rfl #[.slice Ao49 t387.length co49, .int .i64 1] rfl (by (try simp only [List.map_toArray, List.map_cons, List.map_nil]); first | done | (rw [show t387.length = t370.length from (Kd.R_reads' Zc.out).1.symm] <;> rfl) | rfl | (simp only [List.length_drop, List.length_take]; rfl)) ?_; (with_reducible refine (laws_heldStringS.calls k _ _ t387 1 t388 _ ?side1 ?side2 A22.out).mono ?_); (case side1 => exact zC ((Kd.R_reads' Zc.out).2.2)); (case side2 => rw [show t387.length = t370.length from (Kd.R_reads' Zc.out).1.symm]; exact (Kd.R_reads' Zc.out).2.1); rintro e w60 ⟨rfl, hb⟩; refine ⟨_, rfl, ?_⟩; have n0_ := zm (Kd.R_below (zg_3 Zd.out) hb); have n1_ := zm (Kd.R_below (zg_3 Zc.out) hb); have n2_ := zm (blk_below (g := gb351) (o := .cells #[.slice A0_0 l0_0.length c0_0, .slice A0_1 l0_1.length c0_1] 49 (0, 0)) (zg_1 Za.out) hb); have n3_ := zm (blk_below (g := gb369) (o := .cells #[.slice Ao44 t363.length co44, .slice Ao47 t366.length co47] 55 (0, 0)) (zg_1 Zb.out) hb); have n4_ := zm (below_step (zg_4 HB.out Zf.out Zh.out) hb); clear Zd; clear Zc; clear Za; clear Zb; clear HB; have Zd := n0_; have Zc := n1_; have Za := n2_; have Zb := n3_; have HB := n4_; clear n0_ n1_ n2_ n3_ n4_; (try clear hb); (try clear hb2); (try clear hk); (try clear hi); have hcz61_0 : w60.cell? ⟨gb351, 0, none⟩ = some (.slice A0_0 l0_0.length c0_0) := (blk_cell Za.out 0).trans rfl; have hcz61_1 : w60.cell? ⟨gb351, 1, none⟩ = some (.slice A0_1 l0_1.length c0_1) := (blk_cell Za.out 1).trans rfl; have hfz61_0 := blk_frozen Za.out 0; have hfz61_1 := blk_frozen Za.out 1) | ((with_reducible refine gate_callee (f := 23) rfl ?_); refine goesL_ (some 75) rfl rfl Tryd.func23 (by kernel_rfl) rfl #[.agg #[.slice A0_0 l0_0.length c0_0, .slice A0_1 l0_1.length c0_1]] rfl zq ?_; (with_reducible refine (laws_toGuest.calls k _ _ l0_0 _ _ l0_1 t389 t392 _ ?side1 ?side2 ?side3 ?side4 A25.out).mono ?_); (case side1 => exact zC (Kd.C_below Zl.out HB.out)); (case side2 => exact Zm.out); (case side3 => exact zC (Kd.C_below Zn.out HB.out)); (case side4 => exact Zo.out); rintro e w62 ⟨v390, v393, rfl, ho0, ho1, hb⟩; refine ⟨_, rfl, ?_⟩; have n0_ := zm (Kd.R_below (zg_3 Zd.out) hb); have n1_ := zm (Kd.R_below (zg_3 Zc.out) hb); have n2_ := zm (Kd.R_lower ho0 (below_size (zg_4 HB.out Zf.out Zh.out))); have n3_ := zm (Kd.S_lower ho1 (below_size (zg_4 HB.out Zf.out Zh.out))); have n4_ := zm (blk_below (g := gb351) (o := .cells #[.slice A0_0 l0_0.length c0_0, .slice A0_1 l0_1.length c0_1] 49 (0, 0)) (zg_1 Za.out) hb); have n5_ := zm (blk_below (g := gb369) (o := .cells #[.slice Ao44 t363.length co44, .slice Ao47 t366.length co47] 55 (0, 0)) (zg_1 Zb.out) hb); have n6_ := zm (below_step (zg_4 HB.out Zf.out Zh.out) hb); clear Zd; clear Zc; clear Za; clear Zb; clear HB; have Zd := n0_; have Zc := n1_; have Zr := n2_; have Zs := n3_; have Za := n4_; have Zb := n5_; have HB := n6_; clear n0_ n1_ n2_ n3_ n4_ n5_ n6_; (try clear hb); (try clear hb2); (try clear hk); (try clear hi); (try clear ho0); (try clear ho1); obtain ⟨Ao63, co63, eo63⟩ := Kd.R_slice Zr.out; subst eo63; obtain ⟨Ao64, co64, eo64⟩ := Kd.S_slice Zs.out; subst eo64) | ((with_reducible refine gate_callee (f := 24) rfl ?_); refine goesL_ (some 76) rfl rfl Tryd.func24 (by kernel_rfl) rfl #[.agg #[.slice Ao63 t389.length co63, .slice Ao64 t392.length co64]] rfl zq ?_; (with_reducible refine (impl_GuestText.calls k _ _ t389 _ _ t392 t395 t398 _ ?side1 ?side2 ?side3 ?side4 A26.out).mono ?_); (case side1 => exact zC ((Kd.R_reads' Zr.out).2.2)); (case side2 => exact (Kd.R_reads' Zr.out).2.1); (case side3 => exact zC ((Kd.S_reads' Zs.out).2.2)); (case side4 => exact (Kd.S_reads' Zs.out).2.1); rintro e w65 ⟨v396, rfl, ho0, hb⟩; refine ⟨_, rfl, ?_⟩; have n0_ := zm (Kd.R_elder' (zg_3 Zd.out) (Kd.R_base ho0) hb); have n1_ := zm (Kd.R_elder' (zg_3 Zc.out) (Kd.R_base ho0) hb); have n2_ := zm (Kd.R_lower (Kd.R_new' (Kd.R_new' ho0 (Kd.R_lt (zg_3 Zd.out))) (Kd.R_lt (zg_3 Zc.out))) (below_size (zg_4 HB.out Zf.out Zh.out))); have n3_ := zm (blk_below (g := gb351) (o := .cells #[.slice A0_0 l0_0.length c0_0, .slice A0_1 l0_1.length c0_1] 49 (0, 0)) (zg_1 Za.out) hb); have n4_ := zm (blk_below (g := gb369) (o := .cells #[.slice Ao44 t363.length co44, .slice Ao47 t366.length co47] 55 (0, 0)) (zg_1 Zb.out) hb); have n5_ := zm (below_step (zg_4 HB.out Zf.out Zh.out) hb); clear Zd; clear Zc; clear Za; clear Zb; clear HB; have Zd := n0_; have Zc := n1_; have Zt := n2_; have Za := n3_; have Zb := n4_; have HB := n5_; clear n0_ n1_ n2_ n3_ n4_ n5_; (try clear hb); (try clear hb2); (try clear hk); (try clear hi); (try clear ho0); (try clear Zr); (try clear Zs); obtain ⟨Ao66, co66, eo66⟩ := Kd.R_slice Zt.out; subst eo66) | ((with_reducible refine gate_callee (f := 25) rfl ?_); refine goesL_ (some 81) rfl rfl Tryd.func25 (by kernel_rfl) rfl #[.slice Ao66 t395.length co66, .slice Ao50 t359.length co50] rfl zq ?_; (with_reducible refine (laws_eqStringS.calls k _ _ t395 _ _ t359 true _ ?side1 ?side2 ?side3 ?side4 A27.out).mono ?_); (case side1 => exact zC ((Kd.R_reads' Zt.out).2.2)); (case side2 => exact (Kd.R_reads' Zt.out).2.1); (case side3 => exact zC ((Kd.R_reads' Zd.out).2.2)); (case side4 => exact (Kd.R_reads' Zd.out).2.1); rintro e w' ⟨rfl, ⟨nd, rfl⟩⟩; refine ⟨_, rfl, ?_⟩; clear Zd Zt; have n_ := zm (Kd.R_mono (ok' := (fun _ => True)) Zc.out (fun k_ hk => trivial)); clear Zc; have Zc := n_; clear n_) | ((with_reducible refine gate_callee (f := 29) rfl ?_); refine goesL_ (some 90) rfl rfl Tryd.func29 (by kernel_rfl) rfl #[.slice Ao49 t387.length co49, .int .i64 1] rfl (by (try simp only [List.map_toArray, List.map_cons, List.map_nil]); first | done | (rw [show t387.length = t370.length from (Kd.R_reads' Zc.out).1.symm] <;> rfl) | rfl | (simp only [List.length_drop, List.length_take]; rfl)) ?_; (with_reducible refine (laws_heldStringS.calls k _ _ t387 1 t400 _ ?side1 ?side2 A30.out).mono ?_); (case side1 => exact zC ((Kd.R_reads' Zc.out).2.2)); (case side2 => rw [show t387.length = t370.length from (Kd.R_reads' Zc.out).1.symm]; exact (Kd.R_reads' Zc.out).2.1); rintro e w67 ⟨rfl, hb⟩; refine ⟨_, rfl, ?_⟩; have n0_ := zm (blk_below (g := gb351) (o := .cells #[.slice A0_0 l0_0.length c0_0, .slice A0_1 l0_1.length c0_1] 49 (0, 0)) (zg_1 Za.out) hb); have n1_ := zm (blk_below (g := gb369) (o := .cells #[.slice Ao44 t363.length co44, .slice Ao47 t366.length co47] 55 (0, 0)) (zg_1 Zb.out) hb); have n2_ := zm (below_step (zg_4 HB.out Zf.out Zh.out) hb); clear Za; clear Zb; clear HB; have Za := n0_; have Zb := n1_; have HB := n2_; clear n0_ n1_ n2_; (try clear hb); (try clear hb2); (try clear hk); (try clear hi); (try clear Zc)))
             go_ret
             exact ⟨by first | rfl | (simp [errW_none, errW_some] <;> rfl) | (simp [*, errW_none, errW_some] <;> rfl), zg_4 HB.out Zf.out Zh.out⟩
            ·rw [if_neg c32] at H
             have c32b0 : (t400 == t386) = false := beq_eq_false_iff_ne.mpr c32
             have c32b1 : (t400 != t386) = true := bne_iff_ne.mpr c32
             exact absurd hr_.out (by rw [← Option.some.inj H]; decide)
          ·rw [if_neg c29] at H
           have c29b0 : (t398 == t362) = false := beq_eq_false_iff_ne.mpr c29
           have c29b1 : (t398 != t362) = true := bne_iff_ne.mpr c29
           exact absurd hr_.out (by rw [← Option.some.inj H]; decide)
         ·replace c28 := Bool.eq_false_iff.mpr c28
          subst c28
          have H1 : (some false) = some r := by rw [if_neg (show ¬ (false = true) by decide)] at H; exact H
          clear H
          have H := H1
          clear H1
          exact absurd hr_.out (by rw [← Option.some.inj H]; decide)
        ·rw [if_neg c24] at H
         have c24b0 : (t388 == t386) = false := beq_eq_false_iff_ne.mpr c24
         have c24b1 : (t388 != t386) = true := bne_iff_ne.mpr c24
         exact absurd hr_.out (by rw [← Option.some.inj H]; decide)
      ·replace c20 := Bool.eq_false_iff.mpr c20
       subst c20
       have H1 : (some false) = some r := by rw [if_neg (show ¬ (false = true) by decide)] at H; exact H
       clear H
       have H := H1
       clear H1
       exact absurd hr_.out (by rw [← Option.some.inj H]; decide)
    ·replace c16 := Bool.eq_false_iff.mpr c16
     subst c16
     have H1 : (some false) = some r := by rw [if_neg (show ¬ (false = true) by decide)] at H; exact H
     clear H
     have H := H1
     clear H1
     exact absurd hr_.out (by rw [← Option.some.inj H]; decide)
   ·rw [if_neg c13] at H
    have c13b0 : (t373 == t362) = false := beq_eq_false_iff_ne.mpr c13
    have c13b1 : (t373 != t362) = true := bne_iff_ne.mpr c13
    exact absurd hr_.out (by rw [← Option.some.inj H]; decide)
  ·replace c12 := Bool.eq_false_iff.mpr c12
   subst c12
   have H1 : (some false) = some r := by rw [if_neg (show ¬ (false = true) by decide)] at H; exact H
   clear H
   have H := H1
   clear H1
   exact absurd hr_.out (by rw [← Option.some.inj H]; decide)
/-! ### Base -/
def okI (x : Int) : Prop := (Lit.int .i64 x).wf = true
def okU8 (x : Int) : Prop := (Lit.int .u8 x).wf = true
def okB (_ : Bool) : Prop := True
def okS (x : ByteArray) : Prop := x.size ≤ maxLen
theorem w64 {n : Int} (h0 : -9223372036854775808 ≤ n) (h1 : n ≤ 9223372036854775807) : wrap64 n = n := by unfold wrap64; omega
theorem okI_iff {n : Int} (h : (Lit.int .i64 n).wf = true) : -9223372036854775808 ≤ n ∧ n ≤ 9223372036854775807 := by
  simp [Lit.wf, IntKind.min, IntKind.max, IntKind.signed, IntKind.bits] at h
  omega
theorem Ev.k {α : Type} {g : Nat → Option α} {r : α} (K : Nat) (h : ∀ k, K ≤ k → g k = some r) : Ev g r := ⟨K, h⟩
theorem ev_some {α : Type} (r : α) : Ev (fun _ => some r) r := ⟨0, fun _ _ => rfl⟩
theorem ev_of_eq {α : Type} {g : Nat → Option α} {r : α} (h : ∀ k, g k = some r) : Ev g r := ⟨0, fun k _ => h k⟩
theorem ev_bind {α β : Type} {g : Nat → Option α} {f : Nat → α → Option β} {a : α} {r : β} (h : Ev g a) (k : Ev (fun n => f n a) r) : Ev (fun n => (g n).bind (f n)) r := Ev.bind h k
theorem ev_if {α : Type} {c : Prop} [Decidable c] {g f : Nat → Option α} {r : α} (h : c → Ev g r) (h' : ¬ c → Ev f r) : Ev (fun n => if c then g n else f n) r := by
  by_cases hc : c
  · simp only [if_pos hc]; exact h hc
  · simp only [if_neg hc]; exact h' hc
theorem ev_pos {α : Type} {c : Prop} [Decidable c] {g f : Nat → Option α} {r : α} (hc : c) (h : Ev g r) : Ev (fun n => if c then g n else f n) r := by
  simp only [if_pos hc]; exact h
theorem ev_neg {α : Type} {c : Prop} [Decidable c] {g f : Nat → Option α} {r : α} (hc : ¬ c) (h : Ev f r) : Ev (fun n => if c then g n else f n) r := by
  simp only [if_neg hc]; exact h
theorem strOfNums_size (l : List Int) : (strOfNums l).size = l.length := by show (List.map _ l).toArray.size = _; simp
theorem ba_size_append (a b : ByteArray) : (a ++ b).size = a.size + b.size := by simp
theorem toList_inj {a b : ByteArray} : a.toList = b.toList ↔ a = b := by
  constructor
  · intro h
    have h1 : a.data.toList = b.data.toList := by simpa [ByteArray.toList_eq] using h
    have : a.data = b.data := Array.toList_inj.1 h1
    cases a; cases b; simp_all
  · rintro rfl; rfl
/-! ### Mark -/
theorem ev_loop {α : Type} {g : Nat → Nat → Option α} {r : α} (n : Nat) (hend : Ev (fun k => g k n) r) (hstep : ∀ i, i < n → ∃ c, ∀ k, g (k + c) i = g k (i + 1) ∧ 1 ≤ c) : ∀ d i, i ≤ n → n - i = d → Ev (fun k => g k i) r := by
  intro d
  induction d with
  | zero =>
    intro i hi hd
    have e : i = n := by omega
    rw [e]; exact hend
  | succ d ih =>
    intro i hi hd
    obtain ⟨K, hK⟩ := ih (i + 1) (by omega) (by omega)
    obtain ⟨c, hc⟩ := hstep i (by omega)
    refine ⟨K + c, fun k hk => ?_⟩
    obtain ⟨m, rfl⟩ : ∃ m, k = m + c := ⟨k - c, by omega⟩
    show g (m + c) i = _
    rw [(hc m).1]; exact hK m (by omega)
theorem rdn (l : List Int) (i : Nat) (h : i < l.length) : rd l (i : Int) = l[i] := by simp [rd, h]
theorem wnext (i : Nat) (h : i < 1000000000000000000) : wrap64 ((i : Int) + 1) = ((i + 1 : Nat) : Int) := by rw [w64 (by omega) (by omega)]; omega
theorem eqIntS_ev (l : List Int) (hl : l.length ≤ 1000000000) : Ev (fun k => laws_eqIntS.f k l l) true := by
  unfold laws_eqIntS.f
  refine ev_pos rfl ?_
  refine ev_loop (g := fun k i => laws_eqIntS.l0 k l l (i : Int)) l.length ?_ ?_ l.length 0 (by omega) (by omega)
  · refine Ev.step (f := fun _ => some true) (fun k => ?_) (ev_some _)
    simp only [laws_eqIntS.l0]; rw [if_neg (by omega)]
  · intro i hi
    refine ⟨1, fun k => ⟨?_, by omega⟩⟩
    simp only [laws_eqIntS.l0]
    rw [if_pos (by omega), if_pos (by omega), if_pos (by omega), if_pos trivial, wnext i (by omega)]
/-- Consecutive numbers from a on, as many as a list has. -/
def countUp (a : Int) (n : Nat) : List Int := (List.range n).map (fun j : Nat => a + (j : Int))
theorem countUp_length (a : Int) (n : Nat) : (countUp a n).length = n := by simp [countUp]
theorem countUp_get (a : Int) (n i : Nat) (h : i < n) : (countUp a n)[i]'(by rw [countUp_length]; exact h) = a + (i : Int) := by simp [countUp]
theorem set_mid {α : Type} (l m : List α) (hlm : m.length = l.length) (i : Nat) (h : i < l.length) (x : α) (hx : m[i]'(by omega) = x) : (m.take i ++ l.drop i).set i x = m.take (i + 1) ++ l.drop (i + 1) := by
  subst hx
  rw [List.drop_eq_getElem_cons h, List.set_append_right _ _ (by rw [List.length_take]; omega)]
  have : i - (m.take i).length = 0 := by rw [List.length_take]; omega
  rw [this, List.set_cons_zero, List.take_succ_eq_append_getElem (by omega), List.append_assoc]
  rfl
/-! ### MarkT -/
theorem ev_down {α : Type} {g : Nat → Nat → Option α} {r : α} (n : Nat) (hend : Ev (fun k => g k n) r) (hstep : ∀ i, i < n → Ev (fun k => g k (i + 1)) r → Ev (fun k => g k i) r) : Ev (fun k => g k 0) r := by
  have : ∀ d i, i ≤ n → n - i = d → Ev (fun k => g k i) r := by
    intro d
    induction d with
    | zero => intro i hi hd; have e : i = n := by omega
              rw [e]; exact hend
    | succ d ih => intro i hi hd; exact hstep i (by omega) (ih (i + 1) (by omega) (by omega))
  exact this n 0 (by omega) (by omega)
theorem markText_from : ∀ (d : Nat) (x : Int) (t : ByteArray), 0 ≤ x → x.toNat ≤ d → (t.size : Int) + x ≤ 1000000000000000 → ∃ r, Ev (fun k => laws_markText.l0 k x t) r := by
  intro d
  induction d with
  | zero =>
    intro x t h0 hd hs
    have e : x = 0 := by omega
    subst e
    refine ⟨(⟨#[109]⟩ : ByteArray) ++ t, Ev.step (f := fun _ => some ((⟨#[109]⟩ : ByteArray) ++ t)) (fun k => ?_) (ev_some _)⟩
    simp only [laws_markText.l0]
    rw [if_neg (by omega), if_pos (by omega)]
  | succ d ih =>
    intro x t h0 hd hs
    by_cases hx : x > 0
    · have hq : Int.tdiv x 10 = x / 10 := Int.tdiv_eq_ediv_of_nonneg h0
      have h1 : 0 ≤ x / 10 := by omega
      have hz : (strOfNums [(wrap64 (48 + (Int.tmod x 10))) % 256]).size = 1 := by rw [strOfNums_size]; rfl
      have hz2 : ((strOfNums [(wrap64 (48 + (Int.tmod x 10))) % 256]) ++ t).size = 1 + t.size := by rw [ba_size_append, hz]
      obtain ⟨r, hr⟩ := ih (x / 10) ((strOfNums [(wrap64 (48 + (Int.tmod x 10))) % 256]) ++ t) h1 (by omega) (by rw [hz2]; omega)
      refine ⟨r, Ev.step (f := fun k => laws_markText.l0 k (x / 10) ((strOfNums [(wrap64 (48 + (Int.tmod x 10))) % 256]) ++ t)) (fun k => ?_) hr⟩
      simp only [laws_markText.l0, Option.bind_some]
      rw [if_pos hx, if_pos (by rw [hz]; omega), hq, w64 (n := x / 10) (by omega) (by omega)]
    · refine ⟨(⟨#[109]⟩ : ByteArray) ++ t, Ev.step (f := fun _ => some ((⟨#[109]⟩ : ByteArray) ++ t)) (fun k => ?_) (ev_some _)⟩
      simp only [laws_markText.l0]
      rw [if_neg hx, if_pos (by omega)]
theorem markText_total (n : Int) (h : n ≤ 100000000000000) : ∃ r, Ev (fun k => laws_markText.f k n) r := by
  unfold laws_markText.f
  by_cases hn : n ≤ 0
  · exact ⟨_, ev_pos hn (ev_some _)⟩
  · obtain ⟨r, hr⟩ := markText_from n.toNat n (⟨#[]⟩ : ByteArray) (by omega) (by omega) (by show ((0 : Nat) : Int) + n ≤ _; omega)
    exact ⟨r, ev_neg hn hr⟩
open Classical in
noncomputable def mText (n : Int) : ByteArray := if h : ∃ r, Ev (fun k => laws_markText.f k n) r then h.choose else ByteArray.empty
theorem mText_ev (n : Int) (h : n ≤ 100000000000000) : Ev (fun k => laws_markText.f k n) (mText n) := by
  have := markText_total n h
  unfold mText
  rw [dif_pos this]; exact this.choose_spec
/-! ### Ev -/
theorem Ev.succ {α : Type} {g : Nat → Option α} {r : α} (h : Ev (fun k => g (k + 1)) r) : Ev g r := Ev.step (f := fun k => g (k + 1)) (fun _ => rfl) h
theorem ev_all {α : Type} {g : Nat → Nat → Option Bool} (l : List α) (q : α → Bool) (r : Bool) (hend : Ev (fun k => g k l.length) r) (hstep : ∀ i (h : i < l.length) k, g (k + 1) i = if q l[i] = true then g k (i + 1) else some false) : Ev (fun k => g k 0) (l.all q && r) := by
  have hgo : ∀ d i, i ≤ l.length → l.length - i = d → Ev (fun k => g k i) ((l.drop i).all q && r) := by
    intro d
    induction d with
    | zero =>
      intro i hi hd
      have e : i = l.length := by omega
      subst e
      rw [List.drop_of_length_le (by omega)]; simp only [List.all_nil, Bool.true_and]; exact hend
    | succ d ih =>
      intro i hi hd
      have hlt : i < l.length := by omega
      refine Ev.step (f := fun k => if q l[i] = true then g k (i + 1) else some false) (hstep i hlt) ?_
      rw [List.drop_eq_getElem_cons hlt, List.all_cons]
      cases hq : q l[i]
      · simp only [Bool.false_and, Bool.false_eq_true, if_false]; exact ev_some _
      · simp only [Bool.true_and, if_true]; exact ih (i + 1) (by omega) (by omega)
  have := hgo l.length 0 (by omega) (by omega)
  rwa [List.drop_zero] at this
theorem ev_asks {α β : Type} {g : Nat → Nat → Option β} (l : List α) (q : α → Bool) (r bad : β) (hend : Ev (fun k => g k l.length) r) (hstep : ∀ i (h : i < l.length) k, g (k + 1) i = if q l[i] = true then g k (i + 1) else some bad) : Ev (fun k => g k 0) (if l.all q = true then r else bad) := by
  have hgo : ∀ d i, i ≤ l.length → l.length - i = d → Ev (fun k => g k i) (if (l.drop i).all q = true then r else bad) := by
    intro d
    induction d with
    | zero =>
      intro i hi hd
      have e : i = l.length := by omega
      subst e
      rw [List.drop_of_length_le (by omega)]; simp only [List.all_nil, if_true]; exact hend
    | succ d ih =>
      intro i hi hd
      have hlt : i < l.length := by omega
      refine Ev.step (f := fun k => if q l[i] = true then g k (i + 1) else some bad) (hstep i hlt) ?_
      rw [List.drop_eq_getElem_cons hlt, List.all_cons]
      cases hq : q l[i]
      · simp only [Bool.false_and, Bool.false_eq_true, if_false]; exact ev_some _
      · simp only [Bool.true_and, if_true]; exact ih (i + 1) (by omega) (by omega)
  have := hgo l.length 0 (by omega) (by omega)
  rwa [List.drop_zero] at this
/-- A loop that asks each element in turn, each question with rounds of its own. -/
theorem ev_asksE {α β : Type} {g : Nat → Nat → Option β} (l : List α) (q : α → Bool) (r bad : β) (hend : l.all q = true → Ev (fun k => g k l.length) r)
    (hstep : ∀ i (h : i < l.length), (q l[i] = true → Ev (fun k => g k (i + 1)) (if (l.drop (i + 1)).all q = true then r else bad) → Ev (fun k => g k i) (if (l.drop (i + 1)).all q = true then r else bad)) ∧ (q l[i] = false → Ev (fun k => g k i) bad)) : Ev (fun k => g k 0) (if l.all q = true then r else bad) := by
  have key : ∀ d i, i ≤ l.length → l.length - i = d → (l.take i).all q = true → Ev (fun k => g k i) (if (l.drop i).all q = true then r else bad) := by
    intro d
    induction d with
    | zero =>
      intro i hi hd ht
      have e : i = l.length := by omega
      subst e
      rw [List.take_length] at ht
      rw [List.drop_length, List.all_nil, if_pos rfl]
      exact hend ht
    | succ d ih =>
      intro i hi hd ht
      have hlt : i < l.length := by omega
      rw [List.drop_eq_getElem_cons hlt, List.all_cons]
      cases hq : q l[i] with
      | false => simpa using (hstep i hlt).2 hq
      | true =>
        rw [Bool.true_and]
        refine (hstep i hlt).1 hq (ih (i + 1) (by omega) (by omega) ?_)
        rw [List.take_succ_eq_append_getElem hlt, List.all_append, ht]
        simp [hq]
  simpa using key l.length 0 (by omega) (by omega) (by simp)
/-! ### Ints -/
theorem szIntS_eq (l : List Int) (hl : l.length ≤ maxLen) (a : Int) (h0 : 0 ≤ a) (ha : a ≤ 1048576) : laws_szIntS.f l a = some (if a - (l.length : Int) < 0 then -1 else a - (l.length : Int)) := by
  have hM : maxLen = 9223372036854775807 := rfl
  unfold laws_szIntS.f
  rw [w64 (n := a - (l.length : Int)) (by omega) (by omega)]
  split <;> rfl
theorem toIntS_ev (l : List Int) (hl : l.length ≤ 1048576) : Ev (fun k => laws_toIntS.f k l) l := by
  unfold laws_toIntS.f
  refine ev_pos (by omega) (ev_pos (by omega) ?_)
  rw [Int.toNat_natCast]
  have hc : l.length = (List.replicate l.length (0 : Int)).length := by simp
  have h := ev_loop (g := fun k i => laws_toIntS.l0 k l (l.take i ++ (List.replicate l.length (0 : Int)).drop i) (i : Int)) (r := l) l.length ?_ ?_ l.length 0 (by omega) (by omega)
  · simpa using h
  · refine Ev.step (f := fun _ => some l) (fun k => ?_) (ev_some _)
    simp only [laws_toIntS.l0]
    rw [if_neg (by omega), List.drop_of_length_le (by simp), List.take_of_length_le (by simp)]; simp
  · intro i hi
    refine ⟨1, fun k => ⟨?_, by omega⟩⟩
    simp only [laws_toIntS.l0]
    have hlen : (l.take i ++ (List.replicate l.length (0 : Int)).drop i).length = l.length := by simp; omega
    rw [if_pos (by omega), if_pos (by omega), if_pos (by rw [hlen]; omega), rdn l i hi, Int.toNat_natCast, set_mid _ _ hc i (by simpa using hi) _ rfl, wnext i (by omega)]
/-! ### ShotE -/
theorem rdE_Shot (l : List S102) (i : Nat) (h : i < l.length) : rd_T102 l (i : Int) = l[i] := by simp [rd_T102, h]
theorem eqShotS_ev (l : List S102) (hl : l.length ≤ 1000000000) (hs : ∀ x ∈ l, x.f1.length ≤ 1000000000) : Ev (fun k => laws_eqShotS.f k l l) true := by
  unfold laws_eqShotS.f
  refine ev_pos rfl ?_
  refine ev_down (g := fun k i => laws_eqShotS.l0 k l l (i : Int)) l.length ?_ ?_
  · refine Ev.step (f := fun _ => some true) (fun k => ?_) (ev_some _)
    simp only [laws_eqShotS.l0]; rw [if_neg (by omega)]
  · intro i hi h
    refine Ev.succ ?_
    simp only [laws_eqShotS.l0, laws_eqShot.f, rdE_Shot l i hi, wnext i (show i < 1000000000000000000 by omega), if_true]
    exact ev_pos (by omega) (ev_pos (by omega) (ev_pos (by omega) (ev_bind (ev_bind (eqIntS_ev _ (hs _ (List.getElem_mem hi))) (ev_pos rfl (ev_some _))) (ev_pos rfl h))))
/-! ### Shot -/
theorem rdP_Shot (l : List S100) (i : Nat) (h : i < l.length) : rd_T100 l (i : Int) = l[i] := by simp [rd_T100, h]
def cvShot (x : S100) : S102 := ⟨x.f0, x.f1⟩
theorem szShot_le (x : S100) (h0 : x.f0.size ≤ maxLen) (h1 : x.f1.length ≤ maxLen) (a : Int) (ha0 : 0 ≤ a) (ha : a ≤ 1048576) : ∃ s, laws_szShot.f x.f0 x.f1 a = some s ∧ (s < 0 ∨ (0 ≤ s ∧ s ≤ a ∧ (x.f0.size : Int) ≤ a ∧ (x.f1.length : Int) ≤ a)) := by
  have hM : maxLen = 9223372036854775807 := rfl
  unfold laws_szShot.f
  rw [w64 (n := a - (x.f0.size : Int)) (by omega) (by omega)]
  by_cases c : a - (x.f0.size : Int) < 0
  · rw [if_pos c]; exact ⟨-1, rfl, Or.inl (by omega)⟩
  · rw [if_neg c, szIntS_eq x.f1 h1 _ (by omega) (by omega), Option.bind_some]
    by_cases c2 : a - (x.f0.size : Int) - (x.f1.length : Int) < 0
    · rw [if_pos c2, if_pos (by omega)]; exact ⟨-1, rfl, Or.inl (by omega)⟩
    · rw [if_neg c2, if_neg c2]; exact ⟨_, rfl, Or.inr ⟨by omega, by omega, by omega, by omega⟩⟩
theorem szShotS_from (l : List S100) (hs : ∀ x ∈ l, x.f0.size ≤ maxLen ∧ x.f1.length ≤ maxLen) (hl : l.length ≤ 1048576) : ∀ d i (x : Int), 0 ≤ x → x ≤ 1048576 → i ≤ l.length → l.length - i = d → ∃ s, Ev (fun k => laws_szShotS.l0 k l x (i : Int)) s ∧ (s < 0 ∨ (s ≤ x ∧ 0 ≤ s ∧ ∀ j (h : j < l.length), i ≤ j → (l[j].f0.size : Int) ≤ x ∧ (l[j].f1.length : Int) ≤ x)) := by
  intro d
  induction d with
  | zero =>
    intro i x h0 hx hi hd
    refine ⟨x, Ev.step (f := fun _ => some x) (fun k => ?_) (ev_some _), Or.inr ⟨by omega, h0, fun j hj hij => absurd hj (by omega)⟩⟩
    simp only [laws_szShotS.l0]; rw [if_neg (by omega)]
  | succ d ih =>
    intro i x h0 hx hi hd
    have hlt : i < l.length := by omega
    have hz := hs l[i] (List.getElem_mem hlt)
    obtain ⟨s, e, hb⟩ := szShot_le l[i] hz.1 hz.2 x h0 hx
    by_cases hc : s < 0
    · refine ⟨-1, Ev.step (f := fun _ => some (-1)) (fun k => ?_) (ev_some _), Or.inl (by omega)⟩
      simp only [laws_szShotS.l0]
      rw [if_pos (by omega), if_pos (by omega), rdP_Shot l i hlt, e, Option.bind_some, if_pos hc]
    · rcases hb with hb | ⟨b0, b1, b2, b3⟩
      · exact absurd hb hc
      · obtain ⟨s', h1, h2⟩ := ih (i + 1) s b0 (by omega) (by omega) (by omega)
        refine ⟨s', Ev.step (f := fun k => laws_szShotS.l0 k l s ((i + 1 : Nat) : Int)) (fun k => ?_) h1, ?_⟩
        · simp only [laws_szShotS.l0]
          rw [if_pos (by omega), if_pos (by omega), rdP_Shot l i hlt, e, Option.bind_some, if_neg hc, wnext i (by omega)]
        · rcases h2 with h2 | ⟨h2, h3, h4⟩
          · exact Or.inl h2
          · refine Or.inr ⟨by omega, h3, fun j hj hij => ?_⟩
            rcases Nat.eq_or_lt_of_le hij with e' | e'
            · subst e'; exact ⟨b2, b3⟩
            · have := h4 j hj e'; omega
theorem szShotS_ev (l : List S100) (hs : ∀ x ∈ l, x.f0.size ≤ maxLen ∧ x.f1.length ≤ maxLen) (hm : l.length ≤ maxLen) (a : Int) (h0 : 0 ≤ a) (ha : a ≤ 1048576) : ∃ s, Ev (fun k => laws_szShotS.f k l a) s ∧ (s < 0 ∨ (s ≤ a ∧ 0 ≤ s ∧ (l.length : Int) ≤ a ∧ ∀ x ∈ l, (x.f0.size : Int) ≤ a ∧ (x.f1.length : Int) ≤ a)) := by
  have hM : maxLen = 9223372036854775807 := rfl
  unfold laws_szShotS.f
  rw [w64 (n := a - (l.length : Int)) (by omega) (by omega)]
  by_cases hc : a - (l.length : Int) < 0
  · exact ⟨-1, ev_pos hc (ev_some _), Or.inl (by omega)⟩
  · obtain ⟨s, h1, h2⟩ := szShotS_from l hs (by omega) l.length 0 (a - (l.length : Int)) (by omega) (by omega) (by omega) (by omega)
    refine ⟨s, ev_neg hc h1, ?_⟩
    rcases h2 with h2 | ⟨h2, h3, h4⟩
    · exact Or.inl h2
    · refine Or.inr ⟨by omega, h3, by omega, fun x hx => ?_⟩
      obtain ⟨j, hj, rfl⟩ := List.getElem_of_mem hx
      have := h4 j hj (by omega); omega
theorem toShotS_ev (l : List S100) (hl : l.length ≤ 1048576) (hs : ∀ x ∈ l, x.f1.length ≤ 1048576) : Ev (fun k => laws_toShotS.f k l) (l.map cvShot) := by
  unfold laws_toShotS.f
  refine ev_pos (by omega) (ev_pos (by omega) ?_)
  rw [Int.toNat_natCast]
  have hc : (l.map cvShot).length = (List.replicate l.length z102).length := by simp
  have h := ev_down (g := fun k i => laws_toShotS.l0 k l ((l.map cvShot).take i ++ (List.replicate l.length z102).drop i) (i : Int)) (r := l.map cvShot) l.length ?_ ?_
  · simpa using h
  · refine Ev.step (f := fun _ => some (l.map cvShot)) (fun k => ?_) (ev_some _)
    simp only [laws_toShotS.l0]
    rw [if_neg (by omega), List.drop_of_length_le (by simp), List.take_of_length_le (by simp)]; simp
  · intro i hi h
    have hlen : ((l.map cvShot).take i ++ (List.replicate l.length z102).drop i).length = l.length := by simp; omega
    refine Ev.succ ?_
    simp only [laws_toShotS.l0, laws_toShot.f, rdP_Shot l i hi]
    refine ev_pos (by omega) (ev_pos (by omega) (ev_bind (ev_bind (toIntS_ev l[i].f1 (hs _ (List.getElem_mem hi))) (ev_some _)) (ev_pos (by rw [hlen]; omega) ?_)))
    rw [Int.toNat_natCast, set_mid _ _ hc i (by simpa using hi) _ (by simp [cvShot]), wnext i (by omega)]
    exact h
/-! ### MarkI -/
theorem markIntS_ev (l : List Int) (a : Int) (ha : 0 ≤ a) (hl : l.length + a ≤ 1000000000000000) : Ev (fun k => laws_markIntS.f k l a) (a + (l.length : Int), countUp a l.length) := by
  unfold laws_markIntS.f
  have hc := countUp_length a l.length
  have h := ev_loop (g := fun k i => laws_markIntS.l0 k ((countUp a l.length).take i ++ l.drop i) (a + (i : Int)) (i : Int)) (r := (a + (l.length : Int), countUp a l.length)) l.length ?_ ?_ l.length 0 (by omega) (by omega)
  · simpa using h
  · refine Ev.step (f := fun _ => some (a + (l.length : Int), countUp a l.length)) (fun k => ?_) (ev_some _)
    simp only [laws_markIntS.l0]
    rw [if_neg (by simp; omega), List.drop_of_length_le (by omega), List.take_of_length_le (by omega)]; simp
  · intro i hi
    refine ⟨1, fun k => ⟨?_, by omega⟩⟩
    simp only [laws_markIntS.l0]
    have hlen : ((countUp a l.length).take i ++ l.drop i).length = l.length := by simp [hc]; omega
    rw [if_pos (by rw [hlen]; omega), if_pos (by omega), Int.toNat_natCast, set_mid l _ hc i hi _ (countUp_get a l.length i hi), wnext i (by omega), w64 (by omega) (by omega)]
    rw [show a + (i : Int) + 1 = a + ((i + 1 : Nat) : Int) by omega]
/-! ### ShotM -/
theorem rdMid_Shot (p s : List S102) (x : S102) : rd_T102 (p ++ x :: s) (p.length : Int) = x := by simp [rd_T102]
theorem setMid_Shot (p s : List S102) (x y : S102) : (p ++ x :: s).set p.length y = p ++ y :: s := by simp
def mkN (b : Int) : List S102 → Int
  | [] => b
  | x :: l => mkN (b + 1 + (x.f1.length : Int)) l
noncomputable def mkS (b : Int) : List S102 → List S102
  | [] => []
  | x :: l => (⟨mText b, countUp (b + 1) x.f1.length⟩ : S102) :: mkS (b + 1 + (x.f1.length : Int)) l
theorem mkN_le : ∀ (l : List S102) (b : Int), (∀ x ∈ l, x.f1.length ≤ 1048576) → b ≤ mkN b l ∧ mkN b l ≤ b + 1048577 * (l.length : Int) := by
  intro l
  induction l with
  | nil => intro b _; simp [mkN]
  | cons x l ih =>
    intro b hs
    have h1 := hs x (by simp)
    have := ih (b + 1 + (x.f1.length : Int)) (fun y hy => hs y (by simp [hy]))
    simp only [mkN, List.length_cons]
    omega
theorem markShotS_from : ∀ (l p : List S102) (b : Int), (∀ x ∈ l, x.f1.length ≤ 1048576) → p.length + l.length ≤ 1048576 → 0 ≤ b → b + 1048577 * (l.length : Int) ≤ 10000000000000 → Ev (fun k => laws_markShotS.l0 k (p ++ l) b (p.length : Int)) (mkN b l, p ++ mkS b l) := by
  intro l
  induction l with
  | nil =>
    intro p b _ _ _ _
    refine Ev.step (f := fun _ => some (b, p ++ [])) (fun k => ?_) (ev_some _)
    simp only [laws_markShotS.l0]; rw [if_neg (by simp)]
  | cons x l ih =>
    intro p b hs hl h0 hb
    have hL := hs x (by simp)
    simp only [List.length_cons] at hl hb
    have ht := mText_ev b (by omega)
    have hm := markIntS_ev x.f1 (b + 1) (by omega) (by omega)
    have h := ih (p ++ [(⟨mText b, countUp (b + 1) x.f1.length⟩ : S102)]) (b + 1 + (x.f1.length : Int)) (fun y hy => hs y (by simp [hy])) (by simp; omega) (by omega) (by omega)
    rw [List.length_append, List.length_singleton, List.append_assoc, List.singleton_append, List.append_assoc, List.singleton_append] at h
    refine Ev.succ ?_
    simp only [laws_markShotS.l0, rdMid_Shot, Int.toNat_natCast, setMid_Shot, w64 (n := b + 1) (by omega) (by omega), wnext p.length (show p.length < 1000000000000000000 by omega)]
    refine ev_pos (by simp; omega) (ev_pos (by omega) (ev_bind ht ?_))
    exact ev_bind hm h
theorem markShotS_ev (l : List S102) (b : Int) (hs : ∀ x ∈ l, x.f1.length ≤ 1048576) (hl : l.length ≤ 1048576) (h0 : 0 ≤ b) (hb : b + 1048577 * (l.length : Int) ≤ 10000000000000) : Ev (fun k => laws_markShotS.f k l b) (mkN b l, mkS b l) := by
  unfold laws_markShotS.f
  exact markShotS_from l [] b hs (by simpa using hl) h0 hb
/-! ### In -/
def inB (n a b : Int) : Bool := decide (a ≤ n) && decide (n ≤ b)
theorem inB_iff {n a b : Int} : inB n a b = true ↔ a ≤ n ∧ n ≤ b := by simp [inB]
theorem inB_no {n a b : Int} : inB n a b = false ↔ ¬ (a ≤ n ∧ n ≤ b) := by rw [← inB_iff]; simp
theorem l01In_eq (n a b : Int) : spec_l01In.f n a b = some (inB n a b) := by
  unfold spec_l01In.f inB; by_cases h : a ≤ n <;> simp [h]
theorem within_eq (n a b : Int) : impl_within.f n a b = some (inB n a b) := by
  unfold impl_within.f inB; by_cases h : a ≤ n <;> simp [h]
theorem and_opt {b : Bool} {c : Option Bool} {c' : Bool} (h : c = some c') : (if b = true then c else some false) = some (b && c') := by
  cases b <;> simp [h]
/-! ### Compact -/
theorem compact_full (zs : List (List UInt8)) : (Lib.compact zs).length = zs.length ↔ ∀ j, j < zs.length → Lib.keeps zs.toArray j = true := by
  unfold Lib.compact Lib.compactUpTo
  rw [List.length_map]
  constructor
  · intro h j hj
    have h2 : ((List.range zs.length).filter (Lib.keeps zs.toArray)).length = (List.range zs.length).length := by rw [h, List.length_range]
    exact (List.length_filter_eq_length_iff.1 h2) j (List.mem_range.2 hj)
  · intro h
    have : ((List.range zs.length).filter (Lib.keeps zs.toArray)).length = (List.range zs.length).length := List.length_filter_eq_length_iff.2 (fun j hj => h j (List.mem_range.1 hj))
    rw [this, List.length_range]
theorem sorted_nodup (ss : List (List UInt8)) : (Lib.compact (ss.mergeSort fun x y => decide (x ≤ y))).length = ss.length ↔ ss.Nodup := by
  have hp := List.mergeSort_perm ss (fun x y => decide (x ≤ y))
  have hs : (ss.mergeSort fun x y => decide (x ≤ y)).Pairwise (fun x y => decide (x ≤ y) = true) := List.pairwise_mergeSort (fun a b c h1 h2 => by
    simp only [decide_eq_true_eq] at *; exact List.le_trans h1 h2) (fun a b => by
    simp only [Bool.or_eq_true, decide_eq_true_eq]; exact List.le_total a b) ss
  rw [← hp.nodup_iff, ← hp.length_eq, compact_full]
  generalize (ss.mergeSort fun x y => decide (x ≤ y)) = s at hs
  have hle : ∀ i j (hi : i < j) (hj : j < s.length), s[i] ≤ s[j] := fun i j hi hj => by
    have := List.pairwise_iff_getElem.1 hs i j (by omega) hj hi
    simpa using this
  constructor
  · intro h
    rw [List.nodup_iff_pairwise_ne, List.pairwise_iff_getElem]
    intro i j hi hj hij e
    have h1 := h (i + 1) (by omega)
    have h2 : s[i]'hi = s[i + 1]'(by omega) := by
      refine List.le_antisymm (hle i (i + 1) (by omega) (by omega)) ?_
      by_cases c : i + 1 = j
      · subst c; rw [e]; exact List.le_refl _
      · rw [e]; exact hle (i + 1) j (by omega) hj
    simp [Lib.keeps, h2, show i + 1 < s.length by omega, show i < s.length from hi] at h1
  · intro h j hj
    by_cases c : j = 0
    · subst c; simp [Lib.keeps]
    · have hne : s[j]'hj ≠ s[j - 1]'(by omega) := by
        intro e
        have := List.pairwise_iff_getElem.1 (List.nodup_iff_pairwise_ne.1 h) (j - 1) j (by omega) hj (by omega)
        exact this e.symm
      simp [Lib.keeps, hj, show j - 1 < s.length by omega, hne]
/-! ### SnapName -/
def nmOK (t : ByteArray) : Bool := (List.range t.size).all (fun i => inB (bt t (i : Int)) 97 122) && inB (t.size : Int) 1 6
theorem spec_Name_ev (t : ByteArray) (ht : t.size ≤ 1000000000) : Ev (fun k => spec_l10Name.f k t) (nmOK t) := by
  unfold spec_l10Name.f nmOK
  refine ev_all (g := fun k i => spec_l10Name.l0 k t (i : Int)) (List.range t.size) (fun i => inB (bt t (i : Int)) 97 122) _ ?_ ?_
  · refine Ev.step (f := fun _ => some (inB (t.size : Int) 1 6)) (fun k => ?_) (ev_some _)
    simp only [spec_l10Name.l0, l01In_eq, Option.bind_some, List.length_range]; rw [if_neg (by omega)]
  · intro i hi k
    rw [List.length_range] at hi
    simp only [spec_l10Name.l0, List.getElem_range]
    rw [if_pos (by omega), if_pos (by omega), wnext i (by omega)]
    unfold inB
    by_cases h1 : bt t (i : Int) < 97
    · rw [if_pos h1, if_neg (by simp; omega)]
    · rw [if_neg h1]
      by_cases h2 : bt t (i : Int) > 122
      · rw [if_pos h2, if_neg (by simp; omega)]
      · rw [if_neg h2, if_pos (by simp; omega)]
theorem impl_Name_ev (t : ByteArray) (ht : t.size ≤ 1000000000) : Ev (fun k => impl_snapNameOK.f k t) (nmOK t) := by
  unfold impl_snapNameOK.f nmOK
  refine ev_all (g := fun k i => impl_snapNameOK.l0 k t (t.size : Int) (i : Int)) (List.range t.size) (fun i => inB (bt t (i : Int)) 97 122) _ ?_ ?_
  · refine Ev.step (f := fun _ => some (inB (t.size : Int) 1 6)) (fun k => ?_) (ev_some _)
    simp only [impl_snapNameOK.l0, within_eq, Option.bind_some, List.length_range]; rw [if_neg (by omega)]
  · intro i hi k
    rw [List.length_range] at hi
    simp only [impl_snapNameOK.l0, List.getElem_range]
    rw [if_pos (by omega), if_pos (by omega), if_pos (by omega), wnext i (by omega)]
    unfold inB
    by_cases h1 : bt t (i : Int) < 97
    · rw [if_pos h1, if_neg (by simp; omega)]
    · rw [if_neg h1]
      by_cases h2 : bt t (i : Int) > 122
      · rw [if_pos h2, if_neg (by simp; omega)]
      · rw [if_neg h2, if_pos (by simp; omega)]
theorem ev_allO {α : Type} (p : Nat → α → Option Bool) (q : α → Bool) : ∀ l : List α, (∀ x ∈ l, Ev (fun k => p k x) (q x)) → Ev (fun k => allO (p k) l) (l.all q) := by
  intro l
  induction l with
  | nil => intro _; exact ev_some true
  | cons x xs ih =>
    intro h
    have hx := h x (by simp)
    have hxs := ih (fun y hy => h y (by simp [hy]))
    simp only [allO, List.all_cons]
    refine ev_bind hx ?_
    cases q x
    · exact ev_neg (by decide) (ev_some _)
    · exact ev_pos rfl (by simpa using hxs)
def namesOK (l : List ByteArray) : Bool := decide ((l.length : Int) ≤ 3) && (l.all nmOK && decide l.Nodup)
theorem areNames_ev (l : List ByteArray) (hl : l.length ≤ 1000000000) (hs : ∀ x ∈ l, x.size ≤ 1000000000) : Ev (fun k => impl_areNames.f k l) (namesOK l) := by
  unfold impl_areNames.f namesOK
  refine ev_pos (by omega) ?_
  by_cases h3 : (l.length : Int) ≤ 3
  · rw [decide_eq_true h3, Bool.true_and]
    refine ev_pos h3 (ev_bind (a := l.all nmOK) (by unfold all49_impl_snapNameOK.f; exact ev_allO _ _ l (fun x hx => impl_Name_ev x (hs x hx))) ?_)
    cases l.all nmOK
    · exact ev_neg (by decide) (ev_some _)
    · refine ev_pos rfl ?_
      have e : (((Lib.compact (impl_areNames_sorted l)).length : Int) == (l.length : Int)) = decide l.Nodup := by
        rw [Bool.eq_iff_iff, beq_iff_eq, decide_eq_true_eq]
        have hn : (l.map (·.data.toList)).Nodup ↔ l.Nodup := by
          have ht : ∀ a b : ByteArray, a.data.toList ≠ b.data.toList ↔ a ≠ b := fun a b => by
            constructor
            · intro h e; exact h (by rw [e])
            · intro h e; exact h (by cases a; cases b; simpa [Array.toList_inj] using e)
          unfold List.Nodup
          rw [List.pairwise_map]
          simp only [ht]
        rw [← hn, ← sorted_nodup (l.map (·.data.toList)), List.length_map]
        unfold impl_areNames_sorted
        exact Int.ofNat_inj
      rw [e, Bool.true_and]; exact ev_some _
  · rw [decide_eq_false h3, Bool.false_and]
    exact ev_neg h3 (ev_some _)
/-! ### GuestOk -/
theorem ev_allE {g : Nat → Nat → Option Bool} (n : Nat) (P : Nat → Bool) (r : Bool) (hend : Ev (fun k => g k n) r) (hstep : ∀ i, i < n → ∀ b, Ev (fun k => g k (i + 1)) b → Ev (fun k => g k i) (P i && b)) : Ev (fun k => g k 0) ((List.range n).all P && r) := by
  have hgo : ∀ d i, i ≤ n → n - i = d → Ev (fun k => g k i) (((List.range n).drop i).all P && r) := by
    intro d
    induction d with
    | zero =>
      intro i hi hd
      have e : i = n := by omega
      subst e
      rw [List.drop_of_length_le (by simp)]; simp only [List.all_nil, Bool.true_and]; exact hend
    | succ d ih =>
      intro i hi hd
      have hlt : i < (List.range n).length := by simp; omega
      have := hstep i (by omega) _ (ih (i + 1) (by omega) (by omega))
      rw [List.drop_eq_getElem_cons hlt, List.all_cons, List.getElem_range, Bool.and_assoc]
      exact this
  have := hgo n 0 (by omega) (by omega)
  rwa [List.drop_zero] at this
def valsOK (l : List Int) : Bool := l.all (fun n => inB n 0 2147483647) && decide ((l.length : Int) ≤ 12)
theorem spec_vals_ev (l : List Int) (hl : l.length ≤ 1000000000) : Ev (fun k => spec_l14Values.f k l) (valsOK l) := by
  unfold spec_l14Values.f valsOK
  refine ev_all (g := fun k i => spec_l14Values.l0 k l (i : Int)) l _ _ ?_ ?_
  · refine Ev.step (f := fun _ => some (decide ((l.length : Int) ≤ 12))) (fun k => ?_) (ev_some _)
    simp only [spec_l14Values.l0]; rw [if_neg (by omega)]
  · intro i hi k
    simp only [spec_l14Values.l0, spec_l02Int.f, l01In_eq, Option.bind_some]
    rw [if_pos (by omega), if_pos (by omega), rdn l i hi, wnext i (by omega)]
theorem impl_vals_eq (l : List Int) : impl_areValues.f l = some (valsOK l) := by
  have hA : all101_impl_isNumber.f l () = some (l.all (fun n => inB n 0 2147483647)) := by unfold all101_impl_isNumber.f; exact allO_some _ _ (fun x _ => by simp only [impl_isNumber.f, within_eq, Option.bind_some])
  unfold impl_areValues.f valsOK
  rw [hA, Option.bind_some]
  by_cases h : (l.length : Int) ≤ 12
  · rw [if_pos h, decide_eq_true h, Bool.and_true]
  · rw [if_neg h, decide_eq_false h, Bool.and_false]
def nm (l : List S102) (i : Nat) : ByteArray := (rd_T102 l (i : Int)).f0
def okAt (l : List S102) (i : Nat) : Bool := nmOK (nm l i) && (valsOK (rd_T102 l (i : Int)).f1 && (List.range i).all (fun j => decide (nm l j ≠ nm l i)))
theorem spec_gok_ev (v : List Int) (l : List S102) (hv : v.length ≤ 1000000000) (hl : l.length ≤ 1000000000) (hs : ∀ x ∈ l, x.f0.size ≤ 1000000000 ∧ x.f1.length ≤ 1000000000) : Ev (fun k => spec_GuestOK.f k v l) (valsOK v && (decide ((l.length : Int) ≤ 3) && (List.range l.length).all (okAt l))) := by
  have hL : Ev (fun k => spec_GuestOK.l0 k ((0 : Nat) : Int) v l) ((List.range l.length).all (okAt l) && true) := by
    refine ev_allE (g := fun k i => spec_GuestOK.l0 k (i : Int) v l) l.length (okAt l) true ?_ ?_
    · refine Ev.step (f := fun _ => some true) (fun k => ?_) (ev_some _)
      simp only [spec_GuestOK.l0]; rw [if_neg (by omega)]
    · intro i hi b hb
      have hmem := hs l[i] (List.getElem_mem hi)
      have hin : Ev (fun k => spec_GuestOK.l1 k (i : Int) ((0 : Nat) : Int) v l) ((List.range i).all (fun j => decide (nm l j ≠ nm l i)) && b) := by
        refine ev_all (g := fun k j => spec_GuestOK.l1 k (i : Int) (j : Int) v l) (List.range i) _ b ?_ ?_
        · rw [List.length_range]
          refine Ev.step (f := fun k => spec_GuestOK.l0 k ((i + 1 : Nat) : Int) v l) (fun k => ?_) hb
          simp only [spec_GuestOK.l1]; rw [if_neg (by omega), wnext i (by omega)]
        · intro j hj k
          rw [List.length_range] at hj
          simp only [spec_GuestOK.l1, List.getElem_range]
          rw [if_pos (by omega), if_pos (by omega), if_pos (by omega), if_pos (by omega), if_pos (by omega), wnext j (by omega)]
          show (if (nm l j).toList = (nm l i).toList then some false else _) = _
          by_cases c : nm l j = nm l i
          · rw [if_pos (by rw [c]), if_neg (by simp [c])]
          · rw [if_neg (fun h => c (toList_inj.1 h)), if_pos (by simp [c])]
      refine Ev.succ ?_
      simp only [spec_GuestOK.l0]
      refine ev_pos (by omega) (ev_pos (by omega) ?_)
      have e1 : (rd_T102 l (i : Int)).f0 = nm l i := rfl
      have e2 := rdE_Shot l i hi
      unfold okAt
      rw [e1]
      refine ev_bind (spec_Name_ev _ (by unfold nm; rw [e2]; exact hmem.1)) ?_
      cases nmOK (nm l i)
      · refine ev_neg (by decide) (Ev.succ ?_)
        simp only [spec_GuestOK.j2, if_true, Bool.false_and]; exact ev_some _
      · refine ev_pos rfl (ev_bind (spec_vals_ev _ (by rw [e2]; exact hmem.2)) (Ev.succ ?_))
        cases valsOK (rd_T102 l (i : Int)).f1
        · simp only [spec_GuestOK.j2, Bool.not_false, if_true, Bool.false_and, Bool.and_false]; exact ev_some _
        · simp only [spec_GuestOK.j2, Bool.not_true, Bool.false_eq_true, if_false, Bool.true_and]; exact hin
  rw [Bool.and_true] at hL
  unfold spec_GuestOK.f
  refine ev_bind (spec_vals_ev v hv) ?_
  cases valsOK v
  · refine ev_neg (by decide) (Ev.succ ?_)
    simp only [spec_GuestOK.j0, if_true, Bool.false_and]; exact ev_some _
  · refine ev_pos rfl (Ev.succ ?_)
    simp only [spec_GuestOK.j0, decide_eq_true_eq, Bool.true_and]
    by_cases h3 : (l.length : Int) ≤ 3
    · rw [decide_eq_true h3, Bool.true_and]; exact ev_neg (by omega) hL
    · rw [decide_eq_false h3, Bool.false_and]; exact ev_pos (by omega) (ev_some _)
theorem names_ev (v : List Int) (l : List S102) (hl : l.length ≤ 1000000000) : Ev (fun k => impl_Guest_names.f k v l) (l.map (·.f0)) := by
  unfold impl_Guest_names.f
  have h := ev_loop (g := fun k i => impl_Guest_names.l0 k ((l.map (·.f0)).take i) l (l.length : Int) (i : Int)) (r := l.map (·.f0)) l.length ?_ ?_ l.length 0 (by omega) (by omega)
  · simpa using h
  · refine Ev.step (f := fun _ => some (l.map (·.f0))) (fun k => ?_) (ev_some _)
    simp only [impl_Guest_names.l0]
    rw [if_neg (by omega), List.take_of_length_le (by simp)]
  · intro i hi
    refine ⟨1, fun k => ⟨?_, by omega⟩⟩
    simp only [impl_Guest_names.l0]
    rw [if_pos (by omega), if_pos (by omega), if_pos (by omega), if_pos (by simp; omega), rdE_Shot l i hi, wnext i (by omega), List.take_succ_eq_append_getElem (by simpa using hi), List.getElem_map]
theorem gok_same (l : List S102) : (List.range l.length).all (okAt l) = ((l.map (·.f0)).all nmOK && decide (l.map (·.f0)).Nodup && l.all (fun x => valsOK x.f1)) := by
  have hn : ∀ i (h : i < l.length), nm l i = l[i].f0 := fun i h => by unfold nm; rw [rdE_Shot l i h]
  rw [Bool.eq_iff_iff]
  simp only [Bool.and_eq_true, List.all_eq_true, decide_eq_true_eq, List.mem_range, List.mem_map]
  constructor
  · intro h
    have h' : ∀ i (hi : i < l.length), nmOK l[i].f0 = true ∧ valsOK l[i].f1 = true ∧ ∀ j, j < i → nm l j ≠ nm l i := fun i hi => by
      have := h i hi
      unfold okAt at this
      simp only [Bool.and_eq_true, List.all_eq_true, decide_eq_true_eq, List.mem_range] at this
      rw [hn i hi, rdE_Shot l i hi] at this
      exact ⟨this.1, this.2.1, fun j hj => by have := this.2.2 j hj; rw [hn i hi]; exact this⟩
    refine ⟨⟨?_, ?_⟩, ?_⟩
    · rintro x ⟨y, hy, rfl⟩
      obtain ⟨i, hi, rfl⟩ := List.getElem_of_mem hy
      exact (h' i hi).1
    · rw [List.nodup_iff_pairwise_ne, List.pairwise_iff_getElem]
      intro i j hi hj hij
      rw [List.length_map] at hi hj
      have := (h' j hj).2.2 i hij
      rw [hn i hi, hn j hj] at this
      simpa using this
    · intro x hx
      obtain ⟨i, hi, rfl⟩ := List.getElem_of_mem hx
      exact (h' i hi).2.1
  · rintro ⟨⟨h1, h2⟩, h3⟩ i hi
    unfold okAt
    simp only [Bool.and_eq_true, List.all_eq_true, decide_eq_true_eq, List.mem_range]
    rw [rdE_Shot l i hi]
    refine ⟨?_, h3 _ (List.getElem_mem hi), fun j hj => ?_⟩
    · rw [hn i hi]; exact h1 _ ⟨_, List.getElem_mem hi, rfl⟩
    · rw [hn i hi, hn j (by omega)]
      have := List.pairwise_iff_getElem.1 (List.nodup_iff_pairwise_ne.1 h2) j i (by simp; omega) (by simpa using hi) hj
      simpa using this
theorem impl_gok_ev (v : List Int) (l : List S102) (hl : l.length ≤ 1000000000) (hs : ∀ x ∈ l, x.f0.size ≤ 1000000000) : Ev (fun k => impl_GuestOK.f k v l) (valsOK v && (decide ((l.length : Int) ≤ 3) && (List.range l.length).all (okAt l))) := by
  unfold impl_GuestOK.f
  simp only [impl_vals_eq, Option.bind_some]
  rw [gok_same]
  cases valsOK v
  · exact ev_neg (by decide) (ev_some _)
  · refine ev_pos rfl ?_
    rw [Bool.true_and]
    by_cases h3 : (l.length : Int) ≤ 3
    · refine ev_pos h3 (ev_bind (names_ev v l hl) (ev_bind (areNames_ev _ (by simpa using hl) (fun x hx => by
        obtain ⟨y, hy, rfl⟩ := List.mem_map.1 hx; exact hs y hy)) ?_))
      have e : namesOK (l.map (·.f0)) = ((l.map (·.f0)).all nmOK && decide (l.map (·.f0)).Nodup) := by
        unfold namesOK; rw [decide_eq_true (by simpa using h3), Bool.true_and]
      have hA : all91_impl_GuestOK_1.f l () = some (l.all (fun x => valsOK x.f1)) := by unfold all91_impl_GuestOK_1.f; exact allO_some _ _ (fun x _ => by simp only [impl_GuestOK_1.f, impl_vals_eq, Option.bind_some])
      rw [e, hA, decide_eq_true h3, Bool.true_and]
      cases ((l.map (·.f0)).all nmOK && decide (l.map (·.f0)).Nodup)
      · exact ev_neg (by decide) (ev_some _)
      · refine ev_pos rfl ?_
        simp only [Option.bind_some, Bool.true_and]; exact ev_some _
    · rw [decide_eq_false h3, Bool.false_and]; exact ev_neg h3 (ev_some _)
end Go.Proofs.YtniceoohmhjjlaaDoor.Q
