/- What laws.FnExactDiffUpdates reaches, part 5: the functions as Lean functions, the proofs that the program's functions answer so, and plain laws about them. -/
import Derived.Test.YtglcnnmobkocmaaGreatKFnExactDiffUpdates1
import Derived.Test.YtglcnnmobkocmaaGreatKFnExactDiffUpdates4
namespace Go.Proofs.YtglcnnmobkocmaaGreat.Q
open Go.RowKit Go.Proofs.YtglcnnmobkocmaaGreat.Ext Go.Proofs.YtglcnnmobkocmaaGreatW.PrintWords Go.Proofs.YtglcnnmobkocmaaGreatW.PrintLast Go.Proofs.YtglcnnmobkocmaaGreatW.PrintMore
attribute [local go_sem] max2_int min2_int max_two min_two max_three min_three max_four min_four   -- for this text's walks alone
set_option linter.unusedVariables false
set_option linter.unusedSimpArgs false

set_option linter.unusedVariables false
set_option linter.unusedSimpArgs false
def laws_szSnapS.l0 : Nat → List (S102) → Int → Int → Option (Int)
  | 0, _, _, _ => none
  | k + 1, x0, x1, x5 => if x5 < (x0.length : Int) then (if 0 ≤ x5 then ((laws_szSnap.f ((rd_T102 x0 x5).f0) ((rd_T102 x0 x5).f1) x1).bind fun t416 => (if t416 < 0 then (some (-1)) else (laws_szSnapS.l0 k x0 t416 (wrap64 (x5 + 1))))) else (none)) else (some x1)
def laws_szSnapS.f (k : Nat) (l0 : List (S102)) (a1 : Int) : Option (Int) := if (wrap64 (a1 - (l0.length : Int))) < 0 then (some (-1)) else (laws_szSnapS.l0 k l0 (wrap64 (a1 - (l0.length : Int))) 0)
theorem laws_szSnapS.mono_l : ∀ k, (∀ y0 y1 y2, LeO (laws_szSnapS.l0 k y0 y1 y2) (laws_szSnapS.l0 (k + 1) y0 y1 y2))
  | 0 => fun _ _ _ r h => by simp [laws_szSnapS.l0] at h
  | k + 1 => by
    have ih0 := laws_szSnapS.mono_l k
    · intro y0 y1 y2
      unfold laws_szSnapS.l0
      repeat' first| (with_reducible first | exact ih0 _ _ _ | exact LeO.refl _ | exact LeO.none _ | refine LeO.ite ?_ ?_ | refine LeO.bind ?_ (fun _ => ?_)) | exact ih0 _ _ _ | exact LeO.none _ | refine LeO.ite ?_ ?_ | refine LeO.bind ?_ (fun _ => ?_)
theorem laws_szSnapS.mono : ∀ a0 a1 k, LeO (laws_szSnapS.f k a0 a1) (laws_szSnapS.f (k + 1) a0 a1) := by
  intro a0 a1 k
  have ih0 := laws_szSnapS.mono_l k
  unfold laws_szSnapS.f
  repeat' first| (with_reducible first | exact ih0 _ _ _ | exact LeO.refl _ | exact LeO.none _ | refine LeO.ite ?_ ?_ | refine LeO.bind ?_ (fun _ => ?_)) | exact ih0 _ _ _ | exact LeO.none _ | refine LeO.ite ?_ ?_ | refine LeO.bind ?_ (fun _ => ?_)
set_option maxHeartbeats 8000000 in
set_option maxRecDepth 100000 in
theorem laws_szSnapS.calls (k : Nat) (A0 : Option Addr) (c0 : Nat) (l0 : List (S102)) (a1 : Int) (r : Int) (w : World) (hr0 : Kd.C k102 w A0 l0.length l0) (hc0 : l0.length ≤ c0) (h : laws_szSnapS.f k l0 a1 = some r) :
    Calls Tryz.prog 39 #[.slice A0 l0.length c0, .int .i64 a1] w fun e w' => e = .returned (.int .i64 r) ∧ Below w.heap.size w w' := by
 have hu102 := Tryz.underlying102; have HR0 := zm hr0; have HC0 := zm hc0; clear hr0 hc0; have HB := zm (Below.refl w.heap.size w); have H := h
 unfold laws_szSnapS.f at H
 clear h
 by_cases c3 : (wrap64 (a1 - (l0.length : Int))) < 0
 ·rw [if_pos c3] at H
  have c3b0 := decide_eq_true c3; clear c3; obtain rfl := Option.some.inj H
  go_enter Tryz.func39, Tryz.ntmps39
  go_wp2
  go_ret
  exact ⟨ze, zg_1 HB.out⟩
 ·rw [if_neg c3] at H
  have c3b0 := decide_eq_false c3; clear c3
  have H' := zm H
  clear H
  go_enter Tryz.func39, Tryz.ntmps39
  go_wp2
  go_loopg [1, 5] k (fun kq v1 v5 w' => ∃ (x1_1 : Int) (x5_1 : Int), v1 = .int .i64 x1_1 ∧ v5 = .int .i64 x5_1 ∧ Aside0 (laws_szSnapS.l0 kq l0 x1_1 x5_1 = some r) ∧ Aside0 (kq ≤ k) ∧ Aside0 (Below w.heap.size w w'))
  case atStart => exact ⟨(wrap64 (a1 - (l0.length : Int))), (0), zr, zr, H', ⟨Nat.le_refl _⟩, ⟨zg_1 HB.out⟩⟩
  case round =>
   clear H'
   try clear p2
   try clear c3
   try clear c3b0
   obtain ⟨x1_1, x5_1, rfl, rfl, HA, HK1, HB⟩ := hrel
   cases gk with
   | zero => exact absurd HA.out (by simp [laws_szSnapS.l0])
   | succ k1 =>
    have H := HA.out; clear HA
    simp only [laws_szSnapS.l0] at H
    by_cases c4 : x5_1 < (l0.length : Int)
    ·rw [if_pos c4] at H
     have c4b0 := decide_eq_true c4; clear c4
     by_cases c5 : 0 ≤ x5_1
     ·rw [if_pos c5] at H
      have c5b0 := decide_eq_true c5; clear c5; replace H := Option.bind_eq_some_iff.mp H
      obtain ⟨t416, A60, H⟩ := H
      try dsimp only at H
      have A6 := zm A60; clear A60
      by_cases c7 : t416 < 0
      ·rw [if_pos c7] at H
       have c7b0 := decide_eq_true c7; clear c7; obtain rfl := Option.some.inj H
       have p415 : 0 ≤ (x5_1 : Int) := zd
       have q415 : x5_1 < (l0.length : Int) := zd
       obtain ⟨ad415, A415_1, c415_1, e415, hx415_0, hx415_1, hl415_1, hi415_1⟩ := at_T102 HR0.out x5_1 p415 q415
       cases e415; replace hx415_0 := (HB.out.cell (World.block_lt_of_cell? w _ hx415_0)).trans hx415_0; replace hx415_1 := (HB.out.cell (World.block_lt_of_cell? w _ hx415_1)).trans hx415_1; have HR415_1 := zm hi415_1; have HC415_1 := zm hl415_1; clear hi415_1 hl415_1; replace p415 := eq_true p415; replace q415 := eq_true q415
       go_wp2_with (first | ((with_reducible refine gate_callee (f := 83) rfl ?_); refine goesL_ (some 23) rfl rfl Tryz.func83 (by kernel_rfl) rfl #[.agg #[.string ((rd_T102 l0 x5_1).f0), .slice A415_1 ((rd_T102 l0 x5_1).f1).length c415_1], .int .i64 x1_1] rfl zq ?_; (with_reducible refine (laws_szSnap.calls ((rd_T102 l0 x5_1).f0) _ _ ((rd_T102 l0 x5_1).f1) x1_1 t416 _ ?side1 ?side2 A6.out).mono ?_); (case side1 => exact zC (Kd.C_below HR415_1.out HB.out)); (case side2 => exact HC415_1.out); rintro e w8 ⟨rfl, hb⟩; refine ⟨_, rfl, ?_⟩; have n0_ := zm (below_step (zg_1 HB.out) hb); replace HB := n0_; clear n0_; (try clear hb); (try clear hb2); (try clear hk); (try clear hi)))
       go_ret
       exact ⟨ze, zg_1 HB.out⟩
      ·rw [if_neg c7] at H
       have c7b0 := decide_eq_false c7; clear c7
       have H' := zm H
       clear H
       have p415 : 0 ≤ (x5_1 : Int) := zd
       have q415 : x5_1 < (l0.length : Int) := zd
       obtain ⟨ad415, A415_1, c415_1, e415, hx415_0, hx415_1, hl415_1, hi415_1⟩ := at_T102 HR0.out x5_1 p415 q415
       cases e415; replace hx415_0 := (HB.out.cell (World.block_lt_of_cell? w _ hx415_0)).trans hx415_0; replace hx415_1 := (HB.out.cell (World.block_lt_of_cell? w _ hx415_1)).trans hx415_1; have HR415_1 := zm hi415_1; have HC415_1 := zm hl415_1; clear hi415_1 hl415_1; replace p415 := eq_true p415; replace q415 := eq_true q415
       go_wp2_with (first | ((with_reducible refine gate_callee (f := 83) rfl ?_); refine goesL_ (some 23) rfl rfl Tryz.func83 (by kernel_rfl) rfl #[.agg #[.string ((rd_T102 l0 x5_1).f0), .slice A415_1 ((rd_T102 l0 x5_1).f1).length c415_1], .int .i64 x1_1] rfl zq ?_; (with_reducible refine (laws_szSnap.calls ((rd_T102 l0 x5_1).f0) _ _ ((rd_T102 l0 x5_1).f1) x1_1 t416 _ ?side1 ?side2 A6.out).mono ?_); (case side1 => exact zC (Kd.C_below HR415_1.out HB.out)); (case side2 => exact HC415_1.out); rintro e w9 ⟨rfl, hb⟩; refine ⟨_, rfl, ?_⟩; have n0_ := zm (below_step (zg_1 HB.out) hb); replace HB := n0_; clear n0_; (try clear hb); (try clear hb2); (try clear hk); (try clear hi)))
       go_roundg k1
       case measure => have := HK1.out; omega
       case rel => exact ⟨(t416), (wrap64 (x5_1 + 1)), zr, zr, H', ⟨by have := HK1.out; omega⟩, ⟨zg_1 HB.out⟩⟩
     ·rw [if_neg c5] at H
      exact absurd H (by simp)
    ·rw [if_neg c4] at H
     have c4b0 := decide_eq_false c4; clear c4; obtain rfl := Option.some.inj H
     go_wp2
     go_ret
     exact ⟨ze, zg_1 HB.out⟩
def laws_szImage.f (k : Nat) (l0_0 : List Int) (l0_1 : List Int) (l0_2 : List (S102)) (l0_3 : List Int) (a1 : Int) : Option (Int) := (laws_szIntS.f l0_0 a1).bind fun t418 => (if t418 < 0 then (some (-1)) else ((laws_szIntS.f l0_1 t418).bind fun t419 => (if t419 < 0 then (some (-1)) else ((laws_szSnapS.f k l0_2 t419).bind fun t420 => (if t420 < 0 then (some (-1)) else ((laws_szIntS.f l0_3 t420).bind fun t421 => (if t421 < 0 then (some (-1)) else (some t421))))))))
theorem laws_szImage.mono : ∀ a0 a1 a2 a3 a4 k, LeO (laws_szImage.f k a0 a1 a2 a3 a4) (laws_szImage.f (k + 1) a0 a1 a2 a3 a4) := by
  intro a0 a1 a2 a3 a4 k
  unfold laws_szImage.f
  repeat' first| (with_reducible first | exact laws_szSnapS.mono _ _ _ | exact LeO.refl _ | exact LeO.none _ | refine LeO.ite ?_ ?_ | refine LeO.bind ?_ (fun _ => ?_)) | exact laws_szSnapS.mono _ _ _ | exact LeO.none _ | refine LeO.ite ?_ ?_ | refine LeO.bind ?_ (fun _ => ?_)
set_option maxHeartbeats 8000000 in
set_option maxRecDepth 100000 in
theorem laws_szImage.calls (k : Nat) (A0_0 : Option Addr) (c0_0 : Nat) (l0_0 : List Int) (A0_1 : Option Addr) (c0_1 : Nat) (l0_1 : List Int) (A0_2 : Option Addr) (c0_2 : Nat) (l0_2 : List (S102)) (A0_3 : Option Addr) (c0_3 : Nat) (l0_3 : List Int) (a1 : Int) (r : Int) (w : World) (hr0_0 : Kd.C (Kd.int .i64) w A0_0 l0_0.length l0_0) (hc0_0 : l0_0.length ≤ c0_0) (hr0_1 : Kd.C (Kd.int .i64) w A0_1 l0_1.length l0_1) (hc0_1 : l0_1.length ≤ c0_1) (hr0_2 : Kd.C k102 w A0_2 l0_2.length l0_2) (hc0_2 : l0_2.length ≤ c0_2) (hr0_3 : Kd.C (Kd.int .i64) w A0_3 l0_3.length l0_3) (hc0_3 : l0_3.length ≤ c0_3) (h : laws_szImage.f k l0_0 l0_1 l0_2 l0_3 a1 = some r) :
    Calls Tryz.prog 14 #[.agg #[.slice A0_0 l0_0.length c0_0, .slice A0_1 l0_1.length c0_1, .slice A0_2 l0_2.length c0_2, .slice A0_3 l0_3.length c0_3], .int .i64 a1] w fun e w' => e = .returned (.int .i64 r) ∧ Below w.heap.size w w' := by
 have hu36 := Tryz.underlying36; have Zc := zm hr0_0; have Zd := zm hc0_0; clear hr0_0 hc0_0; have Ze := zm hr0_1; have Zf := zm hc0_1; clear hr0_1 hc0_1; have Zh := zm hr0_2; have Zi := zm hc0_2; clear hr0_2 hc0_2; have Zj := zm hr0_3; have Zk := zm hc0_3; clear hr0_3 hc0_3; have HB := zm (Below.refl w.heap.size w); have H := h
 unfold laws_szImage.f at H
 clear h; replace H := Option.bind_eq_some_iff.mp H
 obtain ⟨t418, A30, H⟩ := H
 try dsimp only at H
 have A3 := zm A30; clear A30
 by_cases c4 : t418 < 0
 ·rw [if_pos c4] at H
  have c4b0 := decide_eq_true c4; clear c4; obtain rfl := Option.some.inj H
  go_enter Tryz.func14, Tryz.ntmps14
  go_wp2_with (first | ((with_reducible refine gate_dst (N := 2) rfl ?_); refine box_event ?hg (N := 2) ?hd (cs := #[.slice A0_0 l0_0.length c0_0, .slice A0_1 l0_1.length c0_1, .slice A0_2 l0_2.length c0_2, .slice A0_3 l0_3.length c0_3]) (t := 36) ?hr ?_; (case hd => rfl); (case hg => rfl); (case hr => first | (go_simp; done) | (go_simp; rfl)); intro gb417 hg w5 hbox hb; have n0_ := zm (below_step (zg_1 HB.out) hb); have n1_ := zm (hbox); have n2_ := zm ((by rw [hg]; exact (below_size (zg_1 HB.out)) : w.heap.size ≤ gb417)); have n3_ := zm ((by rw [hg]; exact (below_size (zg_1 HB.out)) : w.heap.size ≤ gb417)); replace HB := n0_; have Za := n1_; have Zg := n2_; have Zb := n3_; clear n0_ n1_ n2_ n3_; clear hb hbox hg; obtain ⟨hcz6_0, hcz6_1, hcz6_2, hcz6_3, hfz6_0, hfz6_1, hfz6_2, hfz6_3⟩ := zb4 Za.out) | ((with_reducible refine gate_callee (f := 38) rfl ?_); refine goesL_ (some 8) rfl rfl Tryz.func38 (by kernel_rfl) rfl #[.slice A0_0 l0_0.length c0_0, .int .i64 a1] rfl zq ?_; (with_reducible refine (laws_szIntS.calls _ _ l0_0 a1 t418 _ ?side1 ?side2 A3.out).mono ?_); (case side1 => exact zC (Kd.C_below Zc.out HB.out)); (case side2 => exact Zd.out); rintro e w' ⟨rfl, ⟨nd, rfl⟩⟩; refine ⟨_, rfl, ?_⟩))
  go_ret
  exact ⟨ze, zg_2 HB.out Zb.out⟩
 ·rw [if_neg c4] at H
  have c4b0 := decide_eq_false c4; clear c4; replace H := Option.bind_eq_some_iff.mp H
  obtain ⟨t419, A70, H⟩ := H
  try dsimp only at H
  have A7 := zm A70; clear A70
  by_cases c8 : t419 < 0
  ·rw [if_pos c8] at H
   have c8b0 := decide_eq_true c8; clear c8; obtain rfl := Option.some.inj H
   go_enter Tryz.func14, Tryz.ntmps14
   go_wp2_with (first | ((with_reducible refine gate_dst (N := 2) rfl ?_); refine box_event ?hg (N := 2) ?hd (cs := #[.slice A0_0 l0_0.length c0_0, .slice A0_1 l0_1.length c0_1, .slice A0_2 l0_2.length c0_2, .slice A0_3 l0_3.length c0_3]) (t := 36) ?hr ?_; (case hd => rfl); (case hg => rfl); (case hr => first | (go_simp; done) | (go_simp; rfl)); intro gb417 hg w9 hbox hb; have n0_ := zm (below_step (zg_1 HB.out) hb); have n1_ := zm (hbox); have n2_ := zm ((by rw [hg]; exact (below_size (zg_1 HB.out)) : w.heap.size ≤ gb417)); have n3_ := zm ((by rw [hg]; exact (below_size (zg_1 HB.out)) : w.heap.size ≤ gb417)); replace HB := n0_; have Za := n1_; have Zg := n2_; have Zb := n3_; clear n0_ n1_ n2_ n3_; clear hb hbox hg; obtain ⟨hcz10_0, hcz10_1, hcz10_2, hcz10_3, hfz10_0, hfz10_1, hfz10_2, hfz10_3⟩ := zb4 Za.out) | ((with_reducible refine gate_callee (f := 38) rfl ?_); refine goesL_ (some 8) rfl rfl Tryz.func38 (by kernel_rfl) rfl #[.slice A0_0 l0_0.length c0_0, .int .i64 a1] rfl zq ?_; (with_reducible refine (laws_szIntS.calls _ _ l0_0 a1 t418 _ ?side1 ?side2 A3.out).mono ?_); (case side1 => exact zC (Kd.C_below Zc.out HB.out)); (case side2 => exact Zd.out); rintro e w' ⟨rfl, ⟨nd, rfl⟩⟩; refine ⟨_, rfl, ?_⟩) | ((with_reducible refine gate_callee (f := 38) rfl ?_); refine goesL_ (some 14) rfl rfl Tryz.func38 (by kernel_rfl) rfl #[.slice A0_1 l0_1.length c0_1, .int .i64 t418] rfl zq ?_; (with_reducible refine (laws_szIntS.calls _ _ l0_1 t418 t419 _ ?side1 ?side2 A7.out).mono ?_); (case side1 => exact zC (Kd.C_below Ze.out (zg_2 HB.out Zb.out))); (case side2 => exact Zf.out); rintro e w' ⟨rfl, ⟨nd, rfl⟩⟩; refine ⟨_, rfl, ?_⟩))
   go_ret
   exact ⟨ze, zg_2 HB.out Zb.out⟩
  ·rw [if_neg c8] at H
   have c8b0 := decide_eq_false c8; clear c8; replace H := Option.bind_eq_some_iff.mp H
   obtain ⟨t420, A110, H⟩ := H
   try dsimp only at H
   have A11 := zm A110; clear A110
   by_cases c12 : t420 < 0
   ·rw [if_pos c12] at H
    have c12b0 := decide_eq_true c12; clear c12; obtain rfl := Option.some.inj H
    go_enter Tryz.func14, Tryz.ntmps14
    go_wp2_with (first | ((with_reducible refine gate_dst (N := 2) rfl ?_); refine box_event ?hg (N := 2) ?hd (cs := #[.slice A0_0 l0_0.length c0_0, .slice A0_1 l0_1.length c0_1, .slice A0_2 l0_2.length c0_2, .slice A0_3 l0_3.length c0_3]) (t := 36) ?hr ?_; (case hd => rfl); (case hg => rfl); (case hr => first | (go_simp; done) | (go_simp; rfl)); intro gb417 hg w13 hbox hb; have n0_ := zm (below_step (zg_1 HB.out) hb); have n1_ := zm (hbox); have n2_ := zm ((by rw [hg]; exact (below_size (zg_1 HB.out)) : w.heap.size ≤ gb417)); have n3_ := zm ((by rw [hg]; exact (below_size (zg_1 HB.out)) : w.heap.size ≤ gb417)); replace HB := n0_; have Za := n1_; have Zg := n2_; have Zb := n3_; clear n0_ n1_ n2_ n3_; clear hb hbox hg; obtain ⟨hcz14_0, hcz14_1, hcz14_2, hcz14_3, hfz14_0, hfz14_1, hfz14_2, hfz14_3⟩ := zb4 Za.out) | ((with_reducible refine gate_callee (f := 38) rfl ?_); refine goesL_ (some 8) rfl rfl Tryz.func38 (by kernel_rfl) rfl #[.slice A0_0 l0_0.length c0_0, .int .i64 a1] rfl zq ?_; (with_reducible refine (laws_szIntS.calls _ _ l0_0 a1 t418 _ ?side1 ?side2 A3.out).mono ?_); (case side1 => exact zC (Kd.C_below Zc.out HB.out)); (case side2 => exact Zd.out); rintro e w' ⟨rfl, ⟨nd, rfl⟩⟩; refine ⟨_, rfl, ?_⟩) | ((with_reducible refine gate_callee (f := 38) rfl ?_); refine goesL_ (some 14) rfl rfl Tryz.func38 (by kernel_rfl) rfl #[.slice A0_1 l0_1.length c0_1, .int .i64 t418] rfl zq ?_; (with_reducible refine (laws_szIntS.calls _ _ l0_1 t418 t419 _ ?side1 ?side2 A7.out).mono ?_); (case side1 => exact zC (Kd.C_below Ze.out (zg_2 HB.out Zb.out))); (case side2 => exact Zf.out); rintro e w' ⟨rfl, ⟨nd, rfl⟩⟩; refine ⟨_, rfl, ?_⟩) | ((with_reducible refine gate_callee (f := 39) rfl ?_); refine goesL_ (some 20) rfl rfl Tryz.func39 (by kernel_rfl) rfl #[.slice A0_2 l0_2.length c0_2, .int .i64 t419] rfl zq ?_; (with_reducible refine (laws_szSnapS.calls k _ _ l0_2 t419 t420 _ ?side1 ?side2 A11.out).mono ?_); (case side1 => exact zC (Kd.C_below Zh.out (zg_2 HB.out Zb.out))); (case side2 => exact Zi.out); rintro e w15 ⟨rfl, hb⟩; refine ⟨_, rfl, ?_⟩; have n0_ := zm (blk_below (zg_3 Za.out) hb); have n1_ := zm (below_step (zg_2 HB.out Zb.out) hb); replace Za := n0_; replace HB := n1_; clear n0_ n1_; (try clear hb); (try clear hb2); (try clear hk); (try clear hi)))
    go_ret
    exact ⟨ze, zg_2 HB.out Zb.out⟩
   ·rw [if_neg c12] at H
    have c12b0 := decide_eq_false c12; clear c12; replace H := Option.bind_eq_some_iff.mp H
    obtain ⟨t421, A160, H⟩ := H
    try dsimp only at H
    have A16 := zm A160; clear A160
    by_cases c17 : t421 < 0
    ·rw [if_pos c17] at H
     have c17b0 := decide_eq_true c17; clear c17; obtain rfl := Option.some.inj H
     go_enter Tryz.func14, Tryz.ntmps14
     go_wp2_with (first | ((with_reducible refine gate_dst (N := 2) rfl ?_); refine box_event ?hg (N := 2) ?hd (cs := #[.slice A0_0 l0_0.length c0_0, .slice A0_1 l0_1.length c0_1, .slice A0_2 l0_2.length c0_2, .slice A0_3 l0_3.length c0_3]) (t := 36) ?hr ?_; (case hd => rfl); (case hg => rfl); (case hr => first | (go_simp; done) | (go_simp; rfl)); intro gb417 hg w18 hbox hb; have n0_ := zm (below_step (zg_1 HB.out) hb); have n1_ := zm (hbox); have n2_ := zm ((by rw [hg]; exact (below_size (zg_1 HB.out)) : w.heap.size ≤ gb417)); have n3_ := zm ((by rw [hg]; exact (below_size (zg_1 HB.out)) : w.heap.size ≤ gb417)); replace HB := n0_; have Za := n1_; have Zg := n2_; have Zb := n3_; clear n0_ n1_ n2_ n3_; clear hb hbox hg; obtain ⟨hcz19_0, hcz19_1, hcz19_2, hcz19_3, hfz19_0, hfz19_1, hfz19_2, hfz19_3⟩ := zb4 Za.out) | ((with_reducible refine gate_callee (f := 38) rfl ?_); refine goesL_ (some 8) rfl rfl Tryz.func38 (by kernel_rfl) rfl #[.slice A0_0 l0_0.length c0_0, .int .i64 a1] rfl zq ?_; (with_reducible refine (laws_szIntS.calls _ _ l0_0 a1 t418 _ ?side1 ?side2 A3.out).mono ?_); (case side1 => exact zC (Kd.C_below Zc.out HB.out)); (case side2 => exact Zd.out); rintro e w' ⟨rfl, ⟨nd, rfl⟩⟩; refine ⟨_, rfl, ?_⟩) | ((with_reducible refine gate_callee (f := 38) rfl ?_); refine goesL_ (some 14) rfl rfl Tryz.func38 (by kernel_rfl) rfl #[.slice A0_1 l0_1.length c0_1, .int .i64 t418] rfl zq ?_; (with_reducible refine (laws_szIntS.calls _ _ l0_1 t418 t419 _ ?side1 ?side2 A7.out).mono ?_); (case side1 => exact zC (Kd.C_below Ze.out (zg_2 HB.out Zb.out))); (case side2 => exact Zf.out); rintro e w' ⟨rfl, ⟨nd, rfl⟩⟩; refine ⟨_, rfl, ?_⟩) | ((with_reducible refine gate_callee (f := 39) rfl ?_); refine goesL_ (some 20) rfl rfl Tryz.func39 (by kernel_rfl) rfl #[.slice A0_2 l0_2.length c0_2, .int .i64 t419] rfl zq ?_; (with_reducible refine (laws_szSnapS.calls k _ _ l0_2 t419 t420 _ ?side1 ?side2 A11.out).mono ?_); (case side1 => exact zC (Kd.C_below Zh.out (zg_2 HB.out Zb.out))); (case side2 => exact Zi.out); rintro e w20 ⟨rfl, hb⟩; refine ⟨_, rfl, ?_⟩; have n0_ := zm (blk_below (zg_3 Za.out) hb); have n1_ := zm (below_step (zg_2 HB.out Zb.out) hb); replace Za := n0_; replace HB := n1_; clear n0_ n1_; (try clear hb); (try clear hb2); (try clear hk); (try clear hi); obtain ⟨hcz21_0, hcz21_1, hcz21_2, hcz21_3, hfz21_0, hfz21_1, hfz21_2, hfz21_3⟩ := zb4 Za.out) | ((with_reducible refine gate_callee (f := 38) rfl ?_); refine goesL_ (some 26) rfl rfl Tryz.func38 (by kernel_rfl) rfl #[.slice A0_3 l0_3.length c0_3, .int .i64 t420] rfl zq ?_; (with_reducible refine (laws_szIntS.calls _ _ l0_3 t420 t421 _ ?side1 ?side2 A16.out).mono ?_); (case side1 => exact zC (Kd.C_below Zj.out HB.out)); (case side2 => exact Zk.out); rintro e w' ⟨rfl, ⟨nd, rfl⟩⟩; refine ⟨_, rfl, ?_⟩))
     go_ret
     exact ⟨ze, zg_2 HB.out Zb.out⟩
    ·rw [if_neg c17] at H
     have c17b0 := decide_eq_false c17; clear c17; obtain rfl := Option.some.inj H
     go_enter Tryz.func14, Tryz.ntmps14
     go_wp2_with (first | ((with_reducible refine gate_dst (N := 2) rfl ?_); refine box_event ?hg (N := 2) ?hd (cs := #[.slice A0_0 l0_0.length c0_0, .slice A0_1 l0_1.length c0_1, .slice A0_2 l0_2.length c0_2, .slice A0_3 l0_3.length c0_3]) (t := 36) ?hr ?_; (case hd => rfl); (case hg => rfl); (case hr => first | (go_simp; done) | (go_simp; rfl)); intro gb417 hg w22 hbox hb; have n0_ := zm (below_step (zg_1 HB.out) hb); have n1_ := zm (hbox); have n2_ := zm ((by rw [hg]; exact (below_size (zg_1 HB.out)) : w.heap.size ≤ gb417)); have n3_ := zm ((by rw [hg]; exact (below_size (zg_1 HB.out)) : w.heap.size ≤ gb417)); replace HB := n0_; have Za := n1_; have Zg := n2_; have Zb := n3_; clear n0_ n1_ n2_ n3_; clear hb hbox hg; obtain ⟨hcz23_0, hcz23_1, hcz23_2, hcz23_3, hfz23_0, hfz23_1, hfz23_2, hfz23_3⟩ := zb4 Za.out) | ((with_reducible refine gate_callee (f := 38) rfl ?_); refine goesL_ (some 8) rfl rfl Tryz.func38 (by kernel_rfl) rfl #[.slice A0_0 l0_0.length c0_0, .int .i64 a1] rfl zq ?_; (with_reducible refine (laws_szIntS.calls _ _ l0_0 a1 t418 _ ?side1 ?side2 A3.out).mono ?_); (case side1 => exact zC (Kd.C_below Zc.out HB.out)); (case side2 => exact Zd.out); rintro e w' ⟨rfl, ⟨nd, rfl⟩⟩; refine ⟨_, rfl, ?_⟩) | ((with_reducible refine gate_callee (f := 38) rfl ?_); refine goesL_ (some 14) rfl rfl Tryz.func38 (by kernel_rfl) rfl #[.slice A0_1 l0_1.length c0_1, .int .i64 t418] rfl zq ?_; (with_reducible refine (laws_szIntS.calls _ _ l0_1 t418 t419 _ ?side1 ?side2 A7.out).mono ?_); (case side1 => exact zC (Kd.C_below Ze.out (zg_2 HB.out Zb.out))); (case side2 => exact Zf.out); rintro e w' ⟨rfl, ⟨nd, rfl⟩⟩; refine ⟨_, rfl, ?_⟩) | ((with_reducible refine gate_callee (f := 39) rfl ?_); refine goesL_ (some 20) rfl rfl Tryz.func39 (by kernel_rfl) rfl #[.slice A0_2 l0_2.length c0_2, .int .i64 t419] rfl zq ?_; (with_reducible refine (laws_szSnapS.calls k _ _ l0_2 t419 t420 _ ?side1 ?side2 A11.out).mono ?_); (case side1 => exact zC (Kd.C_below Zh.out (zg_2 HB.out Zb.out))); (case side2 => exact Zi.out); rintro e w24 ⟨rfl, hb⟩; refine ⟨_, rfl, ?_⟩; have n0_ := zm (blk_below (zg_3 Za.out) hb); have n1_ := zm (below_step (zg_2 HB.out Zb.out) hb); replace Za := n0_; replace HB := n1_; clear n0_ n1_; (try clear hb); (try clear hb2); (try clear hk); (try clear hi); obtain ⟨hcz25_0, hcz25_1, hcz25_2, hcz25_3, hfz25_0, hfz25_1, hfz25_2, hfz25_3⟩ := zb4 Za.out) | ((with_reducible refine gate_callee (f := 38) rfl ?_); refine goesL_ (some 26) rfl rfl Tryz.func38 (by kernel_rfl) rfl #[.slice A0_3 l0_3.length c0_3, .int .i64 t420] rfl zq ?_; (with_reducible refine (laws_szIntS.calls _ _ l0_3 t420 t421 _ ?side1 ?side2 A16.out).mono ?_); (case side1 => exact zC (Kd.C_below Zj.out HB.out)); (case side2 => exact Zk.out); rintro e w' ⟨rfl, ⟨nd, rfl⟩⟩; refine ⟨_, rfl, ?_⟩))
     go_ret
     exact ⟨ze, zg_2 HB.out Zb.out⟩
def laws_toIntS.l0 : Nat → List Int → List Int → Int → Option (List Int)
  | 0, _, _, _ => none
  | k + 1, x0, x3, x4 => if x4 < (x0.length : Int) then (if 0 ≤ x4 then (if x4 < (x3.length : Int) then (laws_toIntS.l0 k x0 (x3.set (x4 : Int).toNat (rd x0 x4)) (wrap64 (x4 + 1))) else (none)) else (none)) else (some x3)
def laws_toIntS.f (k : Nat) (l0 : List Int) : Option (List Int) := if 0 ≤ (l0.length : Int) then (if ((l0.length : Int) : Int).toNat ≤ 35184372088832 then (laws_toIntS.l0 k l0 (List.replicate ((l0.length : Int) : Int).toNat 0) 0) else (none)) else (none)
theorem laws_toIntS.mono_l : ∀ k, (∀ y0 y1 y2, LeO (laws_toIntS.l0 k y0 y1 y2) (laws_toIntS.l0 (k + 1) y0 y1 y2))
  | 0 => fun _ _ _ r h => by simp [laws_toIntS.l0] at h
  | k + 1 => by
    have ih0 := laws_toIntS.mono_l k
    · intro y0 y1 y2
      unfold laws_toIntS.l0
      repeat' first| (with_reducible first | exact ih0 _ _ _ | exact LeO.refl _ | exact LeO.none _ | refine LeO.ite ?_ ?_ | refine LeO.bind ?_ (fun _ => ?_)) | exact ih0 _ _ _ | exact LeO.none _ | refine LeO.ite ?_ ?_ | refine LeO.bind ?_ (fun _ => ?_)
theorem laws_toIntS.mono : ∀ a0 k, LeO (laws_toIntS.f k a0) (laws_toIntS.f (k + 1) a0) := by
  intro a0 k
  have ih0 := laws_toIntS.mono_l k
  unfold laws_toIntS.f
  repeat' first| (with_reducible first | exact ih0 _ _ _ | exact LeO.refl _ | exact LeO.none _ | refine LeO.ite ?_ ?_ | refine LeO.bind ?_ (fun _ => ?_)) | exact ih0 _ _ _ | exact LeO.none _ | refine LeO.ite ?_ ?_ | refine LeO.bind ?_ (fun _ => ?_)
set_option maxHeartbeats 8000000 in
set_option maxRecDepth 100000 in
theorem laws_toIntS.calls (k : Nat) (A0 : Option Addr) (c0 : Nat) (l0 : List Int) (r : List Int) (w : World) (hr0 : Kd.C (Kd.int .i64) w A0 l0.length l0) (hc0 : l0.length ≤ c0) (h : laws_toIntS.f k l0 = some r) :
    Calls Tryz.prog 42 #[.slice A0 l0.length c0] w fun e w' => ∃ v0_ : Value, e = .returned (v0_) ∧ Kd.R (Kd.int .i64) 3 w' w.heap.size (fun _ => True) v0_ r ∧ Below w.heap.size w w' := by
 have HR0 := zm hr0; have HC0 := zm hc0; clear hr0 hc0; have HB := zm (Below.refl w.heap.size w); have H := h
 unfold laws_toIntS.f at H
 clear h
 by_cases c2 : 0 ≤ (l0.length : Int)
 ·rw [if_pos c2] at H
  have c2b0 := eq_true c2; have c2b1 := decide_eq_true c2; clear c2
  by_cases c3 : ((l0.length : Int) : Int).toNat ≤ 35184372088832
  ·rw [if_pos c3] at H
   have c3b0 := eq_true c3; have c3b1 := decide_eq_true c3; clear c3
   obtain ⟨y510, hy510⟩ : ∃ y_ : List Int, y_ = (List.replicate ((l0.length : Int) : Int).toNat 0) := ⟨_, rfl⟩
   replace H : (laws_toIntS.l0 k l0 y510 0) = some r := by first | (rw [hy510]; with_reducible exact H) | (have H2_ := (Option.bind_some _ _).symm.trans H; rw [hy510]; with_reducible exact H2_) | (have H2_ := (Option.bind_some _ _).symm.trans H; with_reducible exact H2_) | with_reducible exact H | (rw [hy510]; exact H) | exact H
   have Ny510 := zm hy510; clear hy510
   have H' := zm H
   clear H
   go_enter Tryz.func42, Tryz.ntmps42
   go_wp2_with (first | ((with_reducible refine gate_dst (N := 7) rfl ?_); refine Kd.R_make (Kd.int .i64) _ 3 rfl (N := 7) rfl 23 _ _ rfl (l0.length : Int) rfl rfl Tryz.underlying23 (.int .i64 0) 8 info3 rfl (by decide) (by omega) 0 (ok := fun _ => True) (okp := fun _ => True) rfl (fun _ hk => hk) trivial (zd) (Nat.le_trans (Nat.mul_le_mul_right _ (zd : (l0.length : Int).toNat ≤ 35184372088832)) (by omega)) (Below.refl _ _) (Nat.le_refl _) ?_; intro v511 w4 ho5 hb hg_ hnew_; clear hg_ hnew_; (first | rw [← Ny510.out] at ho5 | (simp only [Int.reduceToNat] at ho5; rw [← Ny510.out] at ho5)); have n0_ := zm (Kd.R_lower ho5 (below_size (zg_1 HB.out))); have n1_ := zm (below_step (zg_1 HB.out) hb); have Zc := n0_; replace HB := n1_; clear n0_ n1_; clear hb ho5))
   go_loopg [4] k (fun kq v4 w' => ∃ (x3_1 : List Int) (x4_1 : Int), v4 = .int .i64 x4_1 ∧ Aside0 (laws_toIntS.l0 kq l0 x3_1 x4_1 = some r) ∧ Aside0 (kq ≤ k) ∧ Aside0 (Kd.R (Kd.int .i64) 3 w' w.heap.size (fun _ => True) v511 x3_1) ∧ Aside0 (Below w.heap.size w w'))
   case atStart => exact ⟨(y510), (0), zr, H', ⟨Nat.le_refl _⟩, ⟨zlR Zc.out⟩, ⟨zg_1 HB.out⟩⟩
   case round =>
    clear H'
    try clear c2
    try clear c2b0
    try clear c2b1
    try clear p2
    try clear c3
    try clear c3b0
    try clear c3b1
    try clear c4
    obtain ⟨x3_1, x4_1, rfl, HA, HK1, Za, HB⟩ := hrel
    cases gk with
    | zero => exact absurd HA.out (by simp [laws_toIntS.l0])
    | succ k1 =>
     have H := HA.out; clear HA
     simp only [laws_toIntS.l0] at H
     by_cases c6 : x4_1 < (l0.length : Int)
     ·rw [if_pos c6] at H
      have c6b0 := decide_eq_true c6; clear c6
      by_cases c7 : 0 ≤ x4_1
      ·rw [if_pos c7] at H
       have c7b0 := decide_eq_true c7; clear c7
       by_cases c8 : x4_1 < (x3_1.length : Int)
       ·rw [if_pos c8] at H
        have c8b0 := decide_eq_true c8; clear c8
        obtain ⟨y514, hy514⟩ : ∃ y_ : List Int, y_ = (x3_1.set (x4_1 : Int).toNat (rd l0 x4_1)) := ⟨_, rfl⟩
        replace H : (laws_toIntS.l0 k1 l0 y514 (wrap64 (x4_1 + 1))) = some r := by first | (rw [hy514]; with_reducible exact H) | (have H2_ := (Option.bind_some _ _).symm.trans H; rw [hy514]; with_reducible exact H2_) | (have H2_ := (Option.bind_some _ _).symm.trans H; with_reducible exact H2_) | with_reducible exact H | (rw [hy514]; exact H) | exact H
        have Ny514 := zm hy514; clear hy514
        have H' := zm H
        clear H
        have p513 : 0 ≤ (x4_1 : Int) := zd
        have q513 : x4_1 < (l0.length : Int) := zd
        obtain ⟨ad513, e513, hx513_0⟩ := Kd.at_int HR0.out x4_1 p513 q513
        cases e513; replace hx513_0 := (HB.out.cell (World.block_lt_of_cell? w _ hx513_0)).trans hx513_0; replace p513 := eq_true p513; replace q513 := eq_true q513
        have p9 : 0 ≤ (x4_1 : Int) := zd
        have q9 : (x4_1 : Int) < ((x3_1.length : Int) : Int) := zd
        obtain ⟨go9, co9, eo9, gb9, gl9, cl9, HG9⟩ := Kd.R_form Za.out (by omega)
        (first | cases eo9 | (injection eo9 with ea_ en_ ec_; (first | subst ea_ | (injection ea_ with ea_; subst ea_)); subst ec_; clear en_))
        have GB9 := zm gb9; have GG9 := zm HG9; clear gb9 gl9 HG9
        obtain ⟨hx9_0, hf9_0⟩ := Kd.R_celln 0 Za.out (x4_1 : Int) p9 q9
        replace p9 := eq_true p9; replace q9 := eq_true q9; have Zb := Kd.R_putg Za.out (x4_1 : Int) (rd l0 x4_1)
        go_wp2_with (first | ((with_reducible refine gate_store (t := 3) (p := 20) rfl ?_); refine store_event (t := 3) (p := 20) (v := ?vo_w11) (w1 := (wr.setCell ⟨go9, (x4_1 : Int).toNat, none⟩ (.int .i64 (rd l0 x4_1)))) ?hg ?ho ?hn ?hr ?_; (case ho => rfl); (case hg => rfl); (case hn => rfl); (case hr => first | (go_simp; done) | (go_simp; rfl)); intro w11 hw; have hg : wr.grownBy w11 (some go9) := (by rw [hw]; exact Zb.2); have hp_ : Kd.R (Kd.int .i64) 3 w11 w.heap.size (fun _ => True) (.slice (some ⟨go9, 0, none⟩) x3_1.length co9) y514 := (by rw [hw, Ny514.out]; exact Zb.1); clear Zb; have n0_ := zm (hp_); have n1_ := zm ((by rw [hw]; exact below_set (HB.out) GB9.out : Below w.heap.size w w11)); replace Za := n0_; replace HB := n1_; clear n0_ n1_; clear hg hw hp_))
        go_roundg k1
        case measure => have := HK1.out; omega
        case rel => exact ⟨(y514), (wrap64 (x4_1 + 1)), zr, H', ⟨by have := HK1.out; omega⟩, ⟨zlR Za.out⟩, ⟨zg_1 HB.out⟩⟩
       ·rw [if_neg c8] at H
        exact absurd H (by simp)
      ·rw [if_neg c7] at H
       exact absurd H (by simp)
     ·rw [if_neg c6] at H
      have c6b0 := decide_eq_false c6; clear c6; obtain rfl := Option.some.inj H
      go_wp2
      go_ret
      exact ⟨_, ze, by (with_reducible repeat (first | apply Kd.R_alloc | apply Kd.R_drewN | apply Kd.R_drew)); exact Za.out, zg_1 HB.out⟩
  ·rw [if_neg c3] at H
   exact absurd H (by simp)
 ·rw [if_neg c2] at H
  exact absurd H (by simp)
def laws_toSnap.f (k : Nat) (a0_0 : ByteArray) (l0_1 : List Int) : Option (ByteArray × List Int) := (laws_toIntS.f k l0_1).bind fun t518 => (some (a0_0, t518))
theorem laws_toSnap.mono : ∀ a0 a1 k, LeO (laws_toSnap.f k a0 a1) (laws_toSnap.f (k + 1) a0 a1) := by
  intro a0 a1 k
  unfold laws_toSnap.f
  repeat' first| (with_reducible first | exact laws_toIntS.mono _ _ | exact LeO.refl _ | exact LeO.none _ | refine LeO.ite ?_ ?_ | refine LeO.bind ?_ (fun _ => ?_)) | exact laws_toIntS.mono _ _ | exact LeO.none _ | refine LeO.ite ?_ ?_ | refine LeO.bind ?_ (fun _ => ?_)
set_option maxHeartbeats 8000000 in
set_option maxRecDepth 100000 in
theorem laws_toSnap.calls (k : Nat) (a0_0 : ByteArray) (A0_1 : Option Addr) (c0_1 : Nat) (l0_1 : List Int) (r1 : ByteArray) (r2 : List Int) (w : World) (hr0_1 : Kd.C (Kd.int .i64) w A0_1 l0_1.length l0_1) (hc0_1 : l0_1.length ≤ c0_1) (h : laws_toSnap.f k a0_0 l0_1 = some (r1, r2)) :
    Calls Tryz.prog 88 #[.agg #[.string a0_0, .slice A0_1 l0_1.length c0_1]] w fun e w' => ∃ v1_ : Value, e = .returned (.agg #[.string r1, v1_]) ∧ Kd.R (Kd.int .i64) 3 w' w.heap.size (fun _ => True) v1_ r2 ∧ Below w.heap.size w w' := by
 have hu102 := Tryz.underlying102; have hu103 := Tryz.underlying103; have Zn := zm hr0_1; have Zo := zm hc0_1; clear hr0_1 hc0_1; have HB := zm (Below.refl w.heap.size w)
 have H : ((laws_toIntS.f k l0_1).bind fun t518 => (some (a0_0, t518))) = some (r1, r2) := h
 clear h; replace H := Option.bind_eq_some_iff.mp H
 obtain ⟨t518, A20, H⟩ := H
 replace H : (some (a0_0, t518)) = some (r1, r2) := H
 have A2 := zm A20; clear A20
 simp only [Option.some.injEq, Prod.mk.injEq] at H
 obtain ⟨rfl, rfl⟩ := H
 go_enter Tryz.func88, Tryz.ntmps88
 go_wp2_with (first | ((with_reducible refine gate_dst (N := 1) rfl ?_); refine box_event ?hg (N := 1) ?hd (cs := #[.string a0_0, .slice A0_1 l0_1.length c0_1]) (t := 102) ?hr ?_; (case hd => rfl); (case hg => rfl); (case hr => first | (go_simp; done) | (go_simp; rfl)); intro gb515 hg w3 hbox hb; have n0_ := zm (below_step (zg_1 HB.out) hb); have n1_ := zm (hbox); have n2_ := zm ((by rw [hg]; exact (below_size (zg_1 HB.out)) : w.heap.size ≤ gb515)); have n3_ := zm ((by rw [hg]; exact (below_size (zg_1 HB.out)) : w.heap.size ≤ gb515)); replace HB := n0_; have Za := n1_; have Zp := n2_; have Zd := n3_; clear n0_ n1_ n2_ n3_; clear hb hbox hg) | ((with_reducible refine gate_dst (N := 2) rfl ?_); refine box_event ?hg (N := 2) ?hd (cs := #[.string (⟨#[]⟩ : ByteArray), .slice none 0 0]) (t := 103) ?hr ?_; (case hd => rfl); (case hg => rfl); (case hr => first | (go_simp; done) | (go_simp; rfl)); intro gb516 hg w4 hbox hb; have n0_ := zm (blk_below (zg_3 Za.out) hb); have n1_ := zm (below_step (zg_2 HB.out Zd.out) hb); have n2_ := zm (hbox); have n3_ := zm ((by rw [hg]; exact (below_size (zg_2 HB.out Zd.out)) : w.heap.size ≤ gb516)); have n4_ := zm ((by rw [hg]; exact (below_size (zg_2 HB.out Zd.out)) : w.heap.size ≤ gb516)); have n5_ := zm ((by rw [hg]; exact Nat.ne_of_lt (blk_lt (zg_3 Za.out)) : gb515 ≠ gb516)); have n6_ := zm ((by rw [hg]; exact Nat.ne_of_gt (blk_lt (zg_3 Za.out)) : gb516 ≠ gb515)); replace Za := n0_; replace HB := n1_; have Zb := n2_; have Zq := n3_; have Zf := n4_; have Zi := n5_; have Zj := n6_; clear n0_ n1_ n2_ n3_ n4_ n5_ n6_; clear hb hbox hg) | ((with_reducible refine gate_dst (N := 3) rfl ?_); refine box_event ?hg (N := 3) ?hd (cs := #[.string (⟨#[]⟩ : ByteArray), .slice none 0 0]) (t := 103) ?hr ?_; (case hd => rfl); (case hg => rfl); (case hr => first | (go_simp; done) | (go_simp; rfl)); intro gb517 hg w5 hbox hb; have n0_ := zm (blk_below (zg_3 Za.out) hb); have n1_ := zm (blk_below (g := gb516) (o := .cells #[.string (⟨#[]⟩ : ByteArray), .slice none 0 0] 103 (0, 0)) (zg_3 Zb.out) hb); have n2_ := zm (below_step (zg_5 HB.out Zd.out Zf.out) hb); have n3_ := zm (hbox); have n4_ := zm ((by rw [hg]; exact (below_size (zg_5 HB.out Zd.out Zf.out)) : w.heap.size ≤ gb517)); have n5_ := zm ((by rw [hg]; exact (below_size (zg_5 HB.out Zd.out Zf.out)) : w.heap.size ≤ gb517)); have n6_ := zm ((by rw [hg]; exact Nat.ne_of_lt (blk_lt (zg_3 Za.out)) : gb515 ≠ gb517)); have n7_ := zm ((by rw [hg]; exact Nat.ne_of_gt (blk_lt (zg_3 Za.out)) : gb517 ≠ gb515)); have n8_ := zm ((by rw [hg]; exact Nat.ne_of_lt (blk_lt (g := gb516) (o := .cells #[.string (⟨#[]⟩ : ByteArray), .slice none 0 0] 103 (0, 0)) (zg_3 Zb.out)) : gb516 ≠ gb517)); have n9_ := zm ((by rw [hg]; exact Nat.ne_of_gt (blk_lt (g := gb516) (o := .cells #[.string (⟨#[]⟩ : ByteArray), .slice none 0 0] 103 (0, 0)) (zg_3 Zb.out)) : gb517 ≠ gb516)); replace Za := n0_; replace Zb := n1_; replace HB := n2_; have Zc := n3_; have Zr := n4_; have Zh := n5_; have Zg := n6_; have Zk := n7_; have Ze := n8_; have Zl := n9_; clear n0_ n1_ n2_ n3_ n4_ n5_ n6_ n7_ n8_ n9_; clear hb hbox hg; have hnb6 := Zi.out; have hnc6 := Zj.out; have hnb7 := Zg.out; have hnc7 := Zk.out; obtain ⟨hcz8_0, hcz8_1, hfz8_0, hfz8_1⟩ := zb2 Za.out; have hnb9 := Zl.out; have hnc9 := Ze.out; obtain ⟨hcz10_0, hcz10_1, hfz10_0, hfz10_1⟩ := zb2 Zc.out) | ((with_reducible refine gate_callee (f := 42) rfl ?_); refine goesL_ (some 9) rfl rfl Tryz.func42 (by kernel_rfl) rfl #[.slice A0_1 l0_1.length c0_1] rfl zq ?_; (with_reducible refine (laws_toIntS.calls k _ _ l0_1 t518 _ ?side1 ?side2 A2.out).mono ?_); (case side1 => exact Kd.C_below Zn.out (zg_9 HB.out Zd.out Zf.out Zh.out)); (case side2 => exact Zo.out); rintro e w11 ⟨v519, rfl, ho0, hb⟩; refine ⟨_, rfl, ?_⟩; have n0_ := zm (Kd.R_lower ho0 (below_size (zg_9 HB.out Zd.out Zf.out Zh.out))); have n1_ := zm (blk_below (g := gb515) (o := .cells #[.string a0_0, .slice A0_1 l0_1.length c0_1] 102 (0, 0)) (by (with_reducible repeat (first | refine blk_drewN ?_ _ | refine blk_drew ?_ | refine blk_alloc ?_ _)); refine blk_far ?_ Zg.out _; (with_reducible repeat (first | refine blk_drewN ?_ _ | refine blk_drew ?_ | refine blk_alloc ?_ _)); exact Za.out) hb); have n2_ := zm (blk_below (g := gb516) (o := .cells #[.string (⟨#[]⟩ : ByteArray), .slice none 0 0] 103 (0, 0)) (by (with_reducible repeat (first | refine blk_drewN ?_ _ | refine blk_drew ?_ | refine blk_alloc ?_ _)); refine blk_far ?_ Ze.out _; (with_reducible repeat (first | refine blk_drewN ?_ _ | refine blk_drew ?_ | refine blk_alloc ?_ _)); exact Zb.out) hb); have n3_ := zm (blk_below (g := gb517) (o := .cells #[.string a0_0, .slice none 0 0] 103 (0, 0)) (by (with_reducible repeat (first | refine blk_drewN ?_ _ | refine blk_drew ?_ | refine blk_alloc ?_ _)); refine blk_put (cs := #[.string (⟨#[]⟩ : ByteArray), .slice none 0 0]) ?_ 0 _ rfl; (with_reducible repeat (first | refine blk_drewN ?_ _ | refine blk_drew ?_ | refine blk_alloc ?_ _)); exact Zc.out) hb); have n4_ := zm (below_step (zg_9 HB.out Zd.out Zf.out Zh.out) hb); have Zm := n0_; replace Za := n1_; replace Zb := n2_; replace Zc := n3_; replace HB := n4_; clear n0_ n1_ n2_ n3_ n4_; (try clear hb); (try clear hb2); (try clear hk); (try clear hi); (try clear ho0); obtain ⟨Ao12, co12, eo12⟩ := Kd.R_slice Zm.out; subst eo12; obtain ⟨hcz13_0, hcz13_1, hfz13_0, hfz13_1⟩ := zb2 Zc.out; obtain ⟨hcz14_0, hcz14_1, hfz14_0, hfz14_1⟩ := zb2 Zb.out))
 refine bodyPost_ret (results_cell_row rfl _ _ gb516 103 #[.string a0_0, .slice Ao12 t518.length co12] (0, 0) _ rfl (by (with_reducible repeat (first | refine blk_drewN ?_ _ | refine blk_drew ?_ | refine blk_alloc ?_ _)); refine blk_put (cs := #[.string a0_0, .slice none 0 0]) ?_ 1 _ rfl; (with_reducible repeat (first | refine blk_drewN ?_ _ | refine blk_drew ?_ | refine blk_alloc ?_ _)); refine blk_put (cs := #[.string (⟨#[]⟩ : ByteArray), .slice none 0 0]) ?_ 0 _ rfl; (with_reducible repeat (first | refine blk_drewN ?_ _ | refine blk_drew ?_ | refine blk_alloc ?_ _)); refine blk_far ?_ Ze.out _; (with_reducible repeat (first | refine blk_drewN ?_ _ | refine blk_drew ?_ | refine blk_alloc ?_ _)); exact Zb.out) Tryz.underlying103 rfl (by kernel_rfl)) rfl ?_
 exact ⟨_, ze, by (with_reducible repeat (first | apply Kd.R_alloc | apply Kd.R_drewN | apply Kd.R_drew)); exact Kd.R_mono (Kd.R_far (Kd.R_far (Kd.R_far (Kd.R_types (Kd.R_types Zm.out Zc.out (by decide)) Zb.out (by decide)) (fun _ hk => hk.1.2) (.slice Ao12 t518.length co12)) (fun _ hk => hk.2) _) (fun _ hk => hk.2) _) (fun _ hk => trivial), zg_9 HB.out Zd.out Zf.out Zh.out⟩
def laws_toSnapS.l0 : Nat → List (S102) → List (S103) → Int → Option ((List (S103)))
  | 0, _, _, _ => none
  | k + 1, x0, x3, x4 => if x4 < (x0.length : Int) then (if 0 ≤ x4 then ((laws_toSnap.f k ((rd_T102 x0 x4).f0) ((rd_T102 x0 x4).f1)).bind fun bt525 => (if x4 < (x3.length : Int) then (laws_toSnapS.l0 k x0 (x3.set (x4 : Int).toNat (⟨bt525.1, bt525.2⟩ : S103)) (wrap64 (x4 + 1))) else (none))) else (none)) else (some x3)
def laws_toSnapS.f (k : Nat) (l0 : List (S102)) : Option ((List (S103))) := if 0 ≤ (l0.length : Int) then (if ((l0.length : Int) : Int).toNat ≤ 7036874417766 then (laws_toSnapS.l0 k l0 (List.replicate ((l0.length : Int) : Int).toNat z103) 0) else (none)) else (none)
theorem laws_toSnapS.mono_l : ∀ k, (∀ y0 y1 y2, LeO (laws_toSnapS.l0 k y0 y1 y2) (laws_toSnapS.l0 (k + 1) y0 y1 y2))
  | 0 => fun _ _ _ r h => by simp [laws_toSnapS.l0] at h
  | k + 1 => by
    have ih0 := laws_toSnapS.mono_l k
    · intro y0 y1 y2
      unfold laws_toSnapS.l0
      repeat' first| (with_reducible first | exact ih0 _ _ _ | exact laws_toSnap.mono _ _ _ | exact LeO.refl _ | exact LeO.none _ | refine LeO.ite ?_ ?_ | refine LeO.bind ?_ (fun _ => ?_)) | exact ih0 _ _ _ | exact laws_toSnap.mono _ _ _ | exact LeO.none _ | refine LeO.ite ?_ ?_ | refine LeO.bind ?_ (fun _ => ?_)
theorem laws_toSnapS.mono : ∀ a0 k, LeO (laws_toSnapS.f k a0) (laws_toSnapS.f (k + 1) a0) := by
  intro a0 k
  have ih0 := laws_toSnapS.mono_l k
  unfold laws_toSnapS.f
  repeat' first| (with_reducible first | exact ih0 _ _ _ | exact laws_toSnap.mono _ _ _ | exact LeO.refl _ | exact LeO.none _ | refine LeO.ite ?_ ?_ | refine LeO.bind ?_ (fun _ => ?_)) | exact ih0 _ _ _ | exact laws_toSnap.mono _ _ _ | exact LeO.none _ | refine LeO.ite ?_ ?_ | refine LeO.bind ?_ (fun _ => ?_)
set_option maxHeartbeats 8000000 in
set_option maxRecDepth 100000 in
theorem laws_toSnapS.calls (k : Nat) (A0 : Option Addr) (c0 : Nat) (l0 : List (S102)) (r : List (S103)) (w : World) (hr0 : Kd.C k102 w A0 l0.length l0) (hc0 : l0.length ≤ c0) (h : laws_toSnapS.f k l0 = some r) :
    Calls Tryz.prog 43 #[.slice A0 l0.length c0] w fun e w' => ∃ v0_ : Value, e = .returned (v0_) ∧ Kd.S k103 103 w' w.heap.size (fun _ => True) v0_ r ∧ Below w.heap.size w w' := by
 have hu102 := Tryz.underlying102; have hu103 := Tryz.underlying103; have HR0 := zm hr0; have HC0 := zm hc0; clear hr0 hc0; have HB := zm (Below.refl w.heap.size w); have H := h
 unfold laws_toSnapS.f at H
 clear h
 by_cases c2 : 0 ≤ (l0.length : Int)
 ·rw [if_pos c2] at H
  have c2b0 := eq_true c2; have c2b1 := decide_eq_true c2; clear c2
  by_cases c3 : ((l0.length : Int) : Int).toNat ≤ 7036874417766
  ·rw [if_pos c3] at H
   have c3b0 := eq_true c3; have c3b1 := decide_eq_true c3; clear c3
   obtain ⟨y521, hy521⟩ : ∃ y_ : List (S103), y_ = (List.replicate ((l0.length : Int) : Int).toNat z103) := ⟨_, rfl⟩
   replace H : (laws_toSnapS.l0 k l0 y521 0) = some r := by first | (rw [hy521]; with_reducible exact H) | (have H2_ := (Option.bind_some _ _).symm.trans H; rw [hy521]; with_reducible exact H2_) | (have H2_ := (Option.bind_some _ _).symm.trans H; with_reducible exact H2_) | with_reducible exact H | (rw [hy521]; exact H) | exact H
   have Ny521 := zm hy521; clear hy521
   have H' := zm H
   clear H
   go_enter Tryz.func43, Tryz.ntmps43
   go_wp2_with (first | ((with_reducible refine gate_dst (N := 7) rfl ?_); refine Kd.S_make k103 _ 103 rfl (N := 7) rfl 24 _ _ rfl (l0.length : Int) rfl rfl Tryz.underlying24 (.agg #[(.string ⟨#[]⟩), (.slice none 0 0)]) 40 info103 rfl (by decide) (by omega) z103 (ok := fun _ => True) (okp := fun _ => True) (k103_mkM _ _ _ z103 (Kd.R_nil _ _ _ _ _)) (fun _ hk => hk) trivial (zd) (Nat.le_trans (Nat.mul_le_mul_right _ (zd : (l0.length : Int).toNat ≤ 7036874417766)) (by omega)) (Below.refl _ _) (Nat.le_refl _) ?_; intro v522 w4 ho5 hb hg_ hnew_; clear hg_ hnew_; (first | rw [← Ny521.out] at ho5 | (simp only [Int.reduceToNat] at ho5; rw [← Ny521.out] at ho5)); have n0_ := zm (Kd.S_lower ho5 (below_size (zg_1 HB.out))); have n1_ := zm (below_step (zg_1 HB.out) hb); have Zf := n0_; replace HB := n1_; clear n0_ n1_; clear hb ho5))
   go_loopg [4] k (fun kq v4 w' => ∃ (x3_1 : List (S103)) (x4_1 : Int), v4 = .int .i64 x4_1 ∧ Aside0 (laws_toSnapS.l0 kq l0 x3_1 x4_1 = some r) ∧ Aside0 (kq ≤ k) ∧ Aside0 (Kd.S k103 103 w' w.heap.size (fun _ => True) v522 x3_1) ∧ Aside0 (Below w.heap.size w w'))
   case atStart => exact ⟨(y521), (0), zr, H', ⟨Nat.le_refl _⟩, ⟨zlS Zf.out⟩, ⟨zg_1 HB.out⟩⟩
   case round =>
    clear H'
    try clear c2
    try clear c2b0
    try clear c2b1
    try clear p2
    try clear c3
    try clear c3b0
    try clear c3b1
    try clear c4
    obtain ⟨x3_1, x4_1, rfl, HA, HK1, Za, HB⟩ := hrel
    cases gk with
    | zero => exact absurd HA.out (by simp [laws_toSnapS.l0])
    | succ k1 =>
     have H := HA.out; clear HA
     simp only [laws_toSnapS.l0] at H
     by_cases c6 : x4_1 < (l0.length : Int)
     ·rw [if_pos c6] at H
      have c6b0 := decide_eq_true c6; clear c6
      by_cases c7 : 0 ≤ x4_1
      ·rw [if_pos c7] at H
       have c7b0 := decide_eq_true c7; clear c7; replace H := Option.bind_eq_some_iff.mp H
       obtain ⟨⟨t525, t526⟩, A80, H⟩ := H
       try dsimp only at H
       have A8 := zm A80; clear A80
       by_cases c9 : x4_1 < (x3_1.length : Int)
       ·rw [if_pos c9] at H
        have c9b0 := decide_eq_true c9; clear c9
        obtain ⟨y529, hy529⟩ : ∃ y_ : List (S103), y_ = (x3_1.set (x4_1 : Int).toNat (⟨t525, t526⟩ : S103)) := ⟨_, rfl⟩
        replace H : (laws_toSnapS.l0 k1 l0 y529 (wrap64 (x4_1 + 1))) = some r := by first | (rw [hy529]; with_reducible exact H) | (have H2_ := (Option.bind_some _ _).symm.trans H; rw [hy529]; with_reducible exact H2_) | (have H2_ := (Option.bind_some _ _).symm.trans H; with_reducible exact H2_) | with_reducible exact H | (rw [hy529]; exact H) | exact H
        have Ny529 := zm hy529; clear hy529
        have H' := zm H
        clear H
        have p524 : 0 ≤ (x4_1 : Int) := zd
        have q524 : x4_1 < (l0.length : Int) := zd
        obtain ⟨ad524, A524_1, c524_1, e524, hx524_0, hx524_1, hl524_1, hi524_1⟩ := at_T102 HR0.out x4_1 p524 q524
        cases e524; replace hx524_0 := (HB.out.cell (World.block_lt_of_cell? w _ hx524_0)).trans hx524_0; replace hx524_1 := (HB.out.cell (World.block_lt_of_cell? w _ hx524_1)).trans hx524_1; have Zc := zm hi524_1; have Zd := zm hl524_1; clear hi524_1 hl524_1; replace p524 := eq_true p524; replace q524 := eq_true q524
        go_wp2_with (first | ((with_reducible refine gate_callee (f := 88) rfl ?_); refine goesL_ (some 20) rfl rfl Tryz.func88 (by kernel_rfl) rfl #[.agg #[.string ((rd_T102 l0 x4_1).f0), .slice A524_1 ((rd_T102 l0 x4_1).f1).length c524_1]] rfl zq ?_; (with_reducible refine (laws_toSnap.calls k1 ((rd_T102 l0 x4_1).f0) _ _ ((rd_T102 l0 x4_1).f1) t525 t526 _ ?side1 ?side2 A8.out).mono ?_); (case side1 => exact zC (Kd.C_below Zc.out HB.out)); (case side2 => exact Zd.out); rintro e w11 ⟨v527, rfl, ho0, hb⟩; refine ⟨_, rfl, ?_⟩; have n0_ := zm (Kd.S_elder' (zg_8 Za.out) (Kd.R_base ho0) hb); have n1_ := zm (Kd.R_lower ho0 (below_size (zg_1 HB.out))); have n2_ := zm (below_step (zg_1 HB.out) hb); replace Za := n0_; have Zb := n1_; replace HB := n2_; clear n0_ n1_ n2_; (try clear hb); (try clear hb2); (try clear hk); (try clear hi); (try clear ho0); have p10 : 0 ≤ (x4_1 : Int) := zd; have q10 : (x4_1 : Int) < ((x3_1.length : Int) : Int) := zd; obtain ⟨go10, co10, eo10, gb10, gl10, cl10, HG10⟩ := Kd.S_form Za.out (by omega); (first | cases eo10 | (injection eo10 with ea_ en_ ec_; (first | subst ea_ | (injection ea_ with ea_; subst ea_)); subst ec_; clear en_)); have GB10 := zm gb10; have Zh := zm HG10; clear gb10 gl10 HG10; obtain ⟨_, ce10, hcl10, hM10, hcc10, hfr10, _, _⟩ := Kd.S_elem Za.out z103 (x4_1 : Int) p10 q10; obtain ⟨ve10_1, rfl, ge10_1⟩ := k103_openM hM10; have hx10_0 : w11.cell? ⟨go10, (x4_1 : Int).toNat * 2, none⟩ = some (.string ((rd_T103 x3_1 x4_1).f0)) := hcc10 0 _ rfl; have hx10_1 : w11.cell? ⟨go10, (x4_1 : Int).toNat * 2 + 1, none⟩ = some (ve10_1) := hcc10 1 _ rfl; have hf10_0 : w11.frozen? ⟨go10, (x4_1 : Int).toNat * 2, none⟩ = false := hfr10 0; have hf10_1 : w11.frozen? ⟨go10, (x4_1 : Int).toNat * 2 + 1, none⟩ = false := hfr10 1; clear hcl10 hcc10 hfr10 hM10; replace p10 := eq_true p10; replace q10 := eq_true q10; obtain ⟨Ao12, co12, eo12⟩ := Kd.R_slice Zb.out; subst eo12; have n_ := zm (Kd.S_mono (ok' := (fun k_ => some k_ ≠ (.slice Ao12 t526.length co12 : Value).ownBlock)) Za.out (fun k_ hk => hk.2)); replace Za := n_; clear n_; have Zg := zm (show Kd.S k103 103 w11 w.heap.size (fun k_ => ((fun _ => True)) k_ ∧ ¬ ((fun k_ => some k_ = (.slice Ao12 t526.length co12 : Value).ownBlock)) k_) (.slice (some ⟨go10, 0, none⟩) x3_1.length co10) x3_1 from (by (with_reducible repeat (first | apply Kd.S_alloc | apply Kd.S_drewN | apply Kd.S_drew)); exact Kd.S_mono Za.out (fun k_ hk => ⟨trivial, fun e_ => hk e_⟩))); obtain ⟨oki13, ce13, hcl13, hM13, hcc13, hfr13, hoki13, hH13⟩ := Kd.S_elem Zg.out z103 (x4_1 : Int) (zd) (by have h_ : (x4_1 : Int) < ((x3_1.length : Int) : Int) := zd; first | exact h_ | (have e_ := (Kd.S_reads' Za.out).1; omega) | simpa using h_); obtain ⟨ve13_1, rfl, ge13_1⟩ := k103_openM hM13; have Ze := Kd.S_seg hH13 (zd) (by have h_ : (x4_1 : Int) < ((x3_1.length : Int) : Int) := zd; first | exact h_ | (have e_ := (Kd.S_reads' Za.out).1; omega) | simpa using h_) (seg := [.string t525, .slice Ao12 t526.length co12]) (j := 0) (show 2 ≤ 2 from by decide) (x' := (⟨t525, t526⟩ : S103)) (k103_mkM _ _ _ (⟨t525, t526⟩ : S103) (Kd.R_mono (Kd.R_tight rfl (Kd.R_mono (ok' := fun k_ => ((fun _ => True)) k_ ∧ k_ ≠ go10) (Kd.R_apart' (Zb.out) (Kd.S_typed Za.out) (by decide)) (fun k_ hk => ⟨trivial, fun e_ => (hk.2) (by rw [e_]; rfl)⟩))) (fun _ h_ => Or.inr (h_)))) (fun _ hk => hk) (fun k_ hk_ => ((Kd.R_mono (ok' := fun k_ => ((fun _ => True)) k_ ∧ k_ ≠ go10) (Kd.R_apart' (Zb.out) (Kd.S_typed Za.out) (by decide)) (fun k_ hk => ⟨trivial, fun e_ => (hk.2) (by rw [e_]; rfl)⟩))).1 k_ hk_.symm); have hx13_0 := hcc13 0 _ rfl; (try simp only [show (k103).sz = 2 from rfl, Nat.mul_one, Nat.add_zero] at hx13_0); have hf13_0 := hfr13 0; (try simp only [show (k103).sz = 2 from rfl, Nat.mul_one, Nat.add_zero] at hf13_0); have hx13_1 := hcc13 1 _ rfl; (try simp only [show (k103).sz = 2 from rfl, Nat.mul_one, Nat.add_zero] at hx13_1); have hf13_1 := hfr13 1; (try simp only [show (k103).sz = 2 from rfl, Nat.mul_one, Nat.add_zero] at hf13_1); clear hcl13 hcc13 hfr13 hM13 hoki13 hH13) | ((with_reducible refine gate_store (t := 103) (p := 21) rfl ?_); refine store_event (t := 103) (p := 21) (v := ?vo_w14) (w1 := ((w11.setCell ⟨go10, (x4_1 : Int).toNat * 2, none⟩ (.string t525)).setCell ⟨go10, (x4_1 : Int).toNat * 2 + 1, none⟩ (.slice Ao12 t526.length co12))) ?hg ?ho ?hn ?hr ?_; (case ho => rfl); (case hg => rfl); (case hn => rfl); (case hr => first | (go_simp; done) | (go_simp; rfl)); intro w14 hw; have hg : w11.grownBy w14 (some go10) := (by rw [hw]; exact Ze.2); have hp_ : Kd.S k103 103 w14 w.heap.size (fun _ => True) (.slice (some ⟨go10, 0, none⟩) x3_1.length co10) y529 := (by rw [hw, Ny529.out]; exact Ze.1); clear Ze; have n0_ := zm (hp_); have n1_ := zm ((by rw [hw]; exact below_set (below_set (HB.out) GB10.out) GB10.out : Below w.heap.size w w14)); clear Zb; replace Za := n0_; replace HB := n1_; clear n0_ n1_; clear hg hw hp_))
        go_roundg k1
        case measure => have := HK1.out; omega
        case rel => exact ⟨(y529), (wrap64 (x4_1 + 1)), zr, H', ⟨by have := HK1.out; omega⟩, ⟨zlS Za.out⟩, ⟨zg_1 HB.out⟩⟩
       ·rw [if_neg c9] at H
        exact absurd H (by simp)
      ·rw [if_neg c7] at H
       exact absurd H (by simp)
     ·rw [if_neg c6] at H
      have c6b0 := decide_eq_false c6; clear c6; obtain rfl := Option.some.inj H
      go_wp2
      go_ret
      exact ⟨_, ze, by (with_reducible repeat (first | apply Kd.S_alloc | apply Kd.S_drewN | apply Kd.S_drew)); exact Za.out, zg_1 HB.out⟩
  ·rw [if_neg c3] at H
   exact absurd H (by simp)
 ·rw [if_neg c2] at H
  exact absurd H (by simp)
def laws_toImage.f (k : Nat) (l0_0 : List Int) (l0_1 : List Int) (l0_2 : List (S102)) (l0_3 : List Int) : Option (List Int × List Int × (List (S103)) × List Int) := (laws_toIntS.f k l0_0).bind fun t533 => ((laws_toIntS.f k l0_1).bind fun t536 => ((laws_toSnapS.f k l0_2).bind fun t539 => ((laws_toIntS.f k l0_3).bind fun t542 => (some (t533, t536, t539, t542)))))
theorem laws_toImage.mono : ∀ a0 a1 a2 a3 k, LeO (laws_toImage.f k a0 a1 a2 a3) (laws_toImage.f (k + 1) a0 a1 a2 a3) := by
  intro a0 a1 a2 a3 k
  unfold laws_toImage.f
  repeat' first| (with_reducible first | exact laws_toIntS.mono _ _ | exact laws_toSnapS.mono _ _ | exact LeO.refl _ | exact LeO.none _ | refine LeO.ite ?_ ?_ | refine LeO.bind ?_ (fun _ => ?_)) | exact laws_toIntS.mono _ _ | exact laws_toSnapS.mono _ _ | exact LeO.none _ | refine LeO.ite ?_ ?_ | refine LeO.bind ?_ (fun _ => ?_)
set_option maxHeartbeats 8000000 in
set_option maxRecDepth 100000 in
theorem laws_toImage.calls (k : Nat) (A0_0 : Option Addr) (c0_0 : Nat) (l0_0 : List Int) (A0_1 : Option Addr) (c0_1 : Nat) (l0_1 : List Int) (A0_2 : Option Addr) (c0_2 : Nat) (l0_2 : List (S102)) (A0_3 : Option Addr) (c0_3 : Nat) (l0_3 : List Int) (r1 : List Int) (r2 : List Int) (r3 : List (S103)) (r4 : List Int) (w : World) (hr0_0 : Kd.C (Kd.int .i64) w A0_0 l0_0.length l0_0) (hc0_0 : l0_0.length ≤ c0_0) (hr0_1 : Kd.C (Kd.int .i64) w A0_1 l0_1.length l0_1) (hc0_1 : l0_1.length ≤ c0_1) (hr0_2 : Kd.C k102 w A0_2 l0_2.length l0_2) (hc0_2 : l0_2.length ≤ c0_2) (hr0_3 : Kd.C (Kd.int .i64) w A0_3 l0_3.length l0_3) (hc0_3 : l0_3.length ≤ c0_3) (h : laws_toImage.f k l0_0 l0_1 l0_2 l0_3 = some (r1, r2, r3, r4)) :
    Calls Tryz.prog 16 #[.agg #[.slice A0_0 l0_0.length c0_0, .slice A0_1 l0_1.length c0_1, .slice A0_2 l0_2.length c0_2, .slice A0_3 l0_3.length c0_3]] w fun e w' => ∃ v0_ v1_ v2_ v3_ : Value, e = .returned (.agg #[v0_, v1_, v2_, v3_]) ∧ Kd.R (Kd.int .i64) 3 w' w.heap.size (fun k_ => some k_ ≠ (v1_ : Value).ownBlock ∧ some k_ ≠ (v3_ : Value).ownBlock) v0_ r1 ∧ Kd.R (Kd.int .i64) 3 w' w.heap.size (fun k_ => some k_ ≠ (v0_ : Value).ownBlock ∧ some k_ ≠ (v3_ : Value).ownBlock) v1_ r2 ∧ Kd.S k103 103 w' w.heap.size (fun k_ => some k_ ≠ (v0_ : Value).ownBlock ∧ some k_ ≠ (v1_ : Value).ownBlock ∧ some k_ ≠ (v3_ : Value).ownBlock) v2_ r3 ∧ Kd.R (Kd.int .i64) 3 w' w.heap.size (fun k_ => some k_ ≠ (v0_ : Value).ownBlock ∧ some k_ ≠ (v1_ : Value).ownBlock) v3_ r4 ∧ Below w.heap.size w w' := by
 have hu36 := Tryz.underlying36; have hu26 := Tryz.underlying26; have Zq := zm hr0_0; have Zr := zm hc0_0; clear hr0_0 hc0_0; have Zs := zm hr0_1; have Zt := zm hc0_1; clear hr0_1 hc0_1; have Zu := zm hr0_2; have Zv := zm hc0_2; clear hr0_2 hc0_2; have Zw := zm hr0_3; have Zx := zm hc0_3; clear hr0_3 hc0_3; have HB := zm (Below.refl w.heap.size w); have H := h
 unfold laws_toImage.f at H
 clear h; replace H := Option.bind_eq_some_iff.mp H
 obtain ⟨t533, A20, H⟩ := H
 try dsimp only at H
 have A2 := zm A20; clear A20; replace H := Option.bind_eq_some_iff.mp H
 obtain ⟨t536, A30, H⟩ := H
 try dsimp only at H
 have A3 := zm A30; clear A30; replace H := Option.bind_eq_some_iff.mp H
 obtain ⟨t539, A40, H⟩ := H
 try dsimp only at H
 have A4 := zm A40; clear A40; replace H := Option.bind_eq_some_iff.mp H
 obtain ⟨t542, A50, H⟩ := H
 try dsimp only at H
 have A5 := zm A50; clear A50
 simp only [Option.some.injEq, Prod.mk.injEq] at H
 obtain ⟨rfl, rfl, rfl, rfl⟩ := H
 go_enter Tryz.func16, Tryz.ntmps16
 go_wp2_with (first | ((with_reducible refine gate_dst (N := 1) rfl ?_); refine box_event ?hg (N := 1) ?hd (cs := #[.slice A0_0 l0_0.length c0_0, .slice A0_1 l0_1.length c0_1, .slice A0_2 l0_2.length c0_2, .slice A0_3 l0_3.length c0_3]) (t := 36) ?hr ?_; (case hd => rfl); (case hg => rfl); (case hr => first | (go_simp; done) | (go_simp; rfl)); intro gb530 hg w6 hbox hb; have n0_ := zm (below_step (zg_1 HB.out) hb); have n1_ := zm (hbox); have n2_ := zm ((by rw [hg]; exact (below_size (zg_1 HB.out)) : w.heap.size ≤ gb530)); have n3_ := zm ((by rw [hg]; exact (below_size (zg_1 HB.out)) : w.heap.size ≤ gb530)); replace HB := n0_; have Zb := n1_; have Zy := n2_; have Zd := n3_; clear n0_ n1_ n2_ n3_; clear hb hbox hg) | ((with_reducible refine gate_dst (N := 2) rfl ?_); refine box_event ?hg (N := 2) ?hd (cs := #[.slice none 0 0, .slice none 0 0, .slice none 0 0, .slice none 0 0]) (t := 26) ?hr ?_; (case hd => rfl); (case hg => rfl); (case hr => first | (go_simp; done) | (go_simp; rfl)); intro gb531 hg w7 hbox hb; have n0_ := zm (blk_below (zg_3 Zb.out) hb); have n1_ := zm (below_step (zg_2 HB.out Zd.out) hb); have n2_ := zm (hbox); have n3_ := zm ((by rw [hg]; exact (below_size (zg_2 HB.out Zd.out)) : w.heap.size ≤ gb531)); have n4_ := zm ((by rw [hg]; exact (below_size (zg_2 HB.out Zd.out)) : w.heap.size ≤ gb531)); have n5_ := zm ((by rw [hg]; exact Nat.ne_of_lt (blk_lt (zg_3 Zb.out)) : gb530 ≠ gb531)); have n6_ := zm ((by rw [hg]; exact Nat.ne_of_gt (blk_lt (zg_3 Zb.out)) : gb531 ≠ gb530)); replace Zb := n0_; replace HB := n1_; have Zc := n2_; have Zz := n3_; have Ze := n4_; have Zl := n5_; have Zm := n6_; clear n0_ n1_ n2_ n3_ n4_ n5_ n6_; clear hb hbox hg) | ((with_reducible refine gate_dst (N := 3) rfl ?_); refine box_event ?hg (N := 3) ?hd (cs := #[.slice none 0 0, .slice none 0 0, .slice none 0 0, .slice none 0 0]) (t := 26) ?hr ?_; (case hd => rfl); (case hg => rfl); (case hr => first | (go_simp; done) | (go_simp; rfl)); intro gb532 hg w8 hbox hb; have n0_ := zm (blk_below (zg_3 Zb.out) hb); have n1_ := zm (blk_below (zg_3 Zc.out) hb); have n2_ := zm (below_step (zg_5 HB.out Zd.out Ze.out) hb); have n3_ := zm (hbox); have n4_ := zm ((by rw [hg]; exact (below_size (zg_5 HB.out Zd.out Ze.out)) : w.heap.size ≤ gb532)); have n5_ := zm ((by rw [hg]; exact (below_size (zg_5 HB.out Zd.out Ze.out)) : w.heap.size ≤ gb532)); have n6_ := zm ((by rw [hg]; exact Nat.ne_of_lt (blk_lt (zg_3 Zb.out)) : gb530 ≠ gb532)); have n7_ := zm ((by rw [hg]; exact Nat.ne_of_gt (blk_lt (zg_3 Zb.out)) : gb532 ≠ gb530)); have n8_ := zm ((by rw [hg]; exact Nat.ne_of_lt (blk_lt (zg_3 Zc.out)) : gb531 ≠ gb532)); have n9_ := zm ((by rw [hg]; exact Nat.ne_of_gt (blk_lt (zg_3 Zc.out)) : gb532 ≠ gb531)); replace Zb := n0_; replace Zc := n1_; replace HB := n2_; have Za := n3_; have ZA := n4_; have Zh := n5_; have Zi := n6_; have Zn := n7_; have Zg := n8_; have Zo := n9_; clear n0_ n1_ n2_ n3_ n4_ n5_ n6_ n7_ n8_ n9_; clear hb hbox hg; have hnb9 := Zl.out; have hnc9 := Zm.out; have hnb10 := Zi.out; have hnc10 := Zn.out; obtain ⟨hcz11_0, hcz11_1, hcz11_2, hcz11_3, hfz11_0, hfz11_1, hfz11_2, hfz11_3⟩ := zb4 Zb.out) | ((with_reducible refine gate_callee (f := 42) rfl ?_); refine goesL_ (some 6) rfl rfl Tryz.func42 (by kernel_rfl) rfl #[.slice A0_0 l0_0.length c0_0] rfl zq ?_; (with_reducible refine (laws_toIntS.calls k _ _ l0_0 t533 _ ?side1 ?side2 A2.out).mono ?_); (case side1 => exact zC (Kd.C_below Zq.out HB.out)); (case side2 => exact Zr.out); rintro e w12 ⟨v534, rfl, ho0, hb⟩; refine ⟨_, rfl, ?_⟩; have n0_ := zm (Kd.R_lower ho0 (below_size (zg_9 HB.out Zd.out Ze.out Zh.out))); have n1_ := zm (blk_below (zg_3 Zb.out) hb); have n2_ := zm (blk_below (zg_3 Zc.out) hb); have n3_ := zm (blk_below (zg_3 Za.out) hb); have n4_ := zm (below_step (zg_9 HB.out Zd.out Ze.out Zh.out) hb); have Zf := n0_; replace Zb := n1_; replace Zc := n2_; replace Za := n3_; replace HB := n4_; clear n0_ n1_ n2_ n3_ n4_; (try clear hb); (try clear hb2); (try clear hk); (try clear hi); (try clear ho0); obtain ⟨Ao13, co13, eo13⟩ := Kd.R_slice Zf.out; subst eo13; have hnb14 := Zo.out; have hnc14 := Zg.out; obtain ⟨hcz15_0, hcz15_1, hcz15_2, hcz15_3, hfz15_0, hfz15_1, hfz15_2, hfz15_3⟩ := zb4 Za.out; obtain ⟨hcz16_0, hcz16_1, hcz16_2, hcz16_3, hfz16_0, hfz16_1, hfz16_2, hfz16_3⟩ := zb4 Zb.out) | ((with_reducible refine gate_callee (f := 42) rfl ?_); refine goesL_ (some 10) rfl rfl Tryz.func42 (by kernel_rfl) rfl #[.slice A0_1 l0_1.length c0_1] rfl zq ?_; (with_reducible refine (laws_toIntS.calls k _ _ l0_1 t536 _ ?side1 ?side2 A3.out).mono ?_); (case side1 => exact Kd.C_below Zs.out (zg_9 HB.out Zd.out Ze.out Zh.out)); (case side2 => exact Zt.out); rintro e w17 ⟨v537, rfl, ho0, hb⟩; refine ⟨_, rfl, ?_⟩; have n0_ := zm (Kd.R_elder' (by (with_reducible repeat (first | apply Kd.R_alloc | apply Kd.R_drewN | apply Kd.R_drew)); exact (Kd.R_mono (Kd.R_far (Kd.R_types Zf.out Za.out (by decide)) (fun _ hk => hk.2) _) (fun _ h_ => h_.1))) (Kd.R_base ho0) hb); have n1_ := zm (Kd.R_lower (Kd.R_new' ho0 (Kd.R_lt (by (with_reducible repeat (first | apply Kd.R_alloc | apply Kd.R_drewN | apply Kd.R_drew)); exact (Kd.R_mono (Kd.R_far (Kd.R_types Zf.out Za.out (by decide)) (fun _ hk => hk.2) _) (fun _ h_ => h_.1))))) (below_size (zg_9 HB.out Zd.out Ze.out Zh.out))); have n2_ := zm (blk_below (g := gb530) (o := .cells #[.slice A0_0 l0_0.length c0_0, .slice A0_1 l0_1.length c0_1, .slice A0_2 l0_2.length c0_2, .slice A0_3 l0_3.length c0_3] 36 (0, 0)) (by (with_reducible repeat (first | refine blk_drewN ?_ _ | refine blk_drew ?_ | refine blk_alloc ?_ _)); refine blk_far ?_ Zi.out _; (with_reducible repeat (first | refine blk_drewN ?_ _ | refine blk_drew ?_ | refine blk_alloc ?_ _)); exact Zb.out) hb); have n3_ := zm (blk_below (g := gb531) (o := .cells #[.slice none 0 0, .slice none 0 0, .slice none 0 0, .slice none 0 0] 26 (0, 0)) (by (with_reducible repeat (first | refine blk_drewN ?_ _ | refine blk_drew ?_ | refine blk_alloc ?_ _)); refine blk_far ?_ Zg.out _; (with_reducible repeat (first | refine blk_drewN ?_ _ | refine blk_drew ?_ | refine blk_alloc ?_ _)); exact Zc.out) hb); have n4_ := zm (blk_below (g := gb532) (o := .cells #[.slice Ao13 t533.length co13, .slice none 0 0, .slice none 0 0, .slice none 0 0] 26 (0, 0)) (by (with_reducible repeat (first | refine blk_drewN ?_ _ | refine blk_drew ?_ | refine blk_alloc ?_ _)); refine blk_put (cs := #[.slice none 0 0, .slice none 0 0, .slice none 0 0, .slice none 0 0]) ?_ 0 _ rfl; (with_reducible repeat (first | refine blk_drewN ?_ _ | refine blk_drew ?_ | refine blk_alloc ?_ _)); exact Za.out) hb); have n5_ := zm (below_step (zg_9 HB.out Zd.out Ze.out Zh.out) hb); replace Zf := n0_; have Zj := n1_; replace Zb := n2_; replace Zc := n3_; replace Za := n4_; replace HB := n5_; clear n0_ n1_ n2_ n3_ n4_ n5_; (try clear hb); (try clear hb2); (try clear hk); (try clear hi); (try clear ho0); obtain ⟨Ao18, co18, eo18⟩ := Kd.R_slice Zj.out; subst eo18; obtain ⟨hcz19_0, hcz19_1, hcz19_2, hcz19_3, hfz19_0, hfz19_1, hfz19_2, hfz19_3⟩ := zb4 Za.out; obtain ⟨hcz20_0, hcz20_1, hcz20_2, hcz20_3, hfz20_0, hfz20_1, hfz20_2, hfz20_3⟩ := zb4 Zb.out) | ((with_reducible refine gate_callee (f := 43) rfl ?_); refine goesL_ (some 14) rfl rfl Tryz.func43 (by kernel_rfl) rfl #[.slice A0_2 l0_2.length c0_2] rfl zq ?_; (with_reducible refine (laws_toSnapS.calls k _ _ l0_2 t539 _ ?side1 ?side2 A4.out).mono ?_); (case side1 => exact Kd.C_below Zu.out (zg_9 HB.out Zd.out Ze.out Zh.out)); (case side2 => exact Zv.out); rintro e w21 ⟨v540, rfl, ho0, hb⟩; refine ⟨_, rfl, ?_⟩; have n0_ := zm (Kd.R_below (by (with_reducible repeat (first | apply Kd.R_alloc | apply Kd.R_drewN | apply Kd.R_drew)); exact (Kd.R_mono (Kd.R_far (Kd.R_types Zf.out Za.out (by decide)) (fun _ hk => hk.2) _) (fun _ h_ => h_.1))) hb); have n1_ := zm (Kd.R_below (by (with_reducible repeat (first | apply Kd.R_alloc | apply Kd.R_drewN | apply Kd.R_drew)); exact (Kd.R_mono (Kd.R_far (Kd.R_types Zj.out Za.out (by decide)) (fun _ hk => hk.2) _) (fun _ h_ => h_.1))) hb); have n2_ := zm (Kd.S_lower (Kd.S_new' (Kd.S_new' ho0 (Kd.R_lt (by (with_reducible repeat (first | apply Kd.R_alloc | apply Kd.R_drewN | apply Kd.R_drew)); exact (Kd.R_mono (Kd.R_far (Kd.R_types Zf.out Za.out (by decide)) (fun _ hk => hk.2) _) (fun _ h_ => h_.1))))) (Kd.R_lt (by (with_reducible repeat (first | apply Kd.R_alloc | apply Kd.R_drewN | apply Kd.R_drew)); exact (Kd.R_mono (Kd.R_far (Kd.R_types Zj.out Za.out (by decide)) (fun _ hk => hk.2) _) (fun _ h_ => h_.1))))) (below_size (zg_9 HB.out Zd.out Ze.out Zh.out))); have n3_ := zm (blk_below (g := gb530) (o := .cells #[.slice A0_0 l0_0.length c0_0, .slice A0_1 l0_1.length c0_1, .slice A0_2 l0_2.length c0_2, .slice A0_3 l0_3.length c0_3] 36 (0, 0)) (by (with_reducible repeat (first | refine blk_drewN ?_ _ | refine blk_drew ?_ | refine blk_alloc ?_ _)); refine blk_far ?_ Zi.out _; (with_reducible repeat (first | refine blk_drewN ?_ _ | refine blk_drew ?_ | refine blk_alloc ?_ _)); exact Zb.out) hb); have n4_ := zm (blk_below (g := gb531) (o := .cells #[.slice none 0 0, .slice none 0 0, .slice none 0 0, .slice none 0 0] 26 (0, 0)) (by (with_reducible repeat (first | refine blk_drewN ?_ _ | refine blk_drew ?_ | refine blk_alloc ?_ _)); refine blk_far ?_ Zg.out _; (with_reducible repeat (first | refine blk_drewN ?_ _ | refine blk_drew ?_ | refine blk_alloc ?_ _)); exact Zc.out) hb); have n5_ := zm (blk_below (g := gb532) (o := .cells #[.slice Ao13 t533.length co13, .slice Ao18 t536.length co18, .slice none 0 0, .slice none 0 0] 26 (0, 0)) (by (with_reducible repeat (first | refine blk_drewN ?_ _ | refine blk_drew ?_ | refine blk_alloc ?_ _)); refine blk_put (cs := #[.slice Ao13 t533.length co13, .slice none 0 0, .slice none 0 0, .slice none 0 0]) ?_ 1 _ rfl; (with_reducible repeat (first | refine blk_drewN ?_ _ | refine blk_drew ?_ | refine blk_alloc ?_ _)); exact Za.out) hb); have n6_ := zm (below_step (zg_9 HB.out Zd.out Ze.out Zh.out) hb); replace Zf := n0_; replace Zj := n1_; have Zk := n2_; replace Zb := n3_; replace Zc := n4_; replace Za := n5_; replace HB := n6_; clear n0_ n1_ n2_ n3_ n4_ n5_ n6_; (try clear hb); (try clear hb2); (try clear hk); (try clear hi); (try clear ho0); obtain ⟨Ao22, co22, eo22⟩ := Kd.S_slice Zk.out; subst eo22; obtain ⟨hcz23_0, hcz23_1, hcz23_2, hcz23_3, hfz23_0, hfz23_1, hfz23_2, hfz23_3⟩ := zb4 Za.out; obtain ⟨hcz24_0, hcz24_1, hcz24_2, hcz24_3, hfz24_0, hfz24_1, hfz24_2, hfz24_3⟩ := zb4 Zb.out) | ((with_reducible refine gate_callee (f := 42) rfl ?_); refine goesL_ (some 18) rfl rfl Tryz.func42 (by kernel_rfl) rfl #[.slice A0_3 l0_3.length c0_3] rfl zq ?_; (with_reducible refine (laws_toIntS.calls k _ _ l0_3 t542 _ ?side1 ?side2 A5.out).mono ?_); (case side1 => exact Kd.C_below Zw.out (zg_9 HB.out Zd.out Ze.out Zh.out)); (case side2 => exact Zx.out); rintro e w25 ⟨v543, rfl, ho0, hb⟩; refine ⟨_, rfl, ?_⟩; have n0_ := zm (Kd.R_elder' (by (with_reducible repeat (first | apply Kd.R_alloc | apply Kd.R_drewN | apply Kd.R_drew)); exact (Kd.R_mono (Kd.R_far (Kd.R_types Zf.out Za.out (by decide)) (fun _ hk => hk.2) _) (fun _ h_ => h_.1))) (Kd.R_base ho0) hb); have n1_ := zm (Kd.R_elder' (by (with_reducible repeat (first | apply Kd.R_alloc | apply Kd.R_drewN | apply Kd.R_drew)); exact (Kd.R_mono (Kd.R_far (Kd.R_types Zj.out Za.out (by decide)) (fun _ hk => hk.2) _) (fun _ h_ => h_.1))) (Kd.R_base ho0) hb); have n2_ := zm (Kd.S_elder' (by (with_reducible repeat (first | apply Kd.S_alloc | apply Kd.S_drewN | apply Kd.S_drew)); exact (Kd.S_mono (Kd.S_far (Kd.S_types Zk.out Za.out (by decide)) (fun _ hk => hk.2) _) (fun _ h_ => h_.1))) (Kd.R_base ho0) hb); have n3_ := zm (Kd.R_lower (Kd.R_new' (Kd.R_new' ho0 (Kd.R_lt (by (with_reducible repeat (first | apply Kd.R_alloc | apply Kd.R_drewN | apply Kd.R_drew)); exact (Kd.R_mono (Kd.R_far (Kd.R_types Zf.out Za.out (by decide)) (fun _ hk => hk.2) _) (fun _ h_ => h_.1))))) (Kd.R_lt (by (with_reducible repeat (first | apply Kd.R_alloc | apply Kd.R_drewN | apply Kd.R_drew)); exact (Kd.R_mono (Kd.R_far (Kd.R_types Zj.out Za.out (by decide)) (fun _ hk => hk.2) _) (fun _ h_ => h_.1))))) (below_size (zg_9 HB.out Zd.out Ze.out Zh.out))); have n4_ := zm (blk_below (g := gb530) (o := .cells #[.slice A0_0 l0_0.length c0_0, .slice A0_1 l0_1.length c0_1, .slice A0_2 l0_2.length c0_2, .slice A0_3 l0_3.length c0_3] 36 (0, 0)) (by (with_reducible repeat (first | refine blk_drewN ?_ _ | refine blk_drew ?_ | refine blk_alloc ?_ _)); refine blk_far ?_ Zi.out _; (with_reducible repeat (first | refine blk_drewN ?_ _ | refine blk_drew ?_ | refine blk_alloc ?_ _)); exact Zb.out) hb); have n5_ := zm (blk_below (g := gb531) (o := .cells #[.slice none 0 0, .slice none 0 0, .slice none 0 0, .slice none 0 0] 26 (0, 0)) (by (with_reducible repeat (first | refine blk_drewN ?_ _ | refine blk_drew ?_ | refine blk_alloc ?_ _)); refine blk_far ?_ Zg.out _; (with_reducible repeat (first | refine blk_drewN ?_ _ | refine blk_drew ?_ | refine blk_alloc ?_ _)); exact Zc.out) hb); have n6_ := zm (blk_below (g := gb532) (o := .cells #[.slice Ao13 t533.length co13, .slice Ao18 t536.length co18, .slice Ao22 t539.length co22, .slice none 0 0] 26 (0, 0)) (by (with_reducible repeat (first | refine blk_drewN ?_ _ | refine blk_drew ?_ | refine blk_alloc ?_ _)); refine blk_put (cs := #[.slice Ao13 t533.length co13, .slice Ao18 t536.length co18, .slice none 0 0, .slice none 0 0]) ?_ 2 _ rfl; (with_reducible repeat (first | refine blk_drewN ?_ _ | refine blk_drew ?_ | refine blk_alloc ?_ _)); exact Za.out) hb); have n7_ := zm (below_step (zg_9 HB.out Zd.out Ze.out Zh.out) hb); replace Zf := n0_; replace Zj := n1_; replace Zk := n2_; have Zp := n3_; replace Zb := n4_; replace Zc := n5_; replace Za := n6_; replace HB := n7_; clear n0_ n1_ n2_ n3_ n4_ n5_ n6_ n7_; (try clear hb); (try clear hb2); (try clear hk); (try clear hi); (try clear ho0); obtain ⟨Ao26, co26, eo26⟩ := Kd.R_slice Zp.out; subst eo26; obtain ⟨hcz27_0, hcz27_1, hcz27_2, hcz27_3, hfz27_0, hfz27_1, hfz27_2, hfz27_3⟩ := zb4 Za.out; obtain ⟨hcz28_0, hcz28_1, hcz28_2, hcz28_3, hfz28_0, hfz28_1, hfz28_2, hfz28_3⟩ := zb4 Zc.out))
 refine bodyPost_ret (results_cell_row rfl _ _ gb531 26 #[.slice Ao13 t533.length co13, .slice Ao18 t536.length co18, .slice Ao22 t539.length co22, .slice Ao26 t542.length co26] (0, 0) _ rfl (by (with_reducible repeat (first | refine blk_drewN ?_ _ | refine blk_drew ?_ | refine blk_alloc ?_ _)); refine blk_put (cs := #[.slice Ao13 t533.length co13, .slice Ao18 t536.length co18, .slice Ao22 t539.length co22, .slice none 0 0]) ?_ 3 _ rfl; (with_reducible repeat (first | refine blk_drewN ?_ _ | refine blk_drew ?_ | refine blk_alloc ?_ _)); refine blk_put (cs := #[.slice Ao13 t533.length co13, .slice Ao18 t536.length co18, .slice none 0 0, .slice none 0 0]) ?_ 2 _ rfl; (with_reducible repeat (first | refine blk_drewN ?_ _ | refine blk_drew ?_ | refine blk_alloc ?_ _)); refine blk_put (cs := #[.slice Ao13 t533.length co13, .slice none 0 0, .slice none 0 0, .slice none 0 0]) ?_ 1 _ rfl; (with_reducible repeat (first | refine blk_drewN ?_ _ | refine blk_drew ?_ | refine blk_alloc ?_ _)); refine blk_put (cs := #[.slice none 0 0, .slice none 0 0, .slice none 0 0, .slice none 0 0]) ?_ 0 _ rfl; (with_reducible repeat (first | refine blk_drewN ?_ _ | refine blk_drew ?_ | refine blk_alloc ?_ _)); refine blk_far ?_ Zg.out _; (with_reducible repeat (first | refine blk_drewN ?_ _ | refine blk_drew ?_ | refine blk_alloc ?_ _)); exact Zc.out) Tryz.underlying26 rfl (by kernel_rfl)) rfl ?_
 exact ⟨_, _, _, _, ze, by (with_reducible repeat (first | apply Kd.R_alloc | apply Kd.R_drewN | apply Kd.R_drew)); exact Kd.R_mono (Kd.R_far (Kd.R_far (Kd.R_far (Kd.R_far (Kd.R_far (Kd.R_types (Kd.R_types Zf.out Za.out (by decide)) Zc.out (by decide)) (fun _ hk => hk.1.2) (.slice Ao26 t542.length co26)) (fun _ hk => hk.2) _) (fun _ hk => hk.2) _) (fun _ hk => hk.2) _) (fun _ hk => hk.2) _) (fun _ hk => ⟨hk.1.1.1.2, hk.1.1.2⟩), by (with_reducible repeat (first | apply Kd.R_alloc | apply Kd.R_drewN | apply Kd.R_drew)); exact Kd.R_mono (Kd.R_far (Kd.R_far (Kd.R_far (Kd.R_far (Kd.R_far (Kd.R_types (Kd.R_types Zj.out Za.out (by decide)) Zc.out (by decide)) (fun _ hk => hk.1.2) (.slice Ao26 t542.length co26)) (fun _ hk => hk.2) _) (fun _ hk => hk.2) _) (fun _ hk => hk.2) _) (fun _ hk => hk.2) _) (fun _ hk => ⟨hk.1.1.1.2, hk.1.1.2⟩), by (with_reducible repeat (first | apply Kd.S_alloc | apply Kd.S_drewN | apply Kd.S_drew)); exact Kd.S_mono (Kd.S_far (Kd.S_far (Kd.S_far (Kd.S_far (Kd.S_far (Kd.S_types (Kd.S_types Zk.out Za.out (by decide)) Zc.out (by decide)) (fun _ hk => hk.1.2) (.slice Ao26 t542.length co26)) (fun _ hk => hk.2) _) (fun _ hk => hk.2) _) (fun _ hk => hk.2) _) (fun _ hk => hk.2) _) (fun _ hk => ⟨hk.1.1.1.1.2, ⟨hk.1.1.1.2, hk.1.1.2⟩⟩), by (with_reducible repeat (first | apply Kd.R_alloc | apply Kd.R_drewN | apply Kd.R_drew)); exact Kd.R_mono (Kd.R_far (Kd.R_far (Kd.R_far (Kd.R_far (Kd.R_far (Kd.R_types (Kd.R_types Zp.out Za.out (by decide)) Zc.out (by decide)) (fun _ hk => hk.1.2) (.slice Ao26 t542.length co26)) (fun _ hk => hk.2) _) (fun _ hk => hk.2) _) (fun _ hk => hk.2) _) (fun _ hk => hk.2) _) (fun _ hk => ⟨hk.1.1.1.2, hk.1.1.2⟩), zg_9 HB.out Zd.out Ze.out Zh.out⟩
def spec_l09Clusters.l0 : Nat → List Int → List Int → Int → Option (List Int)
  | 0, _, _, _ => none
  | k + 1, x0, x3, x4 => if x4 < (x0.length : Int) then (if 0 ≤ x4 then (if (rd x0 x4) ≥ 2 then (if x3.length < 17592186044416 then (spec_l09Clusters.l0 k x0 (x3 ++ [wrap64 ((rd x0 x4) - 2)]) (wrap64 (x4 + 1))) else (none)) else (spec_l09Clusters.l0 k x0 x3 (wrap64 (x4 + 1)))) else (none)) else (some x3)
def spec_l09Clusters.f (k : Nat) (l0 : List Int) : Option (List Int) := spec_l09Clusters.l0 k l0 (([] : List Int)) 0
theorem spec_l09Clusters.mono_l : ∀ k, (∀ y0 y1 y2, LeO (spec_l09Clusters.l0 k y0 y1 y2) (spec_l09Clusters.l0 (k + 1) y0 y1 y2))
  | 0 => fun _ _ _ r h => by simp [spec_l09Clusters.l0] at h
  | k + 1 => by
    have ih0 := spec_l09Clusters.mono_l k
    · intro y0 y1 y2
      unfold spec_l09Clusters.l0
      repeat' first| (with_reducible first | exact ih0 _ _ _ | exact LeO.refl _ | exact LeO.none _ | refine LeO.ite ?_ ?_ | refine LeO.bind ?_ (fun _ => ?_)) | exact ih0 _ _ _ | exact LeO.none _ | refine LeO.ite ?_ ?_ | refine LeO.bind ?_ (fun _ => ?_)
theorem spec_l09Clusters.mono : ∀ a0 k, LeO (spec_l09Clusters.f k a0) (spec_l09Clusters.f (k + 1) a0) := by
  intro a0 k
  have ih0 := spec_l09Clusters.mono_l k
  unfold spec_l09Clusters.f
  repeat' first| (with_reducible first | exact ih0 _ _ _ | exact LeO.refl _ | exact LeO.none _ | refine LeO.ite ?_ ?_ | refine LeO.bind ?_ (fun _ => ?_)) | exact ih0 _ _ _ | exact LeO.none _ | refine LeO.ite ?_ ?_ | refine LeO.bind ?_ (fun _ => ?_)
set_option maxHeartbeats 8000000 in
set_option maxRecDepth 100000 in
theorem spec_l09Clusters.calls (k : Nat) (A0 : Option Addr) (c0 : Nat) (l0 : List Int) (r : List Int) (w : World) (hr0 : Kd.C (Kd.int .i64) w A0 l0.length l0) (hc0 : l0.length ≤ c0) (h : spec_l09Clusters.f k l0 = some r) :
    Calls Tryz.prog 128 #[.slice A0 l0.length c0] w fun e w' => ∃ v0_ : Value, e = .returned (v0_) ∧ Kd.R (Kd.int .i64) 3 w' w.heap.size (fun _ => True) v0_ r ∧ Below w.heap.size w w' := by
 have HR0 := zm hr0; have HC0 := zm hc0; clear hr0 hc0; have HB := zm (Below.refl w.heap.size w)
 have H : (spec_l09Clusters.l0 k l0 (([] : List Int)) 0) = some r := h
 clear h
 obtain ⟨y196, hy196⟩ : ∃ y_ : List Int, y_ = (([] : List Int)) := ⟨_, rfl⟩
 replace H : (spec_l09Clusters.l0 k l0 y196 0) = some r := by first | (rw [hy196]; with_reducible exact H) | (have H2_ := (Option.bind_some _ _).symm.trans H; rw [hy196]; with_reducible exact H2_) | (have H2_ := (Option.bind_some _ _).symm.trans H; with_reducible exact H2_) | with_reducible exact H | (rw [hy196]; exact H) | exact H
 have Ny196 := zm hy196; clear hy196
 have H' := zm H
 clear H
 go_enter Tryz.func128, Tryz.ntmps128
 go_wp2_with (first | ((with_reducible refine gate_dst (N := 5) rfl ?_); refine Kd.R_lit (Kd.int .i64) _ 3 ?hg (N := 5) ?hd (xs := ([] : List Int)) (inner := []) (ok := fun _ => True) (okp := fun _ => True) ?hr ?hp (fun _ hk => hk) trivial (Below.refl _ _) (Nat.le_refl _) (by simp) ?_; (case hd => rfl); (case hg => rfl); (case hr => first | (go_simp; done) | (go_simp; rfl)); (case hp => exact (Reps.none _ _)); intro v197 w2 ho3 hb hg_ hnew_; clear hg_ hnew_; (first | rw [← Ny196.out] at ho3 | (simp only [Int.reduceToNat] at ho3; rw [← Ny196.out] at ho3)); have n0_ := zm (Kd.R_lower ho3 (below_size (zg_1 HB.out))); have n1_ := zm (below_step (zg_1 HB.out) hb); have Zb := n0_; replace HB := n1_; clear n0_ n1_; clear hb ho3))
 go_loopg [3, 4] k (fun kq v3 v4 w' => ∃ (x3_1 : List Int) (x4_1 : Int), v4 = .int .i64 x4_1 ∧ Aside0 (spec_l09Clusters.l0 kq l0 x3_1 x4_1 = some r) ∧ Aside0 (kq ≤ k) ∧ Aside0 (Kd.R (Kd.int .i64) 3 w' w.heap.size (fun _ => True) v3 x3_1) ∧ Aside0 (Below w.heap.size w w'))
 case atStart => exact ⟨(y196), (0), zr, H', ⟨Nat.le_refl _⟩, ⟨zlR Zb.out⟩, ⟨zg_1 HB.out⟩⟩
 case round =>
  clear H'
  try clear c1
  try clear p2
  obtain ⟨x3_1, x4_1, rfl, HA, HK1, Za, HB⟩ := hrel
  cases gk with
  | zero => exact absurd HA.out (by simp [spec_l09Clusters.l0])
  | succ k1 =>
   have H := HA.out; clear HA
   simp only [spec_l09Clusters.l0] at H
   by_cases c4 : x4_1 < (l0.length : Int)
   ·rw [if_pos c4] at H
    have c4b0 := decide_eq_true c4; clear c4
    by_cases c5 : 0 ≤ x4_1
    ·rw [if_pos c5] at H
     have c5b0 := decide_eq_true c5; clear c5
     by_cases c6 : (rd l0 x4_1) ≥ 2
     ·rw [if_pos c6] at H
      have c6b0 := decide_eq_true c6; clear c6
      by_cases c7 : x3_1.length < 17592186044416
      ·rw [if_pos c7] at H
       have LMc7 := zm c7; clear c7
       obtain ⟨y201, hy201⟩ : ∃ y_ : List Int, y_ = (x3_1 ++ [wrap64 ((rd l0 x4_1) - 2)]) := ⟨_, rfl⟩
       replace H : (spec_l09Clusters.l0 k1 l0 y201 (wrap64 (x4_1 + 1))) = some r := by first | (rw [hy201]; with_reducible exact H) | (have H2_ := (Option.bind_some _ _).symm.trans H; rw [hy201]; with_reducible exact H2_) | (have H2_ := (Option.bind_some _ _).symm.trans H; with_reducible exact H2_) | with_reducible exact H | (rw [hy201]; exact H) | exact H
       have Ny201 := zm hy201; clear hy201
       have H' := zm H
       clear H
       have p199 : 0 ≤ (x4_1 : Int) := zd
       have q199 : x4_1 < (l0.length : Int) := zd
       obtain ⟨ad199, e199, hx199_0⟩ := Kd.at_int HR0.out x4_1 p199 q199
       cases e199; replace hx199_0 := (HB.out.cell (World.block_lt_of_cell? w _ hx199_0)).trans hx199_0; replace p199 := eq_true p199; replace q199 := eq_true q199
       have p200 : 0 ≤ (x4_1 : Int) := zd
       have q200 : x4_1 < (l0.length : Int) := zd
       obtain ⟨ad200, e200, hx200_0⟩ := Kd.at_int HR0.out x4_1 p200 q200
       obtain rfl : ad199 = ad200 := (by injection e200)
       replace hx200_0 := (HB.out.cell (World.block_lt_of_cell? w _ hx200_0)).trans hx200_0; replace p200 := eq_true p200; replace q200 := eq_true q200
       go_wp2_with (first | ((with_reducible refine gate_builtin (b := .append) (xs := #[.tmp 17, .tmp 23]) rfl ?_); at_builtin; refine Kd.R_append (Kd.int .i64) (w0 := w) w.heap.size rfl (.tmp 17) (.tmp 23) 23 3 (.int .i64 0) 8 rfl Tryz.underlying23 info3 rfl (by decide) (by omega) u3 x3_1 (wrap64 ((rd l0 x4_1) - 2)) [.int .i64 (wrap64 ((rd l0 x4_1) - 2))] (fun _ => True) (fun _ => False) rfl rfl ?aP (fun _ hk => hk.elim) ?aF ?aO ?aB ?aS ?aL ?_; (case aP => exact rfl); (case aB => exact (zg_1 HB.out)); (case aF => exact (fun _ _ => trivial)); (case aO => exact (zg_6 Za.out)); (case aS => exact (below_size (zg_1 HB.out))); (case aL => have := LMc7.out; omega); intro v202 w8 ho hb hg hat; rw [← Ny201.out] at ho; have n0_ := zm (hb); have n1_ := zm (ho); clear Za; replace HB := n0_; have Zc := n1_; clear n0_ n1_; clear ho hb hg hat))
       go_roundg k1
       case measure => have := HK1.out; omega
       case rel => exact ⟨(y201), (wrap64 (x4_1 + 1)), zr, H', ⟨by have := HK1.out; omega⟩, ⟨zlR Zc.out⟩, ⟨zg_1 HB.out⟩⟩
      ·rw [if_neg c7] at H
       exact absurd H (by simp)
     ·rw [if_neg c6] at H
      have c6b0 := decide_eq_false c6; clear c6
      have H' := zm H
      clear H
      have p199 : 0 ≤ (x4_1 : Int) := zd
      have q199 : x4_1 < (l0.length : Int) := zd
      obtain ⟨ad199, e199, hx199_0⟩ := Kd.at_int HR0.out x4_1 p199 q199
      cases e199; replace hx199_0 := (HB.out.cell (World.block_lt_of_cell? w _ hx199_0)).trans hx199_0; replace p199 := eq_true p199; replace q199 := eq_true q199
      go_wp2
      go_roundg k1
      case measure => have := HK1.out; omega
      case rel => exact ⟨(x3_1), (wrap64 (x4_1 + 1)), zr, H', ⟨by have := HK1.out; omega⟩, ⟨zlR Za.out⟩, ⟨zg_1 HB.out⟩⟩
    ·rw [if_neg c5] at H
     exact absurd H (by simp)
   ·rw [if_neg c4] at H
    have c4b0 := decide_eq_false c4; clear c4; obtain rfl := Option.some.inj H
    go_wp2
    go_ret
    exact ⟨_, ze, by (with_reducible repeat (first | apply Kd.R_alloc | apply Kd.R_drewN | apply Kd.R_drew)); exact Za.out, zg_1 HB.out⟩
mutual
def spec_l10Count.l0 : Nat → List Int → List (List Int) → Int → List Int → List Int → List (S103) → List Int → Option (List Int)
  | 0, _, _, _, _, _, _, _ => none
  | k + 1, x3, x4, x5, x444000, x444001, x444002, x444003 => if x5 < (x444002.length : Int) then (if 0 ≤ x5 then (if x4.length < 5864062014805 then (spec_l10Count.l0 k x3 (x4 ++ [(rd_T103 x444002 x5).f1]) (wrap64 (x5 + 1)) x444000 x444001 x444002 x444003) else (none)) else (none)) else (spec_l10Count.l1 k x3 x4 0)
def spec_l10Count.l1 : Nat → List Int → List (List Int) → Int → Option (List Int)
  | 0, _, _, _ => none
  | k + 1, x3, x4, x6 => if x6 < (x4.length : Int) then (if 0 ≤ x6 then ((spec_l09Clusters.f k (rd_L3 x4 x6)).bind fun t455 => (spec_l10Count.l2 k x3 x4 x6 t455 0)) else (none)) else (some x3)
def spec_l10Count.l2 : Nat → List Int → List (List Int) → Int → List Int → Int → Option (List Int)
  | 0, _, _, _, _, _ => none
  | k + 1, x3, x4, x6, x7, x8 => if x8 < (x7.length : Int) then (if 0 ≤ x8 then (if 0 ≤ (rd x7 x8) then (if (rd x7 x8) < (x3.length : Int) then (spec_l10Count.l2 k (x3.set ((rd x7 x8) : Int).toNat (wrap64 ((rd x3 (rd x7 x8)) + 1))) x4 x6 x7 (wrap64 (x8 + 1))) else (none)) else (none)) else (none)) else (spec_l10Count.l1 k x3 x4 (wrap64 (x6 + 1)))
end
def spec_l10Count.f (k : Nat) (l0_0 : List Int) (l0_1 : List Int) (l0_2 : List (S103)) (l0_3 : List Int) : Option (List Int) := if 24 ≤ 35184372088832 then (spec_l10Count.l0 k (List.replicate 24 0) (([l0_1] : List (List Int))) 0 l0_0 l0_1 l0_2 l0_3) else (none)
theorem spec_l10Count.mono_l : ∀ k, (∀ y0 y1 y2 y3 y4 y5 y6, LeO (spec_l10Count.l0 k y0 y1 y2 y3 y4 y5 y6) (spec_l10Count.l0 (k + 1) y0 y1 y2 y3 y4 y5 y6)) ∧ (∀ y0 y1 y2, LeO (spec_l10Count.l1 k y0 y1 y2) (spec_l10Count.l1 (k + 1) y0 y1 y2)) ∧ (∀ y0 y1 y2 y3 y4, LeO (spec_l10Count.l2 k y0 y1 y2 y3 y4) (spec_l10Count.l2 (k + 1) y0 y1 y2 y3 y4))
  | 0 => ⟨fun _ _ _ _ _ _ _ r h => by simp [spec_l10Count.l0] at h, fun _ _ _ r h => by simp [spec_l10Count.l1] at h, fun _ _ _ _ _ r h => by simp [spec_l10Count.l2] at h⟩
  | k + 1 => by
    obtain ⟨ih0, ih1, ih2⟩ := spec_l10Count.mono_l k
    refine ⟨?_, ?_, ?_⟩
    · intro y0 y1 y2 y3 y4 y5 y6
      unfold spec_l10Count.l0
      repeat' first| (with_reducible first | exact ih0 _ _ _ _ _ _ _ | exact ih1 _ _ _ | exact ih2 _ _ _ _ _ | exact spec_l09Clusters.mono _ _ | exact LeO.refl _ | exact LeO.none _ | refine LeO.ite ?_ ?_ | refine LeO.bind ?_ (fun _ => ?_)) | exact ih0 _ _ _ _ _ _ _ | exact ih1 _ _ _ | exact ih2 _ _ _ _ _ | exact spec_l09Clusters.mono _ _ | exact LeO.none _ | refine LeO.ite ?_ ?_ | refine LeO.bind ?_ (fun _ => ?_)
    · intro y0 y1 y2
      unfold spec_l10Count.l1
      repeat' first| (with_reducible first | exact ih0 _ _ _ _ _ _ _ | exact ih1 _ _ _ | exact ih2 _ _ _ _ _ | exact spec_l09Clusters.mono _ _ | exact LeO.refl _ | exact LeO.none _ | refine LeO.ite ?_ ?_ | refine LeO.bind ?_ (fun _ => ?_)) | exact ih0 _ _ _ _ _ _ _ | exact ih1 _ _ _ | exact ih2 _ _ _ _ _ | exact spec_l09Clusters.mono _ _ | exact LeO.none _ | refine LeO.ite ?_ ?_ | refine LeO.bind ?_ (fun _ => ?_)
    · intro y0 y1 y2 y3 y4
      unfold spec_l10Count.l2
      repeat' first| (with_reducible first | exact ih0 _ _ _ _ _ _ _ | exact ih1 _ _ _ | exact ih2 _ _ _ _ _ | exact spec_l09Clusters.mono _ _ | exact LeO.refl _ | exact LeO.none _ | refine LeO.ite ?_ ?_ | refine LeO.bind ?_ (fun _ => ?_)) | exact ih0 _ _ _ _ _ _ _ | exact ih1 _ _ _ | exact ih2 _ _ _ _ _ | exact spec_l09Clusters.mono _ _ | exact LeO.none _ | refine LeO.ite ?_ ?_ | refine LeO.bind ?_ (fun _ => ?_)
theorem spec_l10Count.mono : ∀ a0 a1 a2 a3 k, LeO (spec_l10Count.f k a0 a1 a2 a3) (spec_l10Count.f (k + 1) a0 a1 a2 a3) := by
  intro a0 a1 a2 a3 k
  obtain ⟨ih0, ih1, ih2⟩ := spec_l10Count.mono_l k
  unfold spec_l10Count.f
  repeat' first| (with_reducible first | exact ih0 _ _ _ _ _ _ _ | exact ih1 _ _ _ | exact ih2 _ _ _ _ _ | exact spec_l09Clusters.mono _ _ | exact LeO.refl _ | exact LeO.none _ | refine LeO.ite ?_ ?_ | refine LeO.bind ?_ (fun _ => ?_)) | exact ih0 _ _ _ _ _ _ _ | exact ih1 _ _ _ | exact ih2 _ _ _ _ _ | exact spec_l09Clusters.mono _ _ | exact LeO.none _ | refine LeO.ite ?_ ?_ | refine LeO.bind ?_ (fun _ => ?_)
set_option maxHeartbeats 8000000 in
set_option maxRecDepth 100000 in
theorem spec_l10Count.calls (k : Nat) (A0_0 : Option Addr) (c0_0 : Nat) (l0_0 : List Int) (P0_1_ : Nat → Prop) (A0_1 : Option Addr) (c0_1 : Nat) (l0_1 : List Int) (P0_2_ : Nat → Prop) (A0_2 : Option Addr) (c0_2 : Nat) (l0_2 : List (S103)) (A0_3 : Option Addr) (c0_3 : Nat) (l0_3 : List Int) (r : List Int) (w : World) (hr0_0 : Kd.C (Kd.int .i64) w A0_0 l0_0.length l0_0) (hc0_0 : l0_0.length ≤ c0_0) (hs0_1 : Kd.V (Kd.int .i64) 3 w w.heap.size (fun k_ => P0_1_ k_) (.slice A0_1 l0_1.length c0_1) l0_1) (hs0_2 : Kd.V k103 103 w w.heap.size (fun k_ => P0_2_ k_) (.slice A0_2 l0_2.length c0_2) l0_2) (hr0_3 : Kd.C (Kd.int .i64) w A0_3 l0_3.length l0_3) (hc0_3 : l0_3.length ≤ c0_3) (h : spec_l10Count.f k l0_0 l0_1 l0_2 l0_3 = some r) :
    Calls Tryz.prog 86 #[.agg #[.slice A0_0 l0_0.length c0_0, .slice A0_1 l0_1.length c0_1, .slice A0_2 l0_2.length c0_2, .slice A0_3 l0_3.length c0_3]] w fun e w' => ∃ v0_ : Value, e = .returned (v0_) ∧ Kd.R (Kd.int .i64) 3 w' w.heap.size (fun k_ => (w.heap.size ≤ k_)) v0_ r ∧ Below w.heap.size w w' := by
 have hu26 := Tryz.underlying26; have Zu := zm hr0_0; have Zv := zm hc0_0; clear hr0_0 hc0_0; have Zg := zm (show Kd.V (Kd.int .i64) 3 w w.heap.size (fun k_ => ((P0_1_ k_ ∨ P0_2_ k_) ∨ w.heap.size ≤ k_)) (.slice A0_1 l0_1.length c0_1) l0_1 from Kd.V_mono hs0_1 (fun k_ hk => .inl (.inl hk))); have Zi := zm (show Kd.V k103 103 w w.heap.size (fun k_ => ((P0_1_ k_ ∨ P0_2_ k_) ∨ w.heap.size ≤ k_)) (.slice A0_2 l0_2.length c0_2) l0_2 from Kd.V_mono hs0_2 (fun k_ hk => .inl (.inr hk))); have Zw := zm hr0_3; have Zx := zm hc0_3; clear hr0_3 hc0_3; have HB := zm (Below.refl w.heap.size w); have H := h
 unfold spec_l10Count.f at H
 clear h
 by_cases c2 : 24 ≤ 35184372088832
 ·rw [if_pos c2] at H
  have c2b0 := eq_true c2; have c2b1 := decide_eq_true c2; clear c2
  obtain ⟨y444, hy444⟩ : ∃ y_ : List Int, y_ = (List.replicate 24 0) := ⟨_, rfl⟩
  replace H : (spec_l10Count.l0 k y444 (([l0_1] : List (List Int))) 0 l0_0 l0_1 l0_2 l0_3) = some r := by first | (rw [hy444]; with_reducible exact H) | (have H2_ := (Option.bind_some _ _).symm.trans H; rw [hy444]; with_reducible exact H2_) | (have H2_ := (Option.bind_some _ _).symm.trans H; with_reducible exact H2_) | with_reducible exact H | (rw [hy444]; exact H) | exact H
  have Ny444 := zm hy444; clear hy444
  obtain ⟨y447, hy447⟩ : ∃ y_ : List (List Int), y_ = (([l0_1] : List (List Int))) := ⟨_, rfl⟩
  replace H : (spec_l10Count.l0 k y444 y447 0 l0_0 l0_1 l0_2 l0_3) = some r := by first | (rw [hy447]; with_reducible exact H) | (have H2_ := (Option.bind_some _ _).symm.trans H; rw [hy447]; with_reducible exact H2_) | (have H2_ := (Option.bind_some _ _).symm.trans H; with_reducible exact H2_) | with_reducible exact H | (rw [hy447]; exact H) | exact H
  have Ny447 := zm hy447; clear hy447
  have H' := zm H
  clear H
  go_enter Tryz.func86, Tryz.ntmps86
  go_wp2_with (first | ((with_reducible refine gate_dst (N := 1) rfl ?_); refine box_event ?hg (N := 1) ?hd (cs := #[.slice A0_0 l0_0.length c0_0, .slice A0_1 l0_1.length c0_1, .slice A0_2 l0_2.length c0_2, .slice A0_3 l0_3.length c0_3]) (t := 26) ?hr ?_; (case hd => rfl); (case hg => rfl); (case hr => first | (go_simp; done) | (go_simp; rfl)); intro gb443 hg w3 hbox hb; have n0_ := zm (Kd.V_below (Kd.V_elderB (zg_0 Zg.out) gb443 (Nat.le_of_eq hg.symm)) hb); have n1_ := zm (Kd.V_below (Kd.V_elderB (zg_0 Zi.out) gb443 (Nat.le_of_eq hg.symm)) hb); have n2_ := zm (below_step (zg_1 HB.out) hb); have n3_ := zm (hbox); have n4_ := zm ((by rw [hg]; exact (below_size (zg_1 HB.out)) : w.heap.size ≤ gb443)); have n5_ := zm ((by rw [hg]; exact (below_size (zg_1 HB.out)) : w.heap.size ≤ gb443)); replace Zg := n0_; replace Zi := n1_; replace HB := n2_; have Za := n3_; have Zy := n4_; have Zd := n5_; clear n0_ n1_ n2_ n3_ n4_ n5_; clear hb hbox hg) | ((with_reducible refine gate_dst (N := 9) rfl ?_); refine Kd.R_make (Kd.int .i64) _ 3 rfl (N := 9) rfl 23 _ _ rfl 24 rfl rfl Tryz.underlying23 (.int .i64 0) 8 info3 rfl (by decide) (by omega) 0 (ok := fun _ => True) (okp := fun _ => True) rfl (fun _ hk => hk) trivial (by omega) (by omega) (Below.refl _ _) (Nat.le_refl _) ?_; intro v445 w4 ho5 hb hg_ hnew_; clear hg_ hnew_; (first | rw [← Ny444.out] at ho5 | (simp only [Int.reduceToNat] at ho5; rw [← Ny444.out] at ho5)); have n0_ := zm (Kd.V_elder' (zg_0 Zg.out) (Kd.R_base ho5) hb); have n1_ := zm (Kd.V_elder' (zg_0 Zi.out) (Kd.R_base ho5) hb); have n2_ := zm (Kd.R_lower (Kd.R_newM (M := fun k_ => (w.heap.size ≤ k_)) ho5 (below_size (zg_2 HB.out Zd.out)) (fun k_ h_ => h_)) (below_size (zg_2 HB.out Zd.out))); have n3_ := zm (blk_below (zg_3 Za.out) hb); have n4_ := zm (below_step (zg_2 HB.out Zd.out) hb); replace Zg := n0_; replace Zi := n1_; have Zl := n2_; replace Za := n3_; replace HB := n4_; clear n0_ n1_ n2_ n3_ n4_; clear hb ho5; obtain ⟨hcz6_0, hcz6_1, hcz6_2, hcz6_3, hfz6_0, hfz6_1, hfz6_2, hfz6_3⟩ := zb4 Za.out) | ((with_reducible refine gate_dst (N := 12) rfl ?_); refine Kd.N_lit (Kd.slice 3 (Kd.int .i64)) _ 23 ?hg (N' := 12) ?hd (xs := ([l0_1] : List (List Int))) (inner := [.slice A0_1 l0_1.length c0_1]) (ok := (fun k_ => ((P0_1_ k_ ∨ P0_2_ k_) ∨ w.heap.size ≤ k_) ∧ some k_ ≠ (v445 : Value).ownBlock ∧ k_ ≠ gb443)) (okp := (fun k_ => ((P0_1_ k_ ∨ P0_2_ k_) ∨ w.heap.size ≤ k_) ∧ some k_ ≠ (v445 : Value).ownBlock ∧ k_ ≠ gb443)) ?hr ?hp (fun _ hk => hk) ((show ∀ k_, w4.heap.size ≤ k_ → (fun k_ => ((P0_1_ k_ ∨ P0_2_ k_) ∨ w.heap.size ≤ k_) ∧ some k_ ≠ (v445 : Value).ownBlock ∧ k_ ≠ gb443) k_ from fun k_ hk => ⟨(.inr (Nat.le_trans (below_size (zg_2 HB.out Zd.out)) hk)), Kd.fresh' (Kd.R_lt (zg_6 Zl.out)) k_ hk, Kd.freshB (g := gb443) (o := .cells #[.slice A0_0 l0_0.length c0_0, .slice A0_1 l0_1.length c0_1, .slice A0_2 l0_2.length c0_2, .slice A0_3 l0_3.length c0_3] 26 (0, 0)) (zg_3 Za.out) k_ hk⟩) _ (Nat.le_refl _)) (Below.refl _ _) (Nat.le_refl _) (by simp) ?_; (case hd => rfl); (case hg => rfl); (case hr => first | (go_simp; done) | (go_simp; rfl)); (case hp => exact (Reps.one (show Kd.FK (Kd.slice 3 (Kd.int .i64)) _ _ l0_1 [.slice A0_1 l0_1.length c0_1] from (Kd.FK_slice_mk (Kd.V_reads' (Kd.V_mono (ok' := (fun k_ => ((P0_1_ k_ ∨ P0_2_ k_) ∨ w.heap.size ≤ k_) ∧ some k_ ≠ (v445 : Value).ownBlock ∧ k_ ≠ gb443)) (Zg.out) (fun k_ hk => ⟨hk.1.1, ⟨hk.2, hk.1.2⟩⟩))).2.1 (Kd.V_F (Kd.V_mono (ok' := (fun k_ => ((P0_1_ k_ ∨ P0_2_ k_) ∨ w.heap.size ≤ k_) ∧ some k_ ≠ (v445 : Value).ownBlock ∧ k_ ≠ gb443)) (Zg.out) (fun k_ hk => ⟨hk.1.1, ⟨hk.2, hk.1.2⟩⟩))))) (Reps.none _ _))); intro v448 w7 ho8 hb hg_ hnew_; clear hg_ hnew_; (first | rw [← Ny447.out] at ho8 | (simp only [Int.reduceToNat] at ho8; rw [← Ny447.out] at ho8)); have n0_ := zm (Kd.V_elder' (zg_0 Zg.out) (Kd.N_base ho8) hb); have n1_ := zm (Kd.V_elder' (zg_0 Zi.out) (Kd.N_base ho8) hb); have n2_ := zm (Kd.R_below (zg_6 Zl.out) hb); have n3_ := zm (Kd.N_lower ho8 (below_size (zg_2 HB.out Zd.out))); have n4_ := zm (blk_below (zg_3 Za.out) hb); have n5_ := zm (below_step (zg_2 HB.out Zd.out) hb); replace Zg := n0_; replace Zi := n1_; replace Zl := n2_; have Zp := n3_; replace Za := n4_; replace HB := n5_; clear n0_ n1_ n2_ n3_ n4_ n5_; clear hb ho8))
  go_loopg [4, 5] k (fun kq v4 v5 w' => ∃ (x4_1 : List (List Int)) (x5_1 : Int), v5 = .int .i64 x5_1 ∧ Aside0 (spec_l10Count.l0 kq y444 x4_1 x5_1 l0_0 l0_1 l0_2 l0_3 = some r) ∧ Aside0 (kq ≤ k) ∧ Aside0 (Kd.R (Kd.int .i64) 3 w' w.heap.size (fun k_ => (w.heap.size ≤ k_)) v445 y444) ∧ Aside0 (Kd.N (Kd.slice 3 (Kd.int .i64)) 23 w' w.heap.size (fun k_ => ((P0_1_ k_ ∨ P0_2_ k_) ∨ w.heap.size ≤ k_) ∧ some k_ ≠ (v445 : Value).ownBlock ∧ k_ ≠ gb443) v4 x4_1) ∧ Aside0 (Kd.V (Kd.int .i64) 3 w' w.heap.size (fun k_ => ((P0_1_ k_ ∨ P0_2_ k_) ∨ w.heap.size ≤ k_) ∧ some k_ ≠ (v445 : Value).ownBlock ∧ some k_ ≠ (v4 : Value).ownBlock ∧ k_ ≠ gb443) (.slice A0_1 l0_1.length c0_1) l0_1) ∧ Aside0 (Kd.V k103 103 w' w.heap.size (fun k_ => ((P0_1_ k_ ∨ P0_2_ k_) ∨ w.heap.size ≤ k_) ∧ some k_ ≠ (v445 : Value).ownBlock ∧ some k_ ≠ (v4 : Value).ownBlock ∧ k_ ≠ gb443) (.slice A0_2 l0_2.length c0_2) l0_2) ∧ Aside0 (w'.heap[gb443]? = some (.cells #[(.slice A0_0 l0_0.length c0_0), (.slice A0_1 l0_1.length c0_1), (.slice A0_2 l0_2.length c0_2), (.slice A0_3 l0_3.length c0_3)] 26 (0, 0))) ∧ Aside0 (Below w.heap.size w w'))
  case atStart => exact ⟨(y447), (0), zr, H', ⟨Nat.le_refl _⟩, ⟨by (with_reducible repeat (first | apply Kd.R_alloc | apply Kd.R_drewN | apply Kd.R_drew)); exact Kd.R_mono Zl.out (fun _ hk => hk.1)⟩, ⟨zlN Zp.out⟩, ⟨by (with_reducible repeat (first | apply Kd.V_alloc | apply Kd.V_drewN | apply Kd.V_drew)); exact Kd.V_mono Zg.out (fun _ hk => ⟨hk.1.1.1, ⟨hk.1.2, ⟨hk.2, hk.1.1.2⟩⟩⟩)⟩, ⟨by (with_reducible repeat (first | apply Kd.V_alloc | apply Kd.V_drewN | apply Kd.V_drew)); exact Kd.V_mono Zi.out (fun _ hk => ⟨hk.1.1.1, ⟨hk.1.2, ⟨hk.2, hk.1.1.2⟩⟩⟩)⟩, ⟨zl Za.out⟩, ⟨zg_2 HB.out Zd.out⟩⟩
  case round =>
   clear H'
   try clear c2
   try clear c2b0
   try clear c2b1
   try clear p2
   try clear c8
   obtain ⟨x4_1, x5_1, rfl, HA, HK1, Ze, Zf, Zc, Zb, Za, HB⟩ := hrel
   cases gk with
   | zero => exact absurd HA.out (by simp [spec_l10Count.l0])
   | succ k1 =>
    have H := HA.out; clear HA
    simp only [spec_l10Count.l0] at H
    by_cases c9 : x5_1 < (l0_2.length : Int)
    ·rw [if_pos c9] at H
     have c9b0 := decide_eq_true c9; clear c9
     by_cases c10 : 0 ≤ x5_1
     ·rw [if_pos c10] at H
      have c10b0 := decide_eq_true c10; clear c10
      by_cases c11 : x4_1.length < 5864062014805
      ·rw [if_pos c11] at H
       have LMc11 := zm c11; clear c11
       obtain ⟨y451, hy451⟩ : ∃ y_ : List (List Int), y_ = (x4_1 ++ [(rd_T103 l0_2 x5_1).f1]) := ⟨_, rfl⟩
       replace H : (spec_l10Count.l0 k1 y444 y451 (wrap64 (x5_1 + 1)) l0_0 l0_1 l0_2 l0_3) = some r := by first | (rw [hy451]; with_reducible exact H) | (have H2_ := (Option.bind_some _ _).symm.trans H; rw [hy451]; with_reducible exact H2_) | (have H2_ := (Option.bind_some _ _).symm.trans H; with_reducible exact H2_) | with_reducible exact H | (rw [hy451]; exact H) | exact H
       have Ny451 := zm hy451; clear hy451
       have H' := zm H
       clear H
       obtain ⟨hcz12_0, hcz12_1, hcz12_2, hcz12_3, hfz12_0, hfz12_1, hfz12_2, hfz12_3⟩ := zb4 Za.out
       have p450 : 0 ≤ (x5_1 : Int) := zd
       have q450 : x5_1 < (l0_2.length : Int) := zd
       obtain ⟨ad450, A450_1, c450_1, e450, hx450_0, hx450_1, hl450_1, hi450_1⟩ := at_T103 (Kd.V_reads' Zb.out).2.2 x5_1 p450 q450
       cases e450
       obtain ⟨ce450, hce450, hMe450, hcc450⟩ := Kd.V_get Zb.out z103 x5_1 p450 (by first | exact q450 | exact zd | (have e_ := (Kd.V_reads' Zb.out).1; omega))
       obtain ⟨ua450_1, uc450_1, rfl, ul450_1, ge450_1⟩ := k103_openF hMe450
       have hv450_1 := hcc450 1 _ rfl
       rw [add_field _ _ 1 (by omega)] at hv450_1
       replace hv450_1 := Option.some.inj (hv450_1.symm.trans hx450_1)
       injection hv450_1 with hva_ hvn_ hvc_
       rw [hva_] at ge450_1
       rw [hvc_] at ul450_1
       have Zj := zm (show Kd.V (Kd.int .i64) 3 _ w.heap.size _ _ ((rd_T103 l0_2 x5_1).f1) from Kd.V_mk ul450_1 ge450_1); clear hva_ hvn_ hvc_ ge450_1 ul450_1; clear hcc450 hce450; have Zs := zm hi450_1; have Zt := zm hl450_1; clear hi450_1 hl450_1; replace p450 := eq_true p450; replace q450 := eq_true q450
       go_wp2_with (first | ((with_reducible refine gate_builtin (b := .append) (xs := #[.tmp 20, .tmp 27]) rfl ?_); at_builtin; refine Kd.N_append (Kd.slice 3 (Kd.int .i64)) (w0 := w) w.heap.size rfl (.tmp 20) (.tmp 27) 97 23 (.slice none 0 0) 24 rfl Tryz.underlying97 info23 rfl (by decide) (by omega) u4 x4_1 ((rd_T103 l0_2 x5_1).f1) [.slice A450_1 ((rd_T103 l0_2 x5_1).f1).length c450_1] (fun k_ => ((P0_1_ k_ ∨ P0_2_ k_) ∨ w.heap.size ≤ k_) ∧ some k_ ≠ (v445 : Value).ownBlock ∧ k_ ≠ gb443) (fun k_ => ((fun k_ => ((P0_1_ k_ ∨ P0_2_ k_) ∨ w.heap.size ≤ k_) ∧ some k_ ≠ (v445 : Value).ownBlock ∧ k_ ≠ gb443)) k_ ∧ some k_ ≠ (u4 : Value).ownBlock) rfl rfl ?aP (fun _ hk => hk) ?aF ?aO ?aB ?aS ?aL ?_; (case aP => exact (Kd.FK_slice_mk (Kd.V_reads' (Kd.V_mono (ok' := (fun k_ => ((fun k_ => ((P0_1_ k_ ∨ P0_2_ k_) ∨ w.heap.size ≤ k_) ∧ some k_ ≠ (v445 : Value).ownBlock ∧ k_ ≠ gb443)) k_ ∧ some k_ ≠ (u4 : Value).ownBlock)) (Zj.out) (fun k_ hk => ⟨⟨hk.1, ⟨hk.2.1, hk.2.2.2⟩⟩, hk.2.2.1⟩))).2.1 (Kd.V_F (Kd.V_mono (ok' := (fun k_ => ((fun k_ => ((P0_1_ k_ ∨ P0_2_ k_) ∨ w.heap.size ≤ k_) ∧ some k_ ≠ (v445 : Value).ownBlock ∧ k_ ≠ gb443)) k_ ∧ some k_ ≠ (u4 : Value).ownBlock)) (Zj.out) (fun k_ hk => ⟨⟨hk.1, ⟨hk.2.1, hk.2.2.2⟩⟩, hk.2.2.1⟩))))); (case aB => exact (zg_2 HB.out Zd.out)); (case aF => exact (fun k_ hk => ⟨(.inr (Nat.le_trans (below_size (zg_2 HB.out Zd.out)) hk)), Kd.fresh' (Kd.R_lt (zg_6 Ze.out)) k_ hk, Kd.freshB (g := gb443) (o := .cells #[.slice A0_0 l0_0.length c0_0, .slice A0_1 l0_1.length c0_1, .slice (some ad450) l0_2.length c0_2, .slice A0_3 l0_3.length c0_3] 26 (0, 0)) (zg_3 Za.out) k_ hk⟩)); (case aO => exact (zg_4 Zf.out)); (case aS => exact (below_size (zg_2 HB.out Zd.out))); (case aL => have := LMc11.out; omega); intro v452 w13 ho hb hg hat; rw [← Ny451.out] at ho; have n0_ := zm (Kd.R_over' (zg_6 Ze.out) (Kd.N_typed (zg_4 Zf.out)) (by decide) hg); have n1_ := zm (Kd.V_afterv (ok := (fun k_ => ((P0_1_ k_ ∨ P0_2_ k_) ∨ w.heap.size ≤ k_) ∧ some k_ ≠ (v445 : Value).ownBlock ∧ k_ ≠ gb443)) (by (with_reducible repeat (first | apply Kd.V_alloc | apply Kd.V_drewN | apply Kd.V_drew)); exact Kd.V_mono Zc.out (fun _ hk => ⟨⟨hk.1, ⟨hk.2.1, hk.2.2.2⟩⟩, hk.2.2.1⟩)) hg hat); have n2_ := zm (Kd.V_afterv (ok := (fun k_ => ((P0_1_ k_ ∨ P0_2_ k_) ∨ w.heap.size ≤ k_) ∧ some k_ ≠ (v445 : Value).ownBlock ∧ k_ ≠ gb443)) (by (with_reducible repeat (first | apply Kd.V_alloc | apply Kd.V_drewN | apply Kd.V_drew)); exact Kd.V_mono Zb.out (fun _ hk => ⟨⟨hk.1, ⟨hk.2.1, hk.2.2.2⟩⟩, hk.2.2.1⟩)) hg hat); have n3_ := zm (blk_grown (zg_3 Za.out) hg (Kd.N_ne Zf.out Za.out (by decide))); have n4_ := zm (Kd.V_afterv (ok := (fun k_ => ((P0_1_ k_ ∨ P0_2_ k_) ∨ w.heap.size ≤ k_) ∧ some k_ ≠ (v445 : Value).ownBlock ∧ k_ ≠ gb443)) (by (with_reducible repeat (first | apply Kd.V_alloc | apply Kd.V_drewN | apply Kd.V_drew)); exact Kd.V_mono Zj.out (fun _ hk => ⟨⟨hk.1, ⟨hk.2.1, hk.2.2.2⟩⟩, hk.2.2.1⟩)) hg hat); have n5_ := zm (hb); have n6_ := zm (ho); clear Zf; replace Ze := n0_; replace Zc := n1_; replace Zb := n2_; replace Za := n3_; replace Zj := n4_; replace HB := n5_; have Zq := n6_; clear n0_ n1_ n2_ n3_ n4_ n5_ n6_; clear ho hb hg hat))
       go_roundg k1
       case measure => have := HK1.out; omega
       case rel => exact ⟨(y451), (wrap64 (x5_1 + 1)), zr, H', ⟨by have := HK1.out; omega⟩, ⟨zlR Ze.out⟩, ⟨zlN Zq.out⟩, ⟨by (with_reducible repeat (first | apply Kd.V_alloc | apply Kd.V_drewN | apply Kd.V_drew)); exact Kd.V_mono Zc.out (fun _ hk => ⟨hk.1.1, ⟨hk.1.2.1, ⟨hk.2, hk.1.2.2⟩⟩⟩)⟩, ⟨by (with_reducible repeat (first | apply Kd.V_alloc | apply Kd.V_drewN | apply Kd.V_drew)); exact Kd.V_mono Zb.out (fun _ hk => ⟨hk.1.1, ⟨hk.1.2.1, ⟨hk.2, hk.1.2.2⟩⟩⟩)⟩, ⟨zl Za.out⟩, ⟨zg_2 HB.out Zd.out⟩⟩
      ·rw [if_neg c11] at H
       exact absurd H (by simp)
     ·rw [if_neg c10] at H
      exact absurd H (by simp)
    ·rw [if_neg c9] at H
     have c9b0 := decide_eq_false c9; clear c9
     have H' := zm H
     clear H
     obtain ⟨hcz14_0, hcz14_1, hcz14_2, hcz14_3, hfz14_0, hfz14_1, hfz14_2, hfz14_3⟩ := zb4 Za.out
     go_wp2
     go_loopg [6] k1 (fun kq v6 w' => ∃ (x3_2 : List Int) (x6_2 : Int), v6 = .int .i64 x6_2 ∧ Aside0 (spec_l10Count.l1 kq x3_2 x4_1 x6_2 = some r) ∧ Aside0 (kq ≤ k1) ∧ Aside0 (Kd.R (Kd.int .i64) 3 w' w.heap.size (fun k_ => (w.heap.size ≤ k_)) v445 x3_2) ∧ Aside0 (Kd.N (Kd.slice 3 (Kd.int .i64)) 23 w' w.heap.size (fun k_ => ((P0_1_ k_ ∨ P0_2_ k_) ∨ w.heap.size ≤ k_) ∧ some k_ ≠ (v445 : Value).ownBlock ∧ k_ ≠ gb443) u4 x4_1) ∧ Aside0 (Kd.V (Kd.int .i64) 3 w' w.heap.size (fun k_ => ((P0_1_ k_ ∨ P0_2_ k_) ∨ w.heap.size ≤ k_) ∧ some k_ ≠ (v445 : Value).ownBlock ∧ some k_ ≠ (u4 : Value).ownBlock ∧ k_ ≠ gb443) (.slice A0_1 l0_1.length c0_1) l0_1) ∧ Aside0 (Kd.V k103 103 w' w.heap.size (fun k_ => ((P0_1_ k_ ∨ P0_2_ k_) ∨ w.heap.size ≤ k_) ∧ some k_ ≠ (v445 : Value).ownBlock ∧ some k_ ≠ (u4 : Value).ownBlock ∧ k_ ≠ gb443) (.slice A0_2 l0_2.length c0_2) l0_2) ∧ Aside0 (w'.heap[gb443]? = some (.cells #[(.slice A0_0 l0_0.length c0_0), (.slice A0_1 l0_1.length c0_1), (.slice A0_2 l0_2.length c0_2), (.slice A0_3 l0_3.length c0_3)] 26 (0, 0))) ∧ Aside0 (Below w.heap.size w w'))
     case atStart => exact ⟨(y444), (0), zr, H', ⟨Nat.le_refl _⟩, ⟨zlR Ze.out⟩, ⟨zlN Zf.out⟩, ⟨by (with_reducible repeat (first | apply Kd.V_alloc | apply Kd.V_drewN | apply Kd.V_drew)); exact Zc.out⟩, ⟨by (with_reducible repeat (first | apply Kd.V_alloc | apply Kd.V_drewN | apply Kd.V_drew)); exact Zb.out⟩, ⟨zl Za.out⟩, ⟨zg_2 HB.out Zd.out⟩⟩
     case round =>
      clear H'
      try clear c1
      try clear c2
      try clear c2b0
      try clear c2b1
      try clear p2
      try clear c4
      try clear p4
      try clear q4
      try clear hx4
      try clear p6
      try clear c8
      try clear c9
      try clear c9b0
      try clear c10
      try clear c10b0
      try clear c11
      try clear hx450_0
      try clear hx450_1
      try clear p2
      try clear p450
      try clear q450
      obtain ⟨x3_2, x6_2, rfl, HA, HK2, Ze, Zf, Zc, Zb, Za, HB⟩ := hrel
      cases gk with
      | zero => exact absurd HA.out (by simp [spec_l10Count.l1])
      | succ k2 =>
       have H := HA.out; clear HA
       simp only [spec_l10Count.l1] at H
       by_cases c15 : x6_2 < (x4_1.length : Int)
       ·rw [if_pos c15] at H
        have c15b0 := decide_eq_true c15; clear c15
        by_cases c16 : 0 ≤ x6_2
        ·rw [if_pos c16] at H
         have c16b0 := decide_eq_true c16; clear c16; replace H := Option.bind_eq_some_iff.mp H
         obtain ⟨t455, A170, H⟩ := H
         try dsimp only at H
         have A17 := zm A170; clear A170
         have H' := zm H
         clear H
         obtain ⟨Ao18, co18, eo18⟩ := Kd.N_slice Zf.out
         subst eo18
         have p454 : 0 ≤ (x6_2 : Int) := zd
         have q454 : x6_2 < (x4_1.length : Int) := zd
         obtain ⟨ad454, A454_0, c454_0, e454, hx454_0, hl454_0, hi454_0⟩ := at_L3 (Kd.N_reads' Zf.out).2.2 x6_2 p454 q454
         cases e454
         obtain ⟨ce454, hce454, hMe454, hcc454⟩ := Kd.N_get Zf.out [] x6_2 p454 (by first | exact q454 | exact zd | (have e_ := (Kd.N_reads' Zf.out).1; omega))
         obtain ⟨ua454_0, uc454_0, rfl, ul454_0, ge454_0⟩ := Kd.FK_slice_open hMe454
         have hv454_0 := hcc454 0 _ rfl
         rw [Nat.add_zero, show ((Kd.slice 3 (Kd.int .i64))).sz = 1 from rfl, Nat.mul_one] at hv454_0
         replace hv454_0 := Option.some.inj (hv454_0.symm.trans hx454_0)
         injection hv454_0 with hva_ hvn_ hvc_
         rw [hva_] at ge454_0
         rw [hvc_] at ul454_0
         have Zk := zm (show Kd.V (Kd.int .i64) 3 _ w.heap.size _ _ (rd_L3 x4_1 x6_2) from Kd.V_mk ul454_0 ge454_0); clear hva_ hvn_ hvc_ ge454_0 ul454_0; clear hcc454 hce454; have Zh := zm hi454_0; have Zn := zm hl454_0; clear hi454_0 hl454_0; replace p454 := eq_true p454; replace q454 := eq_true q454
         go_wp2_with (first | ((with_reducible refine gate_callee (f := 128) rfl ?_); refine goesL_ (some 39) rfl rfl Tryz.func128 (by kernel_rfl) rfl #[.slice A454_0 (rd_L3 x4_1 x6_2).length c454_0] rfl zq ?_; (with_reducible refine (spec_l09Clusters.calls k2 _ _ (rd_L3 x4_1 x6_2) t455 _ ?side1 ?side2 A17.out).mono ?_); (case side1 => repeat (first | exact (by repeat (first | (with_reducible exact Zh.out) | (with_reducible refine Kd.C_alloc ?_ _) | (with_reducible refine Kd.C_drewN ?_ _) | (with_reducible refine Kd.C_drew ?_) | exact Zh.out)) | (with_reducible refine Kd.C_alloc ?_ _) | (with_reducible refine Kd.C_drewN ?_ _) | (with_reducible refine Kd.C_drew ?_))); (case side2 => exact Zn.out); rintro e w19 ⟨v456, rfl, ho0, hb⟩; refine ⟨_, rfl, ?_⟩; have n0_ := zm (Kd.R_elder' (zg_6 Ze.out) (Kd.R_base ho0) hb); have n1_ := zm (Kd.N_elder' (zg_4 Zf.out) (Kd.R_base ho0) hb); have n2_ := zm (Kd.V_elder' (zg_0 Zc.out) (Kd.R_base ho0) hb); have n3_ := zm (Kd.V_elder' (zg_0 Zb.out) (Kd.R_base ho0) hb); have n4_ := zm (Kd.V_elder' (zg_0 Zk.out) (Kd.R_base ho0) hb); have n5_ := zm (Kd.R_lower (Kd.R_new' (Kd.R_newM (M := fun k_ => (w.heap.size ≤ k_)) ho0 (below_size (zg_2 HB.out Zd.out)) (fun k_ h_ => h_)) (Kd.R_lt (zg_6 Ze.out))) (below_size (zg_2 HB.out Zd.out))); have n6_ := zm (blk_below (zg_3 Za.out) hb); have n7_ := zm (Kd.C_below (by repeat (first | (with_reducible exact Zh.out) | (with_reducible refine Kd.C_alloc ?_ _) | (with_reducible refine Kd.C_drewN ?_ _) | (with_reducible refine Kd.C_drew ?_) | exact Zh.out)) hb); have n8_ := zm (below_step (zg_2 HB.out Zd.out) hb); replace Ze := n0_; replace Zf := n1_; replace Zc := n2_; replace Zb := n3_; replace Zk := n4_; have Zr := n5_; replace Za := n6_; replace Zh := n7_; replace HB := n8_; clear n0_ n1_ n2_ n3_ n4_ n5_ n6_ n7_ n8_; (try clear hb); (try clear hb2); (try clear hk); (try clear hi); (try clear ho0)))
         go_loopg [8] k2 (fun kq v8 w' => ∃ (x3_3 : List Int) (x8_3 : Int), v8 = .int .i64 x8_3 ∧ Aside0 (spec_l10Count.l2 kq x3_3 x4_1 x6_2 t455 x8_3 = some r) ∧ Aside0 (kq ≤ k2) ∧ Aside0 (Kd.R (Kd.int .i64) 3 w' w.heap.size (fun k_ => (w.heap.size ≤ k_) ∧ some k_ ≠ (v456 : Value).ownBlock) v445 x3_3) ∧ Aside0 (Kd.N (Kd.slice 3 (Kd.int .i64)) 23 w' w.heap.size (fun k_ => ((P0_1_ k_ ∨ P0_2_ k_) ∨ w.heap.size ≤ k_) ∧ some k_ ≠ (v445 : Value).ownBlock ∧ some k_ ≠ (v456 : Value).ownBlock ∧ k_ ≠ gb443) (.slice (some ad454) x4_1.length co18) x4_1) ∧ Aside0 (Kd.R (Kd.int .i64) 3 w' w.heap.size (fun k_ => (w.heap.size ≤ k_) ∧ some k_ ≠ (v445 : Value).ownBlock) v456 t455) ∧ Aside0 (Kd.V (Kd.int .i64) 3 w' w.heap.size (fun k_ => ((P0_1_ k_ ∨ P0_2_ k_) ∨ w.heap.size ≤ k_) ∧ some k_ ≠ (v445 : Value).ownBlock ∧ some k_ ≠ ((.slice (some ad454) x4_1.length co18) : Value).ownBlock ∧ some k_ ≠ (v456 : Value).ownBlock ∧ k_ ≠ gb443) (.slice A0_1 l0_1.length c0_1) l0_1) ∧ Aside0 (Kd.V k103 103 w' w.heap.size (fun k_ => ((P0_1_ k_ ∨ P0_2_ k_) ∨ w.heap.size ≤ k_) ∧ some k_ ≠ (v445 : Value).ownBlock ∧ some k_ ≠ ((.slice (some ad454) x4_1.length co18) : Value).ownBlock ∧ some k_ ≠ (v456 : Value).ownBlock ∧ k_ ≠ gb443) (.slice A0_2 l0_2.length c0_2) l0_2) ∧ Aside0 (w'.heap[gb443]? = some (.cells #[(.slice A0_0 l0_0.length c0_0), (.slice A0_1 l0_1.length c0_1), (.slice A0_2 l0_2.length c0_2), (.slice A0_3 l0_3.length c0_3)] 26 (0, 0))) ∧ Aside0 (Below w.heap.size w w'))
         case atStart => exact ⟨(x3_2), (0), zr, H', ⟨Nat.le_refl _⟩, ⟨zlR Ze.out⟩, ⟨by (with_reducible repeat (first | apply Kd.N_alloc | apply Kd.N_drewN | apply Kd.N_drew)); exact Kd.N_mono Zf.out (fun _ hk => ⟨hk.1.1, ⟨hk.1.2.1, ⟨hk.2, hk.1.2.2⟩⟩⟩)⟩, ⟨by (with_reducible repeat (first | apply Kd.R_alloc | apply Kd.R_drewN | apply Kd.R_drew)); exact Kd.R_mono Zr.out (fun _ hk => ⟨hk.1.1, hk.2⟩)⟩, ⟨by (with_reducible repeat (first | apply Kd.V_alloc | apply Kd.V_drewN | apply Kd.V_drew)); exact Kd.V_mono Zc.out (fun _ hk => ⟨hk.1.1, ⟨hk.1.2.1, ⟨hk.1.2.2.1, ⟨hk.2, hk.1.2.2.2⟩⟩⟩⟩)⟩, ⟨by (with_reducible repeat (first | apply Kd.V_alloc | apply Kd.V_drewN | apply Kd.V_drew)); exact Kd.V_mono Zb.out (fun _ hk => ⟨hk.1.1, ⟨hk.1.2.1, ⟨hk.1.2.2.1, ⟨hk.2, hk.1.2.2.2⟩⟩⟩⟩)⟩, ⟨zl Za.out⟩, ⟨zg_2 HB.out Zd.out⟩⟩
         case round =>
          clear H'
          try clear c1
          try clear c2
          try clear c2b0
          try clear c2b1
          try clear p2
          try clear c4
          try clear p4
          try clear q4
          try clear hx4
          try clear p6
          try clear c8
          try clear c9
          try clear c9b0
          try clear c10
          try clear c10b0
          try clear c11
          try clear c12
          try clear c15
          try clear c15b0
          try clear c16
          try clear c16b0
          try clear hx450_0
          try clear hx450_1
          try clear hx454_0
          try clear p2
          try clear p4
          try clear p450
          try clear p454
          try clear p6
          try clear q4
          try clear q450
          try clear q454
          obtain ⟨x3_3, x8_3, rfl, HA, HK3, Ze, Zf, Zm, Zc, Zb, Za, HB⟩ := hrel
          cases gk with
          | zero => exact absurd HA.out (by simp [spec_l10Count.l2])
          | succ k3 =>
           have H := HA.out; clear HA
           simp only [spec_l10Count.l2] at H
           by_cases c20 : x8_3 < (t455.length : Int)
           ·rw [if_pos c20] at H
            have c20b0 := decide_eq_true c20; clear c20
            by_cases c21 : 0 ≤ x8_3
            ·rw [if_pos c21] at H
             have c21b0 := decide_eq_true c21; clear c21
             by_cases c22 : 0 ≤ (rd t455 x8_3)
             ·rw [if_pos c22] at H
              have c22b0 := decide_eq_true c22; clear c22
              by_cases c23 : (rd t455 x8_3) < (x3_3.length : Int)
              ·rw [if_pos c23] at H
               have c23b0 := decide_eq_true c23; clear c23
               obtain ⟨y460, hy460⟩ : ∃ y_ : List Int, y_ = (x3_3.set ((rd t455 x8_3) : Int).toNat (wrap64 ((rd x3_3 (rd t455 x8_3)) + 1))) := ⟨_, rfl⟩
               replace H : (spec_l10Count.l2 k3 y460 x4_1 x6_2 t455 (wrap64 (x8_3 + 1))) = some r := by first | (rw [hy460]; with_reducible exact H) | (have H2_ := (Option.bind_some _ _).symm.trans H; rw [hy460]; with_reducible exact H2_) | (have H2_ := (Option.bind_some _ _).symm.trans H; with_reducible exact H2_) | with_reducible exact H | (rw [hy460]; exact H) | exact H
               have Ny460 := zm hy460; clear hy460
               have H' := zm H
               clear H
               obtain ⟨Ao25, co25, eo25⟩ := Kd.R_slice Zm.out
               subst eo25
               have p458 : 0 ≤ (x8_3 : Int) := zd
               have q458 : x8_3 < (t455.length : Int) := zd
               obtain ⟨ad458, e458, hx458_0⟩ := Kd.at_int (Kd.R_reads' Zm.out).2.2 x8_3 p458 q458
               cases e458; replace p458 := eq_true p458; replace q458 := eq_true q458
               obtain ⟨Ao26, co26, eo26⟩ := Kd.R_slice Ze.out
               subst eo26
               have p459 : 0 ≤ ((rd t455 x8_3) : Int) := zd
               have q459 : (rd t455 x8_3) < (x3_3.length : Int) := zd
               obtain ⟨ad459, e459, hx459_0⟩ := Kd.at_int (Kd.R_reads' Ze.out).2.2 (rd t455 x8_3) p459 q459
               cases e459; replace p459 := eq_true p459; replace q459 := eq_true q459
               have p24 : 0 ≤ ((rd t455 x8_3) : Int) := zd
               have q24 : ((rd t455 x8_3) : Int) < ((x3_3.length : Int) : Int) := zd
               obtain ⟨go24, co24, eo24, gb24, gl24, cl24, HG24⟩ := Kd.R_form Ze.out (by omega)
               (first | cases eo24 | (injection eo24 with ea_ en_ ec_; (first | subst ea_ | (injection ea_ with ea_; subst ea_)); subst ec_; clear en_))
               have GB24 := zm gb24; have Zz := zm HG24; clear gb24 gl24 HG24
               (first | simp only [add_plain] at hx459_0 | skip)
               obtain ⟨hx24_0, hf24_0⟩ := Kd.R_celln 0 Ze.out ((rd t455 x8_3) : Int) p24 q24
               replace p24 := eq_true p24; replace q24 := eq_true q24; have Zo := Kd.R_putg Ze.out ((rd t455 x8_3) : Int) (wrap64 ((rd x3_3 (rd t455 x8_3)) + 1))
               go_wp2_with (first | ((with_reducible refine gate_store (t := 3) (p := 54) rfl ?_); refine store_event (t := 3) (p := 54) (v := ?vo_w28) (w1 := (wr.setCell ⟨go24, ((rd t455 x8_3) : Int).toNat, none⟩ (.int .i64 (wrap64 ((rd x3_3 (rd t455 x8_3)) + 1))))) ?hg ?ho ?hn ?hr ?_; (case ho => rfl); (case hg => rfl); (case hn => rfl); (case hr => first | (go_simp; done) | (go_simp; rfl)); intro w28 hw; have hg : wr.grownBy w28 (some go24) := (by rw [hw]; exact Zo.2); have hp_ : Kd.R (Kd.int .i64) 3 w28 w.heap.size (fun k_ => (w.heap.size ≤ k_) ∧ some k_ ≠ (.slice (some ad458) t455.length co25 : Value).ownBlock) (.slice (some ⟨go24, 0, none⟩) x3_3.length co26) y460 := (by rw [hw, Ny460.out]; exact Zo.1); clear Zo; have n0_ := zm (hp_); have n1_ := zm (Kd.N_afterv (v := (.slice (some ⟨go24, 0, none⟩) x3_3.length co26)) (v1 := (.slice (some ⟨go24, 0, none⟩) x3_3.length co26)) (ok := (fun k_ => ((P0_1_ k_ ∨ P0_2_ k_) ∨ w.heap.size ≤ k_) ∧ some k_ ≠ (.slice (some ad458) t455.length co25 : Value).ownBlock ∧ k_ ≠ gb443)) (by (with_reducible repeat (first | apply Kd.N_alloc | apply Kd.N_drewN | apply Kd.N_drew)); exact Kd.N_mono Zf.out (fun _ hk => ⟨⟨hk.1, ⟨hk.2.2.1, hk.2.2.2⟩⟩, hk.2.1⟩)) hg (.inl rfl)); have n2_ := zm (Kd.R_after (v := (.slice (some ⟨go24, 0, none⟩) x3_3.length co26)) (v1 := (.slice (some ⟨go24, 0, none⟩) x3_3.length co26)) (ok := (fun k_ => (w.heap.size ≤ k_))) (zg_6 Zm.out) hg (.inl rfl)); have n3_ := zm (Kd.V_afterv (v := (.slice (some ⟨go24, 0, none⟩) x3_3.length co26)) (v1 := (.slice (some ⟨go24, 0, none⟩) x3_3.length co26)) (ok := (fun k_ => ((P0_1_ k_ ∨ P0_2_ k_) ∨ w.heap.size ≤ k_) ∧ some k_ ≠ (.slice (some ad454) x4_1.length co18 : Value).ownBlock ∧ some k_ ≠ (.slice (some ad458) t455.length co25 : Value).ownBlock ∧ k_ ≠ gb443)) (by (with_reducible repeat (first | apply Kd.V_alloc | apply Kd.V_drewN | apply Kd.V_drew)); exact Kd.V_mono Zc.out (fun _ hk => ⟨⟨hk.1, ⟨hk.2.2.1, ⟨hk.2.2.2.1, hk.2.2.2.2⟩⟩⟩, hk.2.1⟩)) hg (.inl rfl)); have n4_ := zm (Kd.V_afterv (v := (.slice (some ⟨go24, 0, none⟩) x3_3.length co26)) (v1 := (.slice (some ⟨go24, 0, none⟩) x3_3.length co26)) (ok := (fun k_ => ((P0_1_ k_ ∨ P0_2_ k_) ∨ w.heap.size ≤ k_) ∧ some k_ ≠ (.slice (some ad454) x4_1.length co18 : Value).ownBlock ∧ some k_ ≠ (.slice (some ad458) t455.length co25 : Value).ownBlock ∧ k_ ≠ gb443)) (by (with_reducible repeat (first | apply Kd.V_alloc | apply Kd.V_drewN | apply Kd.V_drew)); exact Kd.V_mono Zb.out (fun _ hk => ⟨⟨hk.1, ⟨hk.2.2.1, ⟨hk.2.2.2.1, hk.2.2.2.2⟩⟩⟩, hk.2.1⟩)) hg (.inl rfl)); have n5_ := zm (blk_grown (zg_3 Za.out) hg (Kd.R_ne Ze.out Za.out (by decide))); have n6_ := zm ((by rw [hw]; exact below_set (HB.out) GB24.out : Below w.heap.size w w28)); replace Ze := n0_; replace Zf := n1_; replace Zm := n2_; replace Zc := n3_; replace Zb := n4_; replace Za := n5_; replace HB := n6_; clear n0_ n1_ n2_ n3_ n4_ n5_ n6_; clear hg hw hp_))
               go_roundg k3
               case measure => have := HK1.out; have := HK2.out; have := HK3.out; omega
               case rel => exact ⟨(y460), (wrap64 (x8_3 + 1)), zr, H', ⟨by have := HK1.out; have := HK2.out; have := HK3.out; omega⟩, ⟨zlR Ze.out⟩, ⟨by (with_reducible repeat (first | apply Kd.N_alloc | apply Kd.N_drewN | apply Kd.N_drew)); exact Kd.N_mono Zf.out (fun _ hk => ⟨hk.1.1, ⟨hk.2, ⟨hk.1.2.1, hk.1.2.2⟩⟩⟩)⟩, ⟨zlR Zm.out⟩, ⟨by (with_reducible repeat (first | apply Kd.V_alloc | apply Kd.V_drewN | apply Kd.V_drew)); exact Kd.V_mono Zc.out (fun _ hk => ⟨hk.1.1, ⟨hk.2, ⟨hk.1.2.1, ⟨hk.1.2.2.1, hk.1.2.2.2⟩⟩⟩⟩)⟩, ⟨by (with_reducible repeat (first | apply Kd.V_alloc | apply Kd.V_drewN | apply Kd.V_drew)); exact Kd.V_mono Zb.out (fun _ hk => ⟨hk.1.1, ⟨hk.2, ⟨hk.1.2.1, ⟨hk.1.2.2.1, hk.1.2.2.2⟩⟩⟩⟩)⟩, ⟨zl Za.out⟩, ⟨zg_2 HB.out Zd.out⟩⟩
              ·rw [if_neg c23] at H
               exact absurd H (by simp)
             ·rw [if_neg c22] at H
              exact absurd H (by simp)
            ·rw [if_neg c21] at H
             exact absurd H (by simp)
           ·rw [if_neg c20] at H
            have c20b0 := decide_eq_false c20; clear c20
            have H' := zm H
            clear H
            obtain ⟨Ao29, co29, eo29⟩ := Kd.R_slice Zm.out
            subst eo29
            go_wp2
            go_roundg k3
            case measure => have := HK1.out; have := HK2.out; have := HK3.out; omega
            case rel => exact ⟨(x3_3), (wrap64 (x6_2 + 1)), zr, H', ⟨by have := HK1.out; have := HK2.out; have := HK3.out; omega⟩, ⟨by (with_reducible repeat (first | apply Kd.R_alloc | apply Kd.R_drewN | apply Kd.R_drew)); exact Kd.R_mono Ze.out (fun _ hk => hk.1)⟩, ⟨by (with_reducible repeat (first | apply Kd.N_alloc | apply Kd.N_drewN | apply Kd.N_drew)); exact Kd.N_mono Zf.out (fun _ hk => ⟨hk.1, ⟨hk.2.1, hk.2.2.2⟩⟩)⟩, ⟨by (with_reducible repeat (first | apply Kd.V_alloc | apply Kd.V_drewN | apply Kd.V_drew)); exact Kd.V_mono Zc.out (fun _ hk => ⟨hk.1, ⟨hk.2.1, ⟨hk.2.2.1, hk.2.2.2.2⟩⟩⟩)⟩, ⟨by (with_reducible repeat (first | apply Kd.V_alloc | apply Kd.V_drewN | apply Kd.V_drew)); exact Kd.V_mono Zb.out (fun _ hk => ⟨hk.1, ⟨hk.2.1, ⟨hk.2.2.1, hk.2.2.2.2⟩⟩⟩)⟩, ⟨zl Za.out⟩, ⟨zg_2 HB.out Zd.out⟩⟩
        ·rw [if_neg c16] at H
         exact absurd H (by simp)
       ·rw [if_neg c15] at H
        have c15b0 := decide_eq_false c15; clear c15; obtain rfl := Option.some.inj H
        obtain ⟨Ao30, co30, eo30⟩ := Kd.N_slice Zf.out
        subst eo30
        go_wp2
        go_ret
        exact ⟨_, ze, by (with_reducible repeat (first | apply Kd.R_alloc | apply Kd.R_drewN | apply Kd.R_drew)); exact Ze.out, zg_2 HB.out Zd.out⟩
 ·rw [if_neg c2] at H
  exact absurd H (by simp)
def spec_l01In.f (a0 : Int) (a1 : Int) (a2 : Int) : Option (Bool) := if a1 ≤ a0 then (some (decide (a0 ≤ a2))) else (some false)
set_option maxHeartbeats 8000000 in
set_option maxRecDepth 100000 in
theorem spec_l01In.calls (a0 : Int) (a1 : Int) (a2 : Int) (r : Bool) (w : World) (h : spec_l01In.f a0 a1 a2 = some r) :
    Calls Tryz.prog 138 #[.int .i64 a0, .int .i64 a1, .int .i64 a2] w fun e w' => e = .returned (.bool r) ∧ Drawn0 w w' := by
  have H : (if a1 ≤ a0 then (some (decide (a0 ≤ a2))) else (some false)) = some r := h
  clear h
  by_cases c4 : a1 ≤ a0
  · rw [if_pos c4] at H
    have c4b0 := decide_eq_true c4; clear c4; obtain rfl := Option.some.inj H
    go_enter Tryz.func138, Tryz.ntmps138
    go_wp2
    go_ret
    exact ⟨zr, by repeat (first | exact Drawn0.refl _ | apply Drawn0.step)⟩
  · rw [if_neg c4] at H
    have c4b0 := decide_eq_false c4; clear c4; obtain rfl := Option.some.inj H
    go_enter Tryz.func138, Tryz.ntmps138
    go_wp2
    go_ret
    exact ⟨zr, by repeat (first | exact Drawn0.refl _ | apply Drawn0.step)⟩
def spec_RefsOK.l0 : Nat → List Int → Int → Option (Bool)
  | 0, _, _ => none
  | k + 1, x0, x3 => if x3 < (x0.length : Int) then (if 0 ≤ x3 then ((spec_l01In.f (rd x0 x3) 0 15).bind fun t423 => (if t423 = true then (spec_RefsOK.l0 k x0 (wrap64 (x3 + 1))) else (some false))) else (none)) else (some ((x0.length : Int) == 24))
def spec_RefsOK.f (k : Nat) (l0 : List Int) : Option (Bool) := if (l0.length : Int) > 4096 then (some false) else (spec_RefsOK.l0 k l0 0)
theorem spec_RefsOK.mono_l : ∀ k, (∀ y0 y1, LeO (spec_RefsOK.l0 k y0 y1) (spec_RefsOK.l0 (k + 1) y0 y1))
  | 0 => fun _ _ r h => by simp [spec_RefsOK.l0] at h
  | k + 1 => by
    have ih0 := spec_RefsOK.mono_l k
    · intro y0 y1
      unfold spec_RefsOK.l0
      repeat' first| (with_reducible first | exact ih0 _ _ | exact LeO.refl _ | exact LeO.none _ | refine LeO.ite ?_ ?_ | refine LeO.bind ?_ (fun _ => ?_)) | exact ih0 _ _ | exact LeO.none _ | refine LeO.ite ?_ ?_ | refine LeO.bind ?_ (fun _ => ?_)
theorem spec_RefsOK.mono : ∀ a0 k, LeO (spec_RefsOK.f k a0) (spec_RefsOK.f (k + 1) a0) := by
  intro a0 k
  have ih0 := spec_RefsOK.mono_l k
  unfold spec_RefsOK.f
  repeat' first| (with_reducible first | exact ih0 _ _ | exact LeO.refl _ | exact LeO.none _ | refine LeO.ite ?_ ?_ | refine LeO.bind ?_ (fun _ => ?_)) | exact ih0 _ _ | exact LeO.none _ | refine LeO.ite ?_ ?_ | refine LeO.bind ?_ (fun _ => ?_)
set_option maxHeartbeats 8000000 in
set_option maxRecDepth 100000 in
theorem spec_RefsOK.calls (k : Nat) (A0 : Option Addr) (c0 : Nat) (l0 : List Int) (r : Bool) (w : World) (hr0 : Kd.C (Kd.int .i64) w A0 l0.length l0) (hc0 : l0.length ≤ c0) (h : spec_RefsOK.f k l0 = some r) :
    Calls Tryz.prog 125 #[.slice A0 l0.length c0] w fun e w' => e = .returned (.bool r) ∧ Drawn0 w w' := by
 have HR0 := zm hr0; have HC0 := zm hc0; clear hr0 hc0
 have H : (if (l0.length : Int) > 4096 then (some false) else (spec_RefsOK.l0 k l0 0)) = some r := h
 clear h
 by_cases c2 : (l0.length : Int) > 4096
 ·rw [if_pos c2] at H
  have c2b0 := decide_eq_true c2
  have c2b1 : decide (4096 < l0.length) = true := decide_eq_true (by omega)
  clear c2; obtain rfl := Option.some.inj H
  go_enter Tryz.func125, Tryz.ntmps125
  go_wp2
  go_ret
  exact ⟨zr, by repeat (first | exact Drawn0.refl _ | apply Drawn0.step)⟩
 ·rw [if_neg c2] at H
  have c2b0 := decide_eq_false c2
  have c2b1 : decide (4096 < l0.length) = false := decide_eq_false (by omega)
  clear c2
  have H' := zm H
  clear H
  go_enter Tryz.func125, Tryz.ntmps125
  go_wp2
  go_loopg [3] k (fun kq v3 w' => ∃ (x3_1 : Int), v3 = .int .i64 x3_1 ∧ Aside0 (spec_RefsOK.l0 kq l0 x3_1 = some r) ∧ Aside0 (kq ≤ k) ∧ Drawn0 w w')
  case atStart => exact ⟨(0), zr, H', ⟨Nat.le_refl _⟩, by repeat (first | exact Drawn0.refl _ | apply Drawn0.step)⟩
  case round =>
   clear H'
   try clear c1
   try clear c2
   try clear c2b0
   try clear c2b1
   try clear p2
   obtain ⟨x3_1, rfl, HA, HK1, ⟨m1, rfl⟩⟩ := hrel
   cases gk with
   | zero => exact absurd HA.out (by simp [spec_RefsOK.l0])
   | succ k1 =>
    have H := HA.out; clear HA
    simp only [spec_RefsOK.l0] at H
    by_cases c3 : x3_1 < (l0.length : Int)
    ·rw [if_pos c3] at H
     have c3b0 := decide_eq_true c3; clear c3
     by_cases c4 : 0 ≤ x3_1
     ·rw [if_pos c4] at H
      have c4b0 := decide_eq_true c4; clear c4; replace H := Option.bind_eq_some_iff.mp H
      obtain ⟨t423, A50, H⟩ := H
      try dsimp only at H
      have A5 := zm A50; clear A50
      by_cases c6 : t423 = true
      ·subst c6
       replace H : (spec_RefsOK.l0 k1 l0 (wrap64 (x3_1 + 1))) = some r := by rw [if_pos rfl] at H; exact H
       have H' := zm H
       clear H
       have p422 : 0 ≤ (x3_1 : Int) := zd
       have q422 : x3_1 < (l0.length : Int) := zd
       obtain ⟨ad422, e422, hx422_0⟩ := Kd.at_int HR0.out x3_1 p422 q422
       cases e422; replace p422 := eq_true p422; replace q422 := eq_true q422
       go_wp2_with (first | ((with_reducible refine gate_callee (f := 138) rfl ?_); refine goesL_ (some 17) rfl rfl Tryz.func138 (by kernel_rfl) rfl #[.int .i64 (rd l0 x3_1), .int .i64 0, .int .i64 15] rfl zq ?_; (with_reducible refine (spec_l01In.calls (rd l0 x3_1) 0 15 true _ A5.out).mono ?_); rintro e w' ⟨rfl, ⟨nd, rfl⟩⟩; refine ⟨_, rfl, ?_⟩))
       go_roundg k1
       case measure => have := HK1.out; omega
       case rel => exact ⟨(wrap64 (x3_1 + 1)), zr, H', ⟨by have := HK1.out; omega⟩, by repeat (first | exact Drawn0.refl _ | apply Drawn0.step)⟩
      ·replace c6 := Bool.eq_false_iff.mpr c6
       subst c6
       replace H : (some false) = some r := by rw [if_neg (show ¬ (false = true) by decide)] at H; exact H
       obtain rfl := Option.some.inj H
       have p422 : 0 ≤ (x3_1 : Int) := zd
       have q422 : x3_1 < (l0.length : Int) := zd
       obtain ⟨ad422, e422, hx422_0⟩ := Kd.at_int HR0.out x3_1 p422 q422
       cases e422; replace p422 := eq_true p422; replace q422 := eq_true q422
       go_wp2_with (first | ((with_reducible refine gate_callee (f := 138) rfl ?_); refine goesL_ (some 17) rfl rfl Tryz.func138 (by kernel_rfl) rfl #[.int .i64 (rd l0 x3_1), .int .i64 0, .int .i64 15] rfl zq ?_; (with_reducible refine (spec_l01In.calls (rd l0 x3_1) 0 15 false _ A5.out).mono ?_); rintro e w' ⟨rfl, ⟨nd, rfl⟩⟩; refine ⟨_, rfl, ?_⟩))
       go_ret
       exact ⟨zr, by repeat (first | exact Drawn0.refl _ | apply Drawn0.step)⟩
     ·rw [if_neg c4] at H
      exact absurd H (by simp)
    ·rw [if_neg c3] at H
     have c3b0 := decide_eq_false c3; clear c3; obtain rfl := Option.some.inj H
     go_wp2
     go_ret
     exact ⟨zr, by repeat (first | exact Drawn0.refl _ | apply Drawn0.step)⟩
def spec_TableOK.l0 : Nat → List Int → Int → Option (Bool)
  | 0, _, _ => none
  | k + 1, x0, x3 => if x3 < (x0.length : Int) then (if 0 ≤ x3 then ((spec_l01In.f (rd x0 x3) 0 25).bind fun t425 => (if t425 = true then (spec_TableOK.l0 k x0 (wrap64 (x3 + 1))) else (some false))) else (none)) else (some (decide ((x0.length : Int) ≤ 12)))
def spec_TableOK.f (k : Nat) (l0 : List Int) : Option (Bool) := if (l0.length : Int) > 4096 then (some false) else (spec_TableOK.l0 k l0 0)
theorem spec_TableOK.mono_l : ∀ k, (∀ y0 y1, LeO (spec_TableOK.l0 k y0 y1) (spec_TableOK.l0 (k + 1) y0 y1))
  | 0 => fun _ _ r h => by simp [spec_TableOK.l0] at h
  | k + 1 => by
    have ih0 := spec_TableOK.mono_l k
    · intro y0 y1
      unfold spec_TableOK.l0
      repeat' first| (with_reducible first | exact ih0 _ _ | exact LeO.refl _ | exact LeO.none _ | refine LeO.ite ?_ ?_ | refine LeO.bind ?_ (fun _ => ?_)) | exact ih0 _ _ | exact LeO.none _ | refine LeO.ite ?_ ?_ | refine LeO.bind ?_ (fun _ => ?_)
theorem spec_TableOK.mono : ∀ a0 k, LeO (spec_TableOK.f k a0) (spec_TableOK.f (k + 1) a0) := by
  intro a0 k
  have ih0 := spec_TableOK.mono_l k
  unfold spec_TableOK.f
  repeat' first| (with_reducible first | exact ih0 _ _ | exact LeO.refl _ | exact LeO.none _ | refine LeO.ite ?_ ?_ | refine LeO.bind ?_ (fun _ => ?_)) | exact ih0 _ _ | exact LeO.none _ | refine LeO.ite ?_ ?_ | refine LeO.bind ?_ (fun _ => ?_)
set_option maxHeartbeats 8000000 in
set_option maxRecDepth 100000 in
theorem spec_TableOK.calls (k : Nat) (A0 : Option Addr) (c0 : Nat) (l0 : List Int) (r : Bool) (w : World) (hr0 : Kd.C (Kd.int .i64) w A0 l0.length l0) (hc0 : l0.length ≤ c0) (h : spec_TableOK.f k l0 = some r) :
    Calls Tryz.prog 126 #[.slice A0 l0.length c0] w fun e w' => e = .returned (.bool r) ∧ Drawn0 w w' := by
 have HR0 := zm hr0; have HC0 := zm hc0; clear hr0 hc0
 have H : (if (l0.length : Int) > 4096 then (some false) else (spec_TableOK.l0 k l0 0)) = some r := h
 clear h
 by_cases c2 : (l0.length : Int) > 4096
 ·rw [if_pos c2] at H
  have c2b0 := decide_eq_true c2
  have c2b1 : decide (4096 < l0.length) = true := decide_eq_true (by omega)
  clear c2; obtain rfl := Option.some.inj H
  go_enter Tryz.func126, Tryz.ntmps126
  go_wp2
  go_ret
  exact ⟨zr, by repeat (first | exact Drawn0.refl _ | apply Drawn0.step)⟩
 ·rw [if_neg c2] at H
  have c2b0 := decide_eq_false c2
  have c2b1 : decide (4096 < l0.length) = false := decide_eq_false (by omega)
  clear c2
  have H' := zm H
  clear H
  go_enter Tryz.func126, Tryz.ntmps126
  go_wp2
  go_loopg [3] k (fun kq v3 w' => ∃ (x3_1 : Int), v3 = .int .i64 x3_1 ∧ Aside0 (spec_TableOK.l0 kq l0 x3_1 = some r) ∧ Aside0 (kq ≤ k) ∧ Drawn0 w w')
  case atStart => exact ⟨(0), zr, H', ⟨Nat.le_refl _⟩, by repeat (first | exact Drawn0.refl _ | apply Drawn0.step)⟩
  case round =>
   clear H'
   try clear c1
   try clear c2
   try clear c2b0
   try clear c2b1
   try clear p2
   obtain ⟨x3_1, rfl, HA, HK1, ⟨m1, rfl⟩⟩ := hrel
   cases gk with
   | zero => exact absurd HA.out (by simp [spec_TableOK.l0])
   | succ k1 =>
    have H := HA.out; clear HA
    simp only [spec_TableOK.l0] at H
    by_cases c3 : x3_1 < (l0.length : Int)
    ·rw [if_pos c3] at H
     have c3b0 := decide_eq_true c3; clear c3
     by_cases c4 : 0 ≤ x3_1
     ·rw [if_pos c4] at H
      have c4b0 := decide_eq_true c4; clear c4; replace H := Option.bind_eq_some_iff.mp H
      obtain ⟨t425, A50, H⟩ := H
      try dsimp only at H
      have A5 := zm A50; clear A50
      by_cases c6 : t425 = true
      ·subst c6
       replace H : (spec_TableOK.l0 k1 l0 (wrap64 (x3_1 + 1))) = some r := by rw [if_pos rfl] at H; exact H
       have H' := zm H
       clear H
       have p424 : 0 ≤ (x3_1 : Int) := zd
       have q424 : x3_1 < (l0.length : Int) := zd
       obtain ⟨ad424, e424, hx424_0⟩ := Kd.at_int HR0.out x3_1 p424 q424
       cases e424; replace p424 := eq_true p424; replace q424 := eq_true q424
       go_wp2_with (first | ((with_reducible refine gate_callee (f := 138) rfl ?_); refine goesL_ (some 17) rfl rfl Tryz.func138 (by kernel_rfl) rfl #[.int .i64 (rd l0 x3_1), .int .i64 0, .int .i64 25] rfl zq ?_; (with_reducible refine (spec_l01In.calls (rd l0 x3_1) 0 25 true _ A5.out).mono ?_); rintro e w' ⟨rfl, ⟨nd, rfl⟩⟩; refine ⟨_, rfl, ?_⟩))
       go_roundg k1
       case measure => have := HK1.out; omega
       case rel => exact ⟨(wrap64 (x3_1 + 1)), zr, H', ⟨by have := HK1.out; omega⟩, by repeat (first | exact Drawn0.refl _ | apply Drawn0.step)⟩
      ·replace c6 := Bool.eq_false_iff.mpr c6
       subst c6
       replace H : (some false) = some r := by rw [if_neg (show ¬ (false = true) by decide)] at H; exact H
       obtain rfl := Option.some.inj H
       have p424 : 0 ≤ (x3_1 : Int) := zd
       have q424 : x3_1 < (l0.length : Int) := zd
       obtain ⟨ad424, e424, hx424_0⟩ := Kd.at_int HR0.out x3_1 p424 q424
       cases e424; replace p424 := eq_true p424; replace q424 := eq_true q424
       go_wp2_with (first | ((with_reducible refine gate_callee (f := 138) rfl ?_); refine goesL_ (some 17) rfl rfl Tryz.func138 (by kernel_rfl) rfl #[.int .i64 (rd l0 x3_1), .int .i64 0, .int .i64 25] rfl zq ?_; (with_reducible refine (spec_l01In.calls (rd l0 x3_1) 0 25 false _ A5.out).mono ?_); rintro e w' ⟨rfl, ⟨nd, rfl⟩⟩; refine ⟨_, rfl, ?_⟩))
       go_ret
       exact ⟨zr, by repeat (first | exact Drawn0.refl _ | apply Drawn0.step)⟩
     ·rw [if_neg c4] at H
      exact absurd H (by simp)
    ·rw [if_neg c3] at H
     have c3b0 := decide_eq_false c3; clear c3; obtain rfl := Option.some.inj H
     go_wp2
     go_ret
     exact ⟨zr, by repeat (first | exact Drawn0.refl _ | apply Drawn0.step)⟩
def spec_l02Int.f (a0 : Int) : Option (Bool) := (spec_l01In.f a0 0 2147483647).bind fun t426 => (some t426)
set_option maxHeartbeats 8000000 in
set_option maxRecDepth 100000 in
theorem spec_l02Int.calls (a0 : Int) (r : Bool) (w : World) (h : spec_l02Int.f a0 = some r) :
    Calls Tryz.prog 127 #[.int .i64 a0] w fun e w' => e = .returned (.bool r) ∧ Drawn0 w w' := by
  have H : ((spec_l01In.f a0 0 2147483647).bind fun t426 => (some t426)) = some r := h
  clear h; replace H := Option.bind_eq_some_iff.mp H
  obtain ⟨t426, A20, H⟩ := H
  replace H : (some t426) = some r := H
  have A2 := zm A20; clear A20; obtain rfl := Option.some.inj H
  go_enter Tryz.func127, Tryz.ntmps127
  go_wp2_with (first | ((with_reducible refine gate_callee (f := 138) rfl ?_); refine goesL_ (some 4) rfl rfl Tryz.func138 (by kernel_rfl) rfl #[.int .i64 a0, .int .i64 0, .int .i64 2147483647] rfl zq ?_; (with_reducible refine (spec_l01In.calls a0 0 2147483647 t426 _ A2.out).mono ?_); rintro e w' ⟨rfl, ⟨nd, rfl⟩⟩; refine ⟨_, rfl, ?_⟩))
  go_ret
  exact ⟨zr, by repeat (first | exact Drawn0.refl _ | apply Drawn0.step)⟩
def spec_l10Name.l0 : Nat → ByteArray → Int → Option (Bool)
  | 0, _, _ => none
  | k + 1, x0, x3 => if x3 < (x0.size : Int) then (if 0 ≤ x3 then (if (bt x0 x3) < 97 then (some false) else (if (bt x0 x3) > 122 then (some false) else (spec_l10Name.l0 k x0 (wrap64 (x3 + 1))))) else (none)) else ((spec_l01In.f (x0.size : Int) 1 6).bind fun t193 => (some t193))
def spec_l10Name.f (k : Nat) (a0 : ByteArray) : Option (Bool) := spec_l10Name.l0 k a0 0
theorem spec_l10Name.mono_l : ∀ k, (∀ y0 y1, LeO (spec_l10Name.l0 k y0 y1) (spec_l10Name.l0 (k + 1) y0 y1))
  | 0 => fun _ _ r h => by simp [spec_l10Name.l0] at h
  | k + 1 => by
    have ih0 := spec_l10Name.mono_l k
    · intro y0 y1
      unfold spec_l10Name.l0
      repeat' first| (with_reducible first | exact ih0 _ _ | exact LeO.refl _ | exact LeO.none _ | refine LeO.ite ?_ ?_ | refine LeO.bind ?_ (fun _ => ?_)) | exact ih0 _ _ | exact LeO.none _ | refine LeO.ite ?_ ?_ | refine LeO.bind ?_ (fun _ => ?_)
theorem spec_l10Name.mono : ∀ a0 k, LeO (spec_l10Name.f k a0) (spec_l10Name.f (k + 1) a0) := by
  intro a0 k
  have ih0 := spec_l10Name.mono_l k
  unfold spec_l10Name.f
  repeat' first| (with_reducible first | exact ih0 _ _ | exact LeO.refl _ | exact LeO.none _ | refine LeO.ite ?_ ?_ | refine LeO.bind ?_ (fun _ => ?_)) | exact ih0 _ _ | exact LeO.none _ | refine LeO.ite ?_ ?_ | refine LeO.bind ?_ (fun _ => ?_)
set_option maxHeartbeats 8000000 in
set_option maxRecDepth 100000 in
theorem spec_l10Name.calls (k : Nat) (a0 : ByteArray) (r : Bool) (w : World) (h : spec_l10Name.f k a0 = some r) :
    Calls Tryz.prog 104 #[.string a0] w fun e w' => e = .returned (.bool r) ∧ Drawn0 w w' := by
 have H : (spec_l10Name.l0 k a0 0) = some r := h
 clear h
 have H' := zm H
 clear H
 go_enter Tryz.func104, Tryz.ntmps104
 go_wp2
 go_loopg [3] k (fun kq v3 w' => ∃ (x3_1 : Int), v3 = .int .i64 x3_1 ∧ Aside0 (spec_l10Name.l0 kq a0 x3_1 = some r) ∧ Aside0 (kq ≤ k) ∧ Drawn0 w w')
 case atStart => exact ⟨(0), zr, H', ⟨Nat.le_refl _⟩, by repeat (first | exact Drawn0.refl _ | apply Drawn0.step)⟩
 case round =>
  clear H'
  try clear c1
  obtain ⟨x3_1, rfl, HA, HK1, ⟨m1, rfl⟩⟩ := hrel
  cases gk with
  | zero => exact absurd HA.out (by simp [spec_l10Name.l0])
  | succ k1 =>
   have H := HA.out; clear HA
   simp only [spec_l10Name.l0] at H
   by_cases c2 : x3_1 < (a0.size : Int)
   ·rw [if_pos c2] at H
    have c2b0 := decide_eq_true c2; clear c2
    by_cases c3 : 0 ≤ x3_1
    ·rw [if_pos c3] at H
     have c3b0 := decide_eq_true c3; clear c3
     by_cases c5 : (bt a0 x3_1) < 97
     ·rw [if_pos c5] at H
      have c5b0 := decide_eq_true c5; clear c5; obtain rfl := Option.some.inj H
      have p4 : 0 ≤ (x3_1 : Int) := zd
      have q4 : x3_1 < (a0.size : Int) := zd
      have hx4 := bt_at a0 x3_1; replace p4 := eq_true p4; replace q4 := eq_true q4
      go_wp2
      go_ret
      exact ⟨zr, by repeat (first | exact Drawn0.refl _ | apply Drawn0.step)⟩
     ·rw [if_neg c5] at H
      have c5b0 := decide_eq_false c5; clear c5
      by_cases c7 : (bt a0 x3_1) > 122
      ·rw [if_pos c7] at H
       have c7b0 := decide_eq_true c7; clear c7; obtain rfl := Option.some.inj H
       have p4 : 0 ≤ (x3_1 : Int) := zd
       have q4 : x3_1 < (a0.size : Int) := zd
       have hx4 := bt_at a0 x3_1; replace p4 := eq_true p4; replace q4 := eq_true q4
       have p6 : 0 ≤ (x3_1 : Int) := zd
       have q6 : x3_1 < (a0.size : Int) := zd
       have hx6 := bt_at a0 x3_1; replace p6 := eq_true p6; replace q6 := eq_true q6
       go_wp2
       go_ret
       exact ⟨zr, by repeat (first | exact Drawn0.refl _ | apply Drawn0.step)⟩
      ·rw [if_neg c7] at H
       have c7b0 := decide_eq_false c7; clear c7
       have H' := zm H
       clear H
       have p4 : 0 ≤ (x3_1 : Int) := zd
       have q4 : x3_1 < (a0.size : Int) := zd
       have hx4 := bt_at a0 x3_1; replace p4 := eq_true p4; replace q4 := eq_true q4
       have p6 : 0 ≤ (x3_1 : Int) := zd
       have q6 : x3_1 < (a0.size : Int) := zd
       have hx6 := bt_at a0 x3_1; replace p6 := eq_true p6; replace q6 := eq_true q6
       go_wp2
       go_roundg k1
       case measure => have := HK1.out; omega
       case rel => exact ⟨(wrap64 (x3_1 + 1)), zr, H', ⟨by have := HK1.out; omega⟩, by repeat (first | exact Drawn0.refl _ | apply Drawn0.step)⟩
    ·rw [if_neg c3] at H
     exact absurd H (by simp)
   ·rw [if_neg c2] at H
    have c2b0 := decide_eq_false c2; clear c2; replace H := Option.bind_eq_some_iff.mp H
    obtain ⟨t193, A80, H⟩ := H
    replace H : (some t193) = some r := H
    have A8 := zm A80; clear A80; obtain rfl := Option.some.inj H
    go_wp2_with (first | ((with_reducible refine gate_callee (f := 138) rfl ?_); refine goesL_ (some 22) rfl rfl Tryz.func138 (by kernel_rfl) rfl #[.int .i64 (a0.size : Int), .int .i64 1, .int .i64 6] rfl zq ?_; (with_reducible refine (spec_l01In.calls (a0.size : Int) 1 6 t193 _ A8.out).mono ?_); rintro e w' ⟨rfl, ⟨nd, rfl⟩⟩; refine ⟨_, rfl, ?_⟩))
    go_ret
    exact ⟨zr, by repeat (first | exact Drawn0.refl _ | apply Drawn0.step)⟩
end Go.Proofs.YtglcnnmobkocmaaGreat.Q
