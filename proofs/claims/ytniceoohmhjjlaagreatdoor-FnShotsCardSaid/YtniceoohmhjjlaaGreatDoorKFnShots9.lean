/- What laws.FnShots reaches, part 9: the functions as Lean functions, the proofs that the program's functions answer so, and plain laws about them. -/
import Derived.Test.YtniceoohmhjjlaaGreatDoorKFnShots1
import Derived.Test.YtniceoohmhjjlaaGreatDoorKFnShots2
import Derived.Test.YtniceoohmhjjlaaGreatDoorKFnShots3
import Derived.Test.YtniceoohmhjjlaaGreatDoorKFnShots4
import Derived.Test.YtniceoohmhjjlaaGreatDoorKFnShots6
import Derived.Test.YtniceoohmhjjlaaGreatDoorKFnShots7
import Derived.Test.YtniceoohmhjjlaaGreatDoorKFnShots8
namespace Go.Proofs.YtniceoohmhjjlaaGreatDoor.Q
open Go.RowKit Go.Proofs.YtniceoohmhjjlaaGreatDoor.Ext Go.Proofs.YtniceoohmhjjlaaGreatDoorW.PrintWords Go.Proofs.YtniceoohmhjjlaaGreatDoorW.PrintLast Go.Proofs.YtniceoohmhjjlaaGreatDoorW.PrintMore
attribute [local go_sem] max2_int min2_int max_two min_two max_three min_three max_four min_four   -- for this text's walks alone
open Bool renaming true → tt, false → ff
open Go.Value renaming ownBlock → ob
open Go.Act renaming put → gE
open Go.Lib renaming compact → lB, keeps → mV
open Go.Proofs.YtniceoohmhjjlaaGreatDoorW.PrintLast renaming any_of → gD, goesL_ → gU, one_of → iS, pure_ → gR, take_ → kA, take_ofW → hZ
open Go.Proofs.YtniceoohmhjjlaaGreatDoorW.PrintMore.Kd renaming R_told → gK
open Go.Proofs.YtniceoohmhjjlaaGreatDoorW.PrintWords renaming below_size → eV, below_step → eZ, blk_alloc → fV, blk_below → fB, blk_cell → eY, blk_drew → fU, blk_drewN → gG, blk_far → kE, blk_lt → hO, box_event → fS, gate_callee → fJ, gate_guard → kY
open Go.Proofs.YtniceoohmhjjlaaGreatDoorW.PrintWords.Ev renaming step → kX
open Go.Proofs.YtniceoohmhjjlaaGreatDoorW.PrintWords.Kd renaming C_below → fE, N_alloc → kR, N_base → lA, N_below → jX, N_drew → jR, N_drewN → kS, N_elder' → oG, N_elderB → nG, N_far → kQ, N_lower → jK, N_lt → nV, N_mono → fN, N_old → nM, N_reads' → gZ, N_slice → iR, N_told → iC, R_alloc → fY, R_base → fH, R_below → fI, R_drew → fK, R_drewN → fZ, R_elder' → iZ, R_far → fR, R_lower → fL, R_lt → fO, R_mono → eX, R_new' → fT, R_reads' → fC, R_slice → fA, R_types → fD, S_N → mG, S_bound → kD, fresh' → gF, freshB → iB, int → fG, string → gV
open _root_.Bool renaming and_eq_true → jT, eq_false_iff → hN, false_and → mB, true_and → jJ
open _root_.Int renaming tmod_eq_emod_of_nonneg → jU, toNat_natCast → iX
open _root_.List renaming all_eq_true → jZ, drop_eq_getElem_cons → hP, drop_of_length_le → iV, drop_zero → lO, getD_eq_getElem?_getD → nN, getElem_mem → iI, getElem_range → mZ, length_filter_eq_length_iff → lF, length_map → iA, length_nil → mJ, length_range → kI, length_take → mS, map_cons → jY, mem_cons → nX, mem_map → lG, mem_range → lP, nil_append → nA, nodup_iff_pairwise_ne → kO, pairwise_iff_getElem → jM, range → iT, take_of_length_le → iL, take_succ_eq_append_getElem → hV
open _root_.Nat renaming le_of_eq → jC, le_trans → hU, ne_of_gt → gT, ne_of_lt → gN
open _root_.Option renaming bind_eq_some_iff → eW, bind_some → gH
open _root_.Option.some renaming inj → fF
set_option linter.unusedVariables false
set_option linter.unusedSimpArgs false

set_option linter.unusedVariables false
set_option linter.unusedSimpArgs false
def laws_FnShots.f (k : Nat) (l0 : List Int) (l1 : List Int) : Option (Bool) := if (l0.length : Int) > 1048576 then (some true) else (if (l1.length : Int) > 1048576 then (some true) else ((cU.f k l0).bind fun bt830 => ((dB.f k bt830.1 bt830.2.1 bt830.2.2.1 bt830.2.2.2).bind fun bt842 => ((cU.f k l1).bind fun bt850 => ((dB.f k bt850.1 bt850.2.1 bt850.2.2.1 bt850.2.2.2).bind fun bt862 => ((cL.f k bt842.1 bt842.2.1).bind fun bt870 => ((cL.f k bt862.1 bt862.2.1).bind fun bt874 => ((cR.f k bt842.1 bt842.2.1).bind fun bt878 => ((dI.f l1 0 13).bind fun t882 => ((dF.f t882).bind fun bt883 => (if bt842.2.2 = 0 then (if bt862.2.2 = 0 then (if bt870.2 = 0 then (if bt874.2 = 0 then ((bX.f k bt870.1 bt878.1).bind fun t891 => (if t891 = true then (if (bt870.1.length : Int) = (wrap64 ((bt842.2.1.length : Int) + 1)) then ((cM.f k bt842.1 bt842.2.1 bt862.1 bt862.2.1).bind fun t892 => ((bX.f k bt870.1 bt874.1).bind fun t893 => (if (t892 == t893) = true then ((cM.f k bt842.1 bt842.2.1 bt842.1 bt842.2.1).bind fun t894 => (if t894 = true then (if bt883.2.2 = 0 then ((dI.f l1 0 13).bind fun t895 => (some ((bt883.1.length : Int) == t895))) else (some false)) else (some false))) else (some false)))) else (some false)) else (some false))) else (some false)) else (some false)) else (some false)) else (some false))))))))))))
def laws_FnShots.T9 : Bool × List (List Nat × List Nat) := (true, [([], []), ([0], [0]), ([1], [1]), ([2], [2]), ([3, 2], [2, 3]), ([2, 4], [2, 4]), ([5, 2], [5]), ([6], [6]), ([7, 6], [6, 7]), ([6, 8], [6, 8]), ([9, 6], [9]), ([10], [10]), ([11, 10], [10, 11]), ([10, 12], [10, 12]), ([13, 10], [13]), ([14], [14]), ([14], [14]), ([15, 16, 14, 14], [14, 15, 16]), ([14, 17], [14, 17]), ([18, 17], [18]), ([19], [19]), ([20, 19], [19, 20]), ([19], [19]), ([22, 19], [19, 22]), ([23, 19], [19, 23]), ([24, 19], [19, 24]), ([21, 25, 19], [19, 21, 25]), ([19, 26], [19, 26]), ([27, 19], [27]), ([28], [28]), ([28], [28]), ([29, 30, 28, 28], [28, 29, 30]), ([28], [28]), ([28], [28]), ([32, 33, 31, 28], [28, 32, 33]), ([31, 34, 28], [28, 31, 34]), ([28, 35], [28, 35]), ([36, 34], [36]), ([37], [37]), ([37], [37]), ([38, 39, 37, 37], [37, 38, 39]), ([37, 40], [37, 40]), ([41, 40], [41]), ([42], [42]), ([43, 42], [42, 43]), ([42, 44], [42, 44]), ([45, 42], [45]), ([46], [46]), ([47, 46], [46, 47]), ([48, 46], [46, 48]), ([46], [46]), ([50, 46, 46], [46, 50]), ([49, 51, 46], [46, 49, 51]), ([46, 52], [46, 52]), ([53, 51, 0, 1, 2, 3, 4, 5, 6, 7, 8, 9, 10, 11, 12, 13, 14, 15, 16, 17, 18, 19, 20, 21, 22, 23, 24, 25, 26, 27, 28, 29, 30, 31, 32, 33, 34, 35, 36, 37, 38, 39, 40, 41, 42, 43, 44, 45, 46, 47, 48, 49, 50, 51, 52, 53], [53])])
def laws_FnShots.B9 : List Nat := [0, 1, 3, 7, 15, 31, 63, 127, 255, 511, 1023, 2047, 4095, 8191, 16383, 32767, 32767, 131071, 262143, 524287, 1048575, 2097151, 1048575, 5242879, 13631487, 30408703, 67108863, 134217727, 268435455, 536870911, 536870911, 2147483647, 536870911, 536870911, 17179869183, 34359738367, 68719476735, 137438953471, 274877906943, 274877906943, 1099511627775, 2199023255551, 4398046511103, 8796093022207, 17592186044415, 35184372088831, 70368744177663, 140737488355327, 281474976710655, 562949953421311, 140737488355327, 1266637395197951, 4503599627370495, 9007199254740991, 18014398509481983]
theorem laws_FnShots.tab9 : rtab .any (opsOf Tryz.f3 9) = laws_FnShots.T9 := by kernel_rfl
theorem laws_FnShots.bits9 : waitsOk laws_FnShots.T9.2 laws_FnShots.B9 = true := by kernel_rfl
set_option maxHeartbeats 8000000 in
set_option maxRecDepth 100000 in
theorem laws_FnShots.calls (k : Nat) (A0 : Option Addr) (c0 : Nat) (l0 : List Int) (A1 : Option Addr) (c1 : Nat) (l1 : List Int) (r : Bool) (w : World) (l3 : Kd.C (Kd.int .u8) w A0 l0.length l0) (l4 : l0.length ≤ c0) (l5 : Kd.C (Kd.int .u8) w A1 l1.length l1) (l6 : l1.length ≤ c1) (h : laws_FnShots.f k l0 l1 = some r) (hr_ : Aside0 (r = true)) (HTB_ : TryzTab w := by first | exact HTB_ | exact TryzTab.to HTB_ HB.o | exact TryzTab.to HTB_ (by repeat (first | exact HB.o | apply below_alloc | apply pw_below_drewN | apply below_drew1 | refine below_set ?_ (Aside0.o (by assumption))))) :
    Calls Tryz.prog 3 #[.slice A0 l0.length c0, .slice A1 l1.length c1] w fun e w' => e = .returned (.bool r) ∧ Below w.heap.size w w' := by
 have hu26 := Tryz.underlying26; have n5 := zm l3; have n6 := zm l4; clear l3 l4; have h9 := zm l5; have i0 := zm l6; clear l5 l6; have HB := zm (Below.refl w.heap.size w); have H := h
 unfold laws_FnShots.f at H
 clear h
 by_cases c3 : (l0.length : Int) > 1048576
 ·rw [if_pos c3] at H
  have m4 := decide_eq_true c3
  have m5 : decide (1048576 < l0.length) = true := decide_eq_true (by omega)
  clear c3; obtain rfl := fF H
  go_enter Tryz.func3, Tryz.ntmps3
  go_wp2
  go_ret
  exact ⟨ze, zg_1 HB.o⟩
 rw [if_neg c3] at H; have m4 := decide_eq_false c3
 have m5 : decide (1048576 < l0.length) = false := decide_eq_false (by omega)
 clear c3
 by_cases c4 : (l1.length : Int) > 1048576
 ·rw [if_pos c4] at H
  have m6 := decide_eq_true c4
  have m7 : decide (1048576 < l1.length) = true := decide_eq_true (by omega)
  clear c4; obtain rfl := fF H
  go_enter Tryz.func3, Tryz.ntmps3
  go_wp2
  go_ret
  exact ⟨ze, zg_1 HB.o⟩
 rw [if_neg c4] at H; have m6 := decide_eq_false c4
 have m7 : decide (1048576 < l1.length) = false := decide_eq_false (by omega)
 clear c4; replace H := eW.mp H
 obtain ⟨⟨c2, c5, d9, c6⟩, l7, H⟩ := H
 try dsimp only at H
 have A5 := zm l7; clear l7; replace H := eW.mp H
 obtain ⟨⟨b, d, c7⟩, l8, H⟩ := H
 try dsimp only at H
 have A6 := zm l8; clear l8; replace H := eW.mp H
 obtain ⟨⟨b3, b4, c8, b5⟩, l9, H⟩ := H
 try dsimp only at H
 have A7 := zm l9; clear l9; replace H := eW.mp H
 obtain ⟨⟨q, x, c9⟩, m0, H⟩ := H
 try dsimp only at H
 have A8 := zm m0; clear m0; replace H := eW.mp H
 obtain ⟨⟨L, d0⟩, m1, H⟩ := H
 try dsimp only at H
 have A9 := zm m1; clear m1; replace H := eW.mp H
 obtain ⟨⟨d1, d2⟩, i1, H⟩ := H
 try dsimp only at H
 have n7 := zm i1; clear i1; replace H := eW.mp H
 obtain ⟨⟨e0, m8⟩, i2, H⟩ := H
 try dsimp only at H
 have n8 := zm i2; clear i2; replace H := eW.mp H
 obtain ⟨g1, i3, H⟩ := H
 try dsimp only at H
 have n9 := zm i3; clear i3; replace H := eW.mp H
 obtain ⟨⟨v, D, b6⟩, i4, H⟩ := H
 try dsimp only at H
 have o0 := zm i4; clear i4
 by_cases e1 : c7 = 0
 rotate_left
 ·rw [if_neg e1] at H
  have j6 : (c7 == 0) = false := beq_eq_false_iff_ne.mpr e1
  have j7 : (c7 != 0) = true := bne_iff_ne.mpr e1
  exact absurd hr_.o (by rw [← fF H]; decide)
 rw [if_pos e1] at H
 have j6 : (c7 == 0) = true := beq_iff_eq.mpr e1
 have j7 : (c7 != 0) = false := bne_eq_false_iff_eq.mpr e1
 clear e1
 by_cases e2 : c9 = 0
 rotate_left
 ·rw [if_neg e2] at H
  have j8 : (c9 == 0) = false := beq_eq_false_iff_ne.mpr e2
  have j9 : (c9 != 0) = true := bne_iff_ne.mpr e2
  exact absurd hr_.o (by rw [← fF H]; decide)
 rw [if_pos e2] at H
 have j8 : (c9 == 0) = true := beq_iff_eq.mpr e2
 have j9 : (c9 != 0) = false := bne_eq_false_iff_eq.mpr e2
 clear e2
 by_cases e3 : d0 = 0
 rotate_left
 ·rw [if_neg e3] at H
  have k0 : (d0 == 0) = false := beq_eq_false_iff_ne.mpr e3
  have k1 : (d0 != 0) = true := bne_iff_ne.mpr e3
  exact absurd hr_.o (by rw [← fF H]; decide)
 rw [if_pos e3] at H
 have k0 : (d0 == 0) = true := beq_iff_eq.mpr e3
 have k1 : (d0 != 0) = false := bne_eq_false_iff_eq.mpr e3
 clear e3
 by_cases e4 : d2 = 0
 rotate_left
 ·rw [if_neg e4] at H
  have k2 : (d2 == 0) = false := beq_eq_false_iff_ne.mpr e4
  have k3 : (d2 != 0) = true := bne_iff_ne.mpr e4
  exact absurd hr_.o (by rw [← fF H]; decide)
 rw [if_pos e4] at H
 have k2 : (d2 == 0) = true := beq_iff_eq.mpr e4
 have k3 : (d2 != 0) = false := bne_eq_false_iff_eq.mpr e4
 clear e4; replace H := eW.mp H
 obtain ⟨m9, i5, H⟩ := H
 try dsimp only at H
 have o1 := zm i5; clear i5
 by_cases h2 : m9 = true
 rotate_left
 ·replace h2 := hN.mpr h2
  subst h2
  replace H : (some false) = some r := by rw [if_neg (show ¬ (false = true) by decide)] at H; exact H
  exact absurd hr_.o (by rw [← fF H]; decide)
 subst h2
 replace H : (if (L.length : Int) = (wrap64 ((d.length : Int) + 1)) then ((cM.f k b d q x).bind fun Z => ((bX.f k L d1).bind fun a0 => (if (Z == a0) = true then ((cM.f k b d b d).bind fun g2 => (if g2 = true then (if b6 = 0 then ((dI.f l1 0 13).bind fun e5 => (some ((v.length : Int) == e5))) else (some false)) else (some false))) else (some false)))) else (some false)) = some r := by rw [if_pos rfl] at H; exact H
 by_cases e6 : (L.length : Int) = (wrap64 ((d.length : Int) + 1))
 rotate_left
 ·rw [if_neg e6] at H
  have k4 : ((L.length : Int) == (wrap64 ((d.length : Int) + 1))) = false := beq_eq_false_iff_ne.mpr e6
  have k5 : ((L.length : Int) != (wrap64 ((d.length : Int) + 1))) = true := bne_iff_ne.mpr e6
  exact absurd hr_.o (by rw [← fF H]; decide)
 rw [if_pos e6] at H
 have k4 : ((L.length : Int) == (wrap64 ((d.length : Int) + 1))) = true := beq_iff_eq.mpr e6
 have k5 : ((L.length : Int) != (wrap64 ((d.length : Int) + 1))) = false := bne_eq_false_iff_eq.mpr e6
 clear e6; replace H := eW.mp H
 obtain ⟨Z, i6, H⟩ := H
 try dsimp only at H
 have o2 := zm i6; clear i6; replace H := eW.mp H
 obtain ⟨a0, i7, H⟩ := H
 try dsimp only at H
 have o3 := zm i7; clear i7
 by_cases b7 : (Z == a0) = true
 rotate_left
 ·rw [if_neg b7] at H
  have k6 : (Z == a0) = false := by simpa using b7
  (try (have k7 : decide (Z = a0) = false := by simpa using b7))
  (try (have k8 : (Z == a0) = false := by simpa using b7))
  (try (have o9 : ¬ (Z = a0) := by simpa using b7))
  clear b7
  exact absurd hr_.o (by rw [← fF H]; decide)
 rw [if_pos b7] at H
 have k6 : (Z == a0) = true := b7
 (try (have k7 : decide (Z = a0) = true := by simpa using b7))
 (try (have k8 : (Z == a0) = true := by simpa using b7))
 clear b7; replace H := eW.mp H
 obtain ⟨g2, i8, H⟩ := H
 try dsimp only at H
 have o4 := zm i8; clear i8
 by_cases h3 : g2 = true
 rotate_left
 ·replace h3 := hN.mpr h3
  subst h3
  replace H : (some false) = some r := by rw [if_neg (show ¬ (false = true) by decide)] at H; exact H
  exact absurd hr_.o (by rw [← fF H]; decide)
 subst h3
 replace H : (if b6 = 0 then ((dI.f l1 0 13).bind fun e5 => (some ((v.length : Int) == e5))) else (some false)) = some r := by rw [if_pos rfl] at H; exact H
 by_cases e7 : b6 = 0
 rotate_left
 ·rw [if_neg e7] at H
  have k9 : (b6 == 0) = false := beq_eq_false_iff_ne.mpr e7
  have l2 : (b6 != 0) = true := bne_iff_ne.mpr e7
  exact absurd hr_.o (by rw [← fF H]; decide)
 rw [if_pos e7] at H
 have k9 : (b6 == 0) = true := beq_iff_eq.mpr e7
 have l2 : (b6 != 0) = false := bne_eq_false_iff_eq.mpr e7
 clear e7; replace H := eW.mp H
 obtain ⟨e5, i9, H⟩ := H
 try dsimp only at H
 have o5 := zm i9; clear i9; obtain rfl := fF H
 go_enter Tryz.func3, Tryz.ntmps3
 try go_wp2_with (first | ((with_reducible refine fJ (f := 5) rfl ?_); refine gU (some 27) rfl rfl Tryz.func5 (by kernel_rfl) rfl #[.slice A0 l0.length c0] rfl zq ?_; (with_reducible refine (cU.calls k _ _ l0 c2 c5 d9 c6 _ ?_ ?_ A5.o).mono ?_); exact zC n5.o; exact n6.o; rintro e q5 ⟨g3, g4, q1, g5, rfl, G, M, f1, e8, hb⟩; refine ⟨_, rfl, ?_⟩; refine zG5 (fL (eX (ok' := fun k_ => some k_ ≠ ob g4 ∧ some k_ ≠ ob g5) G (fun _ hk_ => hk_.2)) (eV (zg_1 HB.o))) (fL (eX (ok' := fun k_ => some k_ ≠ ob g3 ∧ some k_ ≠ ob g5) M (fun _ hk_ => hk_.2)) (eV (zg_1 HB.o))) (jK (fN (ok' := fun k_ => some k_ ≠ ob g3 ∧ some k_ ≠ ob g4 ∧ some k_ ≠ ob g5) f1 (fun k_ hk_ => ⟨hk_.2.1, hk_.2.2.1, hk_.2.2.2⟩)) (eV (zg_1 HB.o))) (fL (eX (ok' := fun k_ => some k_ ≠ ob g3 ∧ some k_ ≠ ob g4) e8 (fun _ hk_ => hk_.2)) (eV (zg_1 HB.o))) (eZ (zg_1 HB.o) hb) ?_; clear HB; intro Zr Zs Zx Zt HB; (try clear hb); (try clear hb2); (try clear hk); (try clear hi); (try clear G); (try clear M); (try clear f1); (try clear e8); obtain ⟨f2, f4, rfl⟩ := fA Zr.o; obtain ⟨f5, f6, rfl⟩ := fA Zs.o; obtain ⟨g6, g7, rfl⟩ := iR Zx.o; obtain ⟨f7, f8, rfl⟩ := fA Zt.o) | ((with_reducible refine fJ (f := 4) rfl ?_); refine gU (some 28) rfl rfl Tryz.func4 (by kernel_rfl) rfl #[.agg #[.slice f2 c2.length f4, .slice f5 c5.length f6, .slice g6 d9.length g7, .slice f7 c6.length f8]] rfl zq ?_; (with_reducible refine (dB.calls k _ _ c2 _ _ c5 _ _ d9 _ _ c6 b d c7 _ ?_ ?_ ?_ ?_ ?_ ?_ ?_ ?_ A6.o).mono ?_); exact zC ((fC Zr.o).2.2); exact (fC Zr.o).2.1; exact zC ((fC Zs.o).2.2); exact (fC Zs.o).2.1; exact zC ((gZ Zx.o).2.2); exact (gZ Zx.o).2.1; exact zC ((fC Zt.o).2.2); exact (fC Zt.o).2.1; rintro e q6 ⟨g8, q2, rfl, G, M, hb⟩; refine ⟨_, rfl, ?_⟩; refine zG3 (eX (ok := fun k_ => (((True ∧ some k_ ≠ ob (.slice f2 c2.length f4)) ∧ some k_ ≠ ob (.slice f5 c5.length f6)) ∧ some k_ ≠ ob (.slice f7 c6.length f8))) (ok' := fun k_ => True) (fL (fT (fT (fT G (fO (zg_6 Zr.o))) (fO (zg_6 Zs.o))) (fO (zg_6 Zt.o))) (eV (zg_1 HB.o))) (fun k_ hk => trivial)) (fN (ok := fun k_ => (some k_ ≠ ob g8 ∧ (some k_ ≠ ob (.slice f2 c2.length f4) ∧ (some k_ ≠ ob (.slice f5 c5.length f6) ∧ (some k_ ≠ ob (.slice g6 d9.length g7) ∧ some k_ ≠ ob (.slice f7 c6.length f8)))))) (ok' := fun k_ => some k_ ≠ ob g8) (jK (fN (ok' := fun k_ => some k_ ≠ ob g8 ∧ some k_ ≠ ob (.slice f2 c2.length f4) ∧ some k_ ≠ ob (.slice f5 c5.length f6) ∧ some k_ ≠ ob (.slice g6 d9.length g7) ∧ some k_ ≠ ob (.slice f7 c6.length f8)) (mG (kD M)) (fun k_ hk_ => ⟨hk_.1, (gF (fO (zg_6 Zr.o)) k_ hk_.2.1), (gF (fO (zg_6 Zs.o)) k_ hk_.2.1), (gF (nV (zg_4 Zx.o)) k_ hk_.2.1), (gF (fO (zg_6 Zt.o)) k_ hk_.2.1)⟩)) (eV (zg_1 HB.o))) (fun k_ hk => hk.1)) (eZ (zg_1 HB.o) hb) ?_; clear HB; intro Zb Zc HB; (try clear hb); (try clear hb2); (try clear hk); (try clear hi); (try clear G); (try clear M); (try clear Zr); (try clear Zs); (try clear Zx); (try clear Zt)) | ((with_reducible refine gate_dst (N := 5) rfl ?_); (try (refine kY (by rfl) ?_; dsimp only)); refine fS zo (N := 5) zo (cs := #[.slice none 0 0, .slice none 0 0]) (t := 26) zh ?_; intro c hg o6 hbox hb; refine zG6 (fI (zg_6 Zb.o) hb) (jX (nG (zg_4 Zc.o) c (jC hg.symm)) hb) (eZ (zg_1 HB.o) hb) (hbox) ((by rw [hg]; exact (eV (zg_1 HB.o)) : w.heap.size ≤ c)) ((by rw [hg]; exact (eV (zg_1 HB.o)) : w.heap.size ≤ c)) ?_; clear Zb Zc HB; intro Zb Zc HB Za ZD Zi; clear hb hbox hg; obtain ⟨j, l, rfl⟩ := fA Zb.o; obtain ⟨_, _, _, _⟩ := zb2 Za.o; obtain ⟨s, u, rfl⟩ := iR Zc.o) | ((with_reducible refine gate_store (t := 26) (p := 5) rfl ?_); refine zst (w1 := ((o6.setCell ⟨c, 0, none⟩ (.slice j b.length l)).setCell ⟨c, 1, none⟩ (.slice s d.length u))) rfl rfl rfl zh ?_; intro h4 hw; refine zG4 (by rw [hw]; exact (by (with_reducible repeat (first | apply fY | apply fZ | apply fK)); exact eX (fR (p := ⟨c, 1, none⟩) (fR (p := ⟨c, 0, none⟩) (fD Zb.o Za.o (by decide)) (fun _ hk => hk.2) (.slice j b.length l)) (fun _ hk => hk.2) (.slice s d.length u)) (fun _ hk => trivial)) : Kd.R (fG .i64) 3 h4 w.heap.size (fun _ => True) (.slice j b.length l) b) (by rw [hw]; exact (by (with_reducible repeat (first | apply kR | apply kS | apply jR)); exact fN (kQ (p := ⟨c, 1, none⟩) (kQ (p := ⟨c, 0, none⟩) (fN Zc.o (fun k_ hk => (⟨hk, hk.2⟩ : _ ∧ k_ ≠ c))) (fun _ hk => hk.2) (.slice j b.length l)) (fun _ hk => hk.2) (.slice s d.length u)) (fun _ hk => ⟨hk.1.1, hk.1.2⟩)) : Kd.N k53 53 h4 w.heap.size (fun k_ => some k_ ≠ ob (.slice j b.length l) ∧ k_ ≠ c) (.slice s d.length u) d) (by rw [hw]; exact (zp2 Za.o) : h4.heap[c]? = some (.cells #[.slice j b.length l, .slice s d.length u] 26 (0, 0))) (by rw [hw]; exact (zg_2 HB.o Zi.o) : Below w.heap.size w h4) ?_; clear hw Zb Zc Za HB; intro Zb Zc Za HB) | ((with_reducible refine fJ (f := 5) rfl ?_); refine gU (some 33) rfl rfl Tryz.func5 (by kernel_rfl) rfl #[.slice A1 l1.length c1] rfl zq ?_; (with_reducible refine (cU.calls k _ _ l1 b3 b4 c8 b5 _ ?_ ?_ A7.o).mono ?_); exact zC (fE h9.o HB.o); exact i0.o; rintro e q7 ⟨g9, h0, q3, h1, rfl, G, M, f1, e8, hb⟩; refine ⟨_, rfl, ?_⟩; refine zG8 (eX (gK (gK (gK (Kd.R_old (zg_6 Zb.o) hb) (fH G)) (fH M)) (fH e8)) (fun _ h_ => h_.1)) (fN (iC (iC (iC (iC (nM (zg_4 Zc.o) hb) (fH G)) (fH M)) (lA f1)) (fH e8)) (fun _ h_ => h_.1)) (fL (fT (eX (ok' := fun k_ => some k_ ≠ ob h0 ∧ some k_ ≠ ob h1) G (fun _ hk_ => hk_.2)) (fO (zg_6 Zb.o))) (eV (zg_2 HB.o Zi.o))) (fL (fT (eX (ok' := fun k_ => some k_ ≠ ob g9 ∧ some k_ ≠ ob h1) M (fun _ hk_ => hk_.2)) (fO (zg_6 Zb.o))) (eV (zg_2 HB.o Zi.o))) (jK (fN (ok' := fun k_ => some k_ ≠ ob g9 ∧ some k_ ≠ ob h0 ∧ some k_ ≠ ob h1 ∧ some k_ ≠ ob (.slice j b.length l) ∧ some k_ ≠ ob (.slice s d.length u) ∧ k_ ≠ c) f1 (fun k_ hk_ => ⟨hk_.2.1, hk_.2.2.1, hk_.2.2.2, (gF (fO (zg_6 Zb.o)) k_ hk_.1), (gF (nV (zg_4 Zc.o)) k_ hk_.1), (iB (g := c) (o := .cells #[.slice j b.length l, .slice s d.length u] 26 (0, 0)) (zg_3 Za.o) k_ hk_.1)⟩)) (eV (zg_2 HB.o Zi.o))) (fL (fT (eX (ok' := fun k_ => some k_ ≠ ob g9 ∧ some k_ ≠ ob h0) e8 (fun _ hk_ => hk_.2)) (fO (zg_6 Zb.o))) (eV (zg_2 HB.o Zi.o))) (fB (g := c) (o := .cells #[.slice j b.length l, .slice s d.length u] 26 (0, 0)) (zg_3 Za.o) hb) (eZ (zg_2 HB.o Zi.o) hb) ?_; clear Zb Zc Za HB; intro Zb Zc Zu Zv Zy Zw Za HB; (try clear hb); (try clear hb2); (try clear hk); (try clear hi); (try clear G); (try clear M); (try clear f1); (try clear e8); obtain ⟨d3, d4, rfl⟩ := fA Zu.o; obtain ⟨d5, d6, rfl⟩ := fA Zv.o; obtain ⟨f9, g0, rfl⟩ := iR Zy.o; obtain ⟨d7, d8, rfl⟩ := fA Zw.o) | ((with_reducible refine fJ (f := 4) rfl ?_); refine gU (some 34) rfl rfl Tryz.func4 (by kernel_rfl) rfl #[.agg #[.slice d3 b3.length d4, .slice d5 b4.length d6, .slice f9 c8.length g0, .slice d7 b5.length d8]] rfl zq ?_; (with_reducible refine (dB.calls k _ _ b3 _ _ b4 _ _ c8 _ _ b5 q x c9 _ ?_ ?_ ?_ ?_ ?_ ?_ ?_ ?_ A8.o).mono ?_); exact zC ((fC Zu.o).2.2); exact (fC Zu.o).2.1; exact zC ((fC Zv.o).2.2); exact (fC Zv.o).2.1; exact zC ((gZ Zy.o).2.2); exact (gZ Zy.o).2.1; exact zC ((fC Zw.o).2.2); exact (fC Zw.o).2.1; rintro e q8 ⟨b9, j0, rfl, G, M, hb⟩; refine ⟨_, rfl, ?_⟩; refine zG6 (eX (ok := fun k_ => ((((True ∧ some k_ ≠ ob (.slice d3 b3.length d4)) ∧ some k_ ≠ ob (.slice d5 b4.length d6)) ∧ some k_ ≠ ob (.slice d7 b5.length d8)) ∧ some k_ ≠ ob b9)) (ok' := fun k_ => some k_ ≠ ob b9) (iZ (zg_6 Zb.o) (fH G) hb) (fun k_ hk => hk.2)) (fN (ok := fun k_ => (((((((some k_ ≠ ob (.slice j b.length l) ∧ k_ ≠ c) ∧ some k_ ≠ ob (.slice d3 b3.length d4)) ∧ some k_ ≠ ob (.slice d5 b4.length d6)) ∧ some k_ ≠ ob (.slice f9 c8.length g0)) ∧ some k_ ≠ ob (.slice d7 b5.length d8)) ∧ some k_ ≠ ob b9) ∧ some k_ ≠ ob j0)) (ok' := fun k_ => some k_ ≠ ob (.slice j b.length l) ∧ some k_ ≠ ob b9 ∧ some k_ ≠ ob j0 ∧ k_ ≠ c) (fN (iC (iC (nM (zg_4 Zc.o) hb) (fH G)) (lA (mG M))) (fun _ h_ => h_.1)) (fun k_ hk => ⟨hk.1.1.1.1.1.1.1, hk.1.2, hk.2, hk.1.1.1.1.1.1.2⟩)) (eX (ok := fun k_ => ((((True ∧ some k_ ≠ ob (.slice j b.length l)) ∧ some k_ ≠ ob (.slice d3 b3.length d4)) ∧ some k_ ≠ ob (.slice d5 b4.length d6)) ∧ some k_ ≠ ob (.slice d7 b5.length d8))) (ok' := fun k_ => some k_ ≠ ob (.slice j b.length l)) (fL (fT (fT (fT (fT G (fO (zg_6 Zb.o))) (fO (zg_6 Zu.o))) (fO (zg_6 Zv.o))) (fO (zg_6 Zw.o))) (eV (zg_2 HB.o Zi.o))) (fun k_ hk => hk.1.1.1.2)) (fN (ok := fun k_ => (some k_ ≠ ob b9 ∧ (some k_ ≠ ob (.slice j b.length l) ∧ (some k_ ≠ ob (.slice s d.length u) ∧ (some k_ ≠ ob (.slice d3 b3.length d4) ∧ (some k_ ≠ ob (.slice d5 b4.length d6) ∧ (some k_ ≠ ob (.slice f9 c8.length g0) ∧ (some k_ ≠ ob (.slice d7 b5.length d8) ∧ k_ ≠ c)))))))) (ok' := fun k_ => some k_ ≠ ob b9 ∧ some k_ ≠ ob (.slice j b.length l) ∧ some k_ ≠ ob (.slice s d.length u) ∧ k_ ≠ c) (jK (fN (ok' := fun k_ => some k_ ≠ ob b9 ∧ some k_ ≠ ob (.slice j b.length l) ∧ some k_ ≠ ob (.slice s d.length u) ∧ some k_ ≠ ob (.slice d3 b3.length d4) ∧ some k_ ≠ ob (.slice d5 b4.length d6) ∧ some k_ ≠ ob (.slice f9 c8.length g0) ∧ some k_ ≠ ob (.slice d7 b5.length d8) ∧ k_ ≠ c) (mG (kD M)) (fun k_ hk_ => ⟨hk_.1, (gF (fO (zg_6 Zb.o)) k_ hk_.2.1), (gF (nV (zg_4 Zc.o)) k_ hk_.2.1), (gF (fO (zg_6 Zu.o)) k_ hk_.2.1), (gF (fO (zg_6 Zv.o)) k_ hk_.2.1), (gF (nV (zg_4 Zy.o)) k_ hk_.2.1), (gF (fO (zg_6 Zw.o)) k_ hk_.2.1), (iB (g := c) (o := .cells #[.slice j b.length l, .slice s d.length u] 26 (0, 0)) (zg_3 Za.o) k_ hk_.2.1)⟩)) (eV (zg_2 HB.o Zi.o))) (fun k_ hk => ⟨hk.1, hk.2.1, hk.2.2.1, hk.2.2.2.2.2.2.2⟩)) (fB (g := c) (o := .cells #[.slice j b.length l, .slice s d.length u] 26 (0, 0)) (zg_3 Za.o) hb) (eZ (zg_2 HB.o Zi.o) hb) ?_; clear Zb Zc Za HB; intro Zb Zc Ze Zf Za HB; (try clear hb); (try clear hb2); (try clear hk); (try clear hi); (try clear G); (try clear M); (try clear Zu); (try clear Zv); (try clear Zy); (try clear Zw)) | ((with_reducible refine gate_dst (N := 7) rfl ?_); (try (refine kY (by rfl) ?_; dsimp only)); refine fS zo (N := 7) zo (cs := #[.slice none 0 0, .slice none 0 0]) (t := 26) zh ?_; intro m hg o7 hbox hb; refine zG11 (fI (zg_6 Zb.o) hb) (jX (nG (zg_4 Zc.o) m (jC hg.symm)) hb) (fI (zg_6 Ze.o) hb) (jX (nG (zg_4 Zf.o) m (jC hg.symm)) hb) (fB (g := c) (o := .cells #[.slice j b.length l, .slice s d.length u] 26 (0, 0)) (zg_3 Za.o) hb) (eZ (zg_2 HB.o Zi.o) hb) (hbox) ((by rw [hg]; exact (eV (zg_2 HB.o Zi.o)) : w.heap.size ≤ m)) ((by rw [hg]; exact (eV (zg_2 HB.o Zi.o)) : w.heap.size ≤ m)) ((by rw [hg]; exact gN (hO (g := c) (o := .cells #[.slice j b.length l, .slice s d.length u] 26 (0, 0)) (zg_3 Za.o)) : c ≠ m)) ((by rw [hg]; exact gT (hO (g := c) (o := .cells #[.slice j b.length l, .slice s d.length u] 26 (0, 0)) (zg_3 Za.o)) : m ≠ c)) ?_; clear Zb Zc Ze Zf Za HB; intro Zb Zc Ze Zf Za HB Zd ZE Zl Zo ZA; clear hb hbox hg; obtain ⟨y, z, rfl⟩ := fA Ze.o; have p0 := ZA.o; have p1 := Zo.o; obtain ⟨_, _, _, _⟩ := zb2 Zd.o; obtain ⟨I, J, rfl⟩ := iR Zf.o) | ((with_reducible refine gate_store (t := 26) (p := 7) rfl ?_); refine zst (w1 := ((o7.setCell ⟨m, 0, none⟩ (.slice y q.length z)).setCell ⟨m, 1, none⟩ (.slice I x.length J))) rfl rfl rfl zh ?_; intro e9 hw; refine zG7 (by rw [hw]; exact (by (with_reducible repeat (first | apply fY | apply fZ | apply fK)); exact eX (fR (p := ⟨m, 1, none⟩) (fR (p := ⟨m, 0, none⟩) (fD Zb.o Zd.o (by decide)) (fun _ hk => hk.2) (.slice y q.length z)) (fun _ hk => hk.2) (.slice I x.length J)) (fun _ hk => hk.1)) : Kd.R (fG .i64) 3 e9 w.heap.size (fun k_ => some k_ ≠ ob (.slice y q.length z)) (.slice j b.length l) b) (by rw [hw]; exact (by (with_reducible repeat (first | apply kR | apply kS | apply jR)); exact fN (kQ (p := ⟨m, 1, none⟩) (kQ (p := ⟨m, 0, none⟩) (fN Zc.o (fun k_ hk => (⟨hk, hk.2⟩ : _ ∧ k_ ≠ m))) (fun _ hk => hk.2) (.slice y q.length z)) (fun _ hk => hk.2) (.slice I x.length J)) (fun _ hk => ⟨hk.1.1.1, ⟨hk.1.1.2.1, ⟨hk.1.1.2.2.1, ⟨hk.1.1.2.2.2, hk.1.2⟩⟩⟩⟩)) : Kd.N k53 53 e9 w.heap.size (fun k_ => some k_ ≠ ob (.slice j b.length l) ∧ some k_ ≠ ob (.slice y q.length z) ∧ some k_ ≠ ob (.slice I x.length J) ∧ k_ ≠ c ∧ k_ ≠ m) (.slice s d.length u) d) (by rw [hw]; exact (by (with_reducible repeat (first | apply fY | apply fZ | apply fK)); exact eX (fR (p := ⟨m, 1, none⟩) (fR (p := ⟨m, 0, none⟩) (fD Ze.o Zd.o (by decide)) (fun _ hk => hk.2) (.slice y q.length z)) (fun _ hk => hk.2) (.slice I x.length J)) (fun _ hk => hk.1)) : Kd.R (fG .i64) 3 e9 w.heap.size (fun k_ => some k_ ≠ ob (.slice j b.length l)) (.slice y q.length z) q) (by rw [hw]; exact (by (with_reducible repeat (first | apply kR | apply kS | apply jR)); exact fN (kQ (p := ⟨m, 1, none⟩) (kQ (p := ⟨m, 0, none⟩) (fN Zf.o (fun k_ hk => (⟨hk, hk.2⟩ : _ ∧ k_ ≠ m))) (fun _ hk => hk.2) (.slice y q.length z)) (fun _ hk => hk.2) (.slice I x.length J)) (fun _ hk => ⟨hk.1.1.2.1, ⟨hk.1.1.2.2.1, ⟨hk.1.1.1, ⟨hk.1.1.2.2.2, hk.1.2⟩⟩⟩⟩)) : Kd.N k53 53 e9 w.heap.size (fun k_ => some k_ ≠ ob (.slice j b.length l) ∧ some k_ ≠ ob (.slice s d.length u) ∧ some k_ ≠ ob (.slice y q.length z) ∧ k_ ≠ c ∧ k_ ≠ m) (.slice I x.length J) x) (by rw [hw]; exact (zfr Za.o Zo.o) : e9.heap[c]? = some (.cells #[.slice j b.length l, .slice s d.length u] 26 (0, 0))) (by rw [hw]; exact (zp2 Zd.o) : e9.heap[m]? = some (.cells #[.slice y q.length z, .slice I x.length J] 26 (0, 0))) (by rw [hw]; exact (zg_5 HB.o Zi.o Zl.o) : Below w.heap.size w e9) ?_; clear hw Zb Zc Ze Zf Za Zd HB; intro Zb Zc Ze Zf Za Zd HB; obtain ⟨_, _, _, _⟩ := zb2 Za.o) | ((with_reducible refine fJ (f := 6) rfl ?_); refine gU (some 39) rfl rfl Tryz.func6 (by kernel_rfl) rfl #[.agg #[.slice j b.length l, .slice s d.length u]] rfl zq ?_; (with_reducible refine (cL.calls k _ _ b _ _ d L d0 _ ?_ ?_ ?_ ?_ A9.o).mono ?_); exact zC ((fC Zb.o).2.2); exact (fC Zb.o).2.1; exact zC ((gZ Zc.o).2.2); exact (gZ Zc.o).2.1; rintro e q9 ⟨O, rfl, G, hb⟩; refine ⟨_, rfl, ?_⟩; refine zG8 (fI (zg_6 Zb.o) hb) (oG (zg_4 Zc.o) (fH G) hb) (fI (zg_6 Ze.o) hb) (oG (zg_4 Zf.o) (fH G) hb) (fL G (eV (zg_5 HB.o Zi.o Zl.o))) (fB (g := c) (o := .cells #[.slice j b.length l, .slice s d.length u] 26 (0, 0)) (zg_3 Za.o) hb) (fB (g := m) (o := .cells #[.slice y q.length z, .slice I x.length J] 26 (0, 0)) (zg_3 Zd.o) hb) (eZ (zg_5 HB.o Zi.o Zl.o) hb) ?_; clear Zb Zc Ze Zf Za Zd HB; intro Zb Zc Ze Zf Zg Za Zd HB; (try clear hb); (try clear hb2); (try clear hk); (try clear hi); (try clear G); obtain ⟨_, _, _, _⟩ := zb2 Zd.o) | ((with_reducible refine fJ (f := 6) rfl ?_); refine gU (some 44) rfl rfl Tryz.func6 (by kernel_rfl) rfl #[.agg #[.slice y q.length z, .slice I x.length J]] rfl zq ?_; (with_reducible refine (cL.calls k _ _ q _ _ x d1 d2 _ ?_ ?_ ?_ ?_ n7.o).mono ?_); exact zC ((fC Ze.o).2.2); exact (fC Ze.o).2.1; exact zC ((gZ Zf.o).2.2); exact (gZ Zf.o).2.1; rintro e r0 ⟨T, rfl, G, hb⟩; refine ⟨_, rfl, ?_⟩; refine zG9 (fI (zg_6 Zb.o) hb) (oG (zg_4 Zc.o) (fH G) hb) (fI (zg_6 Ze.o) hb) (oG (zg_4 Zf.o) (fH G) hb) (iZ (zg_6 Zg.o) (fH G) hb) (fL (fT G (fO (zg_6 Zg.o))) (eV (zg_5 HB.o Zi.o Zl.o))) (fB (g := c) (o := .cells #[.slice j b.length l, .slice s d.length u] 26 (0, 0)) (zg_3 Za.o) hb) (fB (g := m) (o := .cells #[.slice y q.length z, .slice I x.length J] 26 (0, 0)) (zg_3 Zd.o) hb) (eZ (zg_5 HB.o Zi.o Zl.o) hb) ?_; clear Zb Zc Ze Zf Zg Za Zd HB; intro Zb Zc Ze Zf Zg Zj Za Zd HB; (try clear hb); (try clear hb2); (try clear hk); (try clear hi); (try clear G); obtain ⟨_, _, _, _⟩ := zb2 Za.o) | ((with_reducible refine fJ (f := 7) rfl ?_); refine gU (some 49) rfl rfl Tryz.func7 (by kernel_rfl) rfl #[.agg #[.slice j b.length l, .slice s d.length u]] rfl zq ?_; (with_reducible refine (cR.calls k _ _ b _ _ d e0 m8 _ ?_ ?_ ?_ ?_ n8.o).mono ?_); exact zC ((fC Zb.o).2.2); exact (fC Zb.o).2.1; exact zC ((gZ Zc.o).2.2); exact (gZ Zc.o).2.1; rintro e a2 ⟨U, rfl, G, hb⟩; refine ⟨_, rfl, ?_⟩; refine zG10 (fI (zg_6 Zb.o) hb) (oG (zg_4 Zc.o) (fH G) hb) (fI (zg_6 Ze.o) hb) (oG (zg_4 Zf.o) (fH G) hb) (iZ (zg_6 Zg.o) (fH G) hb) (iZ (zg_6 Zj.o) (fH G) hb) (fL (fT (fT G (fO (zg_6 Zg.o))) (fO (zg_6 Zj.o))) (eV (zg_5 HB.o Zi.o Zl.o))) (fB (g := c) (o := .cells #[.slice j b.length l, .slice s d.length u] 26 (0, 0)) (zg_3 Za.o) hb) (fB (g := m) (o := .cells #[.slice y q.length z, .slice I x.length J] 26 (0, 0)) (zg_3 Zd.o) hb) (eZ (zg_5 HB.o Zi.o Zl.o) hb) ?_; clear Zb Zc Ze Zf Zg Zj Za Zd HB; intro Zb Zc Ze Zf Zg Zj Zk Za Zd HB; (try clear hb); (try clear hb2); (try clear hk); (try clear hi); (try clear G)) | ((with_reducible refine fJ (f := 9) rfl ?_); refine gU (some 54) rfl rfl Tryz.func9 (by kernel_rfl) rfl #[.slice A1 l1.length c1, .int .i64 0, .int .i64 13] rfl zq ?_; (with_reducible refine (dI.calls _ _ l1 0 13 g1 _ ?_ ?_ n9.o).mono ?_); exact zC (fE h9.o HB.o); exact i0.o; rintro e w' ⟨rfl, ⟨nd, rfl⟩⟩; refine ⟨_, rfl, ?_⟩; (try (rw [drewN_self a2]; generalize hq_ : World.drewN a2 _ = a2; refine zG10 (by rw [← hq_]; exact (zg_6 Zb.o) : Kd.R (fG .i64) 3 a2 w.heap.size (fun k_ => some k_ ≠ ob (.slice y q.length z)) (.slice j b.length l) b) (by rw [← hq_]; exact (zg_4 Zc.o) : Kd.N k53 53 a2 w.heap.size (fun k_ => ((((some k_ ≠ ob (.slice j b.length l) ∧ (some k_ ≠ ob (.slice y q.length z) ∧ (some k_ ≠ ob (.slice I x.length J) ∧ (k_ ≠ c ∧ k_ ≠ m)))) ∧ some k_ ≠ ob O) ∧ some k_ ≠ ob T) ∧ some k_ ≠ ob U)) (.slice s d.length u) d) (by rw [← hq_]; exact (zg_6 Ze.o) : Kd.R (fG .i64) 3 a2 w.heap.size (fun k_ => some k_ ≠ ob (.slice j b.length l)) (.slice y q.length z) q) (by rw [← hq_]; exact (zg_4 Zf.o) : Kd.N k53 53 a2 w.heap.size (fun k_ => ((((some k_ ≠ ob (.slice j b.length l) ∧ (some k_ ≠ ob (.slice s d.length u) ∧ (some k_ ≠ ob (.slice y q.length z) ∧ (k_ ≠ c ∧ k_ ≠ m)))) ∧ some k_ ≠ ob O) ∧ some k_ ≠ ob T) ∧ some k_ ≠ ob U)) (.slice I x.length J) x) (by rw [← hq_]; exact (zg_6 Zg.o) : Kd.R gV 9 a2 w.heap.size (fun k_ => ((True ∧ some k_ ≠ ob T) ∧ some k_ ≠ ob U)) O L) (by rw [← hq_]; exact (zg_6 Zj.o) : Kd.R gV 9 a2 w.heap.size (fun k_ => ((True ∧ some k_ ≠ ob O) ∧ some k_ ≠ ob U)) T d1) (by rw [← hq_]; exact (zg_6 Zk.o) : Kd.R gV 9 a2 w.heap.size (fun k_ => ((True ∧ some k_ ≠ ob O) ∧ some k_ ≠ ob T)) U e0) (by rw [← hq_]; exact (zg_3 Za.o) : a2.heap[c]? = some (.cells #[.slice j b.length l, .slice s d.length u] 26 (0, 0))) (by rw [← hq_]; exact (zg_3 Zd.o) : a2.heap[m]? = some (.cells #[.slice y q.length z, .slice I x.length J] 26 (0, 0))) (by rw [← hq_]; exact (zg_5 HB.o Zi.o Zl.o) : Below w.heap.size w a2) ?_; clear Zb Zc Ze Zf Zg Zj Zk Za Zd HB hq_; intro Zb Zc Ze Zf Zg Zj Zk Za Zd HB))) | ((with_reducible refine fJ (f := 8) rfl ?_); refine gU (some 55) rfl rfl Tryz.func8 (by kernel_rfl) rfl #[.int .i64 g1] rfl zq ?_; (with_reducible refine (dF.calls g1 v D b6 _ o0.o).mono ?_); rintro e r1 ⟨n0, q4, rfl, G, M, hb⟩; refine ⟨_, rfl, ?_⟩; refine zG12 (iZ (zg_6 Zb.o) (fH G) hb) (fN (iC (iC (nM (zg_4 Zc.o) hb) (fH G)) (lA (mG M))) (fun _ h_ => h_.1)) (iZ (zg_6 Ze.o) (fH G) hb) (fN (iC (iC (nM (zg_4 Zf.o) hb) (fH G)) (lA (mG M))) (fun _ h_ => h_.1)) (fI (zg_6 Zg.o) hb) (fI (zg_6 Zj.o) hb) (fI (zg_6 Zk.o) hb) (fL (fT (fT G (fO (zg_6 Zb.o))) (fO (zg_6 Ze.o))) (eV (zg_5 HB.o Zi.o Zl.o))) (jK (fN (ok' := fun k_ => some k_ ≠ ob n0 ∧ some k_ ≠ ob (.slice j b.length l) ∧ some k_ ≠ ob (.slice s d.length u) ∧ some k_ ≠ ob (.slice y q.length z) ∧ some k_ ≠ ob (.slice I x.length J) ∧ some k_ ≠ ob O ∧ some k_ ≠ ob T ∧ some k_ ≠ ob U ∧ k_ ≠ c ∧ k_ ≠ m) (mG (kD M)) (fun k_ hk_ => ⟨hk_.1, (gF (fO (zg_6 Zb.o)) k_ hk_.2.1), (gF (nV (zg_4 Zc.o)) k_ hk_.2.1), (gF (fO (zg_6 Ze.o)) k_ hk_.2.1), (gF (nV (zg_4 Zf.o)) k_ hk_.2.1), (gF (fO (zg_6 Zg.o)) k_ hk_.2.1), (gF (fO (zg_6 Zj.o)) k_ hk_.2.1), (gF (fO (zg_6 Zk.o)) k_ hk_.2.1), (iB (g := c) (o := .cells #[.slice j b.length l, .slice s d.length u] 26 (0, 0)) (zg_3 Za.o) k_ hk_.2.1), (iB (g := m) (o := .cells #[.slice y q.length z, .slice I x.length J] 26 (0, 0)) (zg_3 Zd.o) k_ hk_.2.1)⟩)) (eV (zg_5 HB.o Zi.o Zl.o))) (fB (g := c) (o := .cells #[.slice j b.length l, .slice s d.length u] 26 (0, 0)) (zg_3 Za.o) hb) (fB (g := m) (o := .cells #[.slice y q.length z, .slice I x.length J] 26 (0, 0)) (zg_3 Zd.o) hb) (eZ (zg_5 HB.o Zi.o Zl.o) hb) ?_; clear Zb Zc Ze Zf Zg Zj Zk Za Zd HB; intro Zb Zc Ze Zf Zg Zj Zk Zm Zn Za Zd HB; (try clear hb); (try clear hb2); (try clear hk); (try clear hi); (try clear G); (try clear M)) | ((with_reducible refine gate_dst (N := 15) rfl ?_); (try (refine kY (by rfl) ?_; dsimp only)); refine fS zo (N := 15) zo (cs := #[.slice none 0 0, .slice none 0 0]) (t := 26) zh ?_; intro a hg a1 hbox hb; refine zG19 (fI (zg_6 Zb.o) hb) (jX (nG (zg_4 Zc.o) a (jC hg.symm)) hb) (fI (zg_6 Ze.o) hb) (jX (nG (zg_4 Zf.o) a (jC hg.symm)) hb) (fI (zg_6 Zg.o) hb) (fI (zg_6 Zj.o) hb) (fI (zg_6 Zk.o) hb) (fI (zg_6 Zm.o) hb) (jX (nG (zg_4 Zn.o) a (jC hg.symm)) hb) (fB (g := c) (o := .cells #[.slice j b.length l, .slice s d.length u] 26 (0, 0)) (zg_3 Za.o) hb) (fB (g := m) (o := .cells #[.slice y q.length z, .slice I x.length J] 26 (0, 0)) (zg_3 Zd.o) hb) (eZ (zg_5 HB.o Zi.o Zl.o) hb) (hbox) ((by rw [hg]; exact (eV (zg_5 HB.o Zi.o Zl.o)) : w.heap.size ≤ a)) ((by rw [hg]; exact (eV (zg_5 HB.o Zi.o Zl.o)) : w.heap.size ≤ a)) ((by rw [hg]; exact gN (hO (g := c) (o := .cells #[.slice j b.length l, .slice s d.length u] 26 (0, 0)) (zg_3 Za.o)) : c ≠ a)) ((by rw [hg]; exact gT (hO (g := c) (o := .cells #[.slice j b.length l, .slice s d.length u] 26 (0, 0)) (zg_3 Za.o)) : a ≠ c)) ((by rw [hg]; exact gN (hO (g := m) (o := .cells #[.slice y q.length z, .slice I x.length J] 26 (0, 0)) (zg_3 Zd.o)) : m ≠ a)) ((by rw [hg]; exact gT (hO (g := m) (o := .cells #[.slice y q.length z, .slice I x.length J] 26 (0, 0)) (zg_3 Zd.o)) : a ≠ m)) ?_; clear Zb Zc Ze Zf Zg Zj Zk Zm Zn Za Zd HB; intro Zb Zc Ze Zf Zg Zj Zk Zm Zn Za Zd HB Zh ZF Zz Zp ZB Zq ZC; clear hb hbox hg; obtain ⟨A, B, rfl⟩ := fA Zm.o; have p2 := ZB.o; have p3 := Zp.o; have p4 := ZC.o; have p5 := Zq.o; obtain ⟨_, _, _, _⟩ := zb2 Zh.o; obtain ⟨E, F, rfl⟩ := iR Zn.o))
 have a3 : Aside0 (Kd.R (fG .i64) 3 ((a1.setCell ⟨a, 0, none⟩ (.slice A v.length B)).setCell ⟨a, 1, none⟩ (.slice E D.length F)) w.heap.size (fun k_ => some k_ ≠ ob (.slice y q.length z) ∧ some k_ ≠ ob (.slice A v.length B)) (.slice j b.length l) b) := ⟨by (with_reducible repeat (first | apply fY | apply fZ | apply fK)); exact eX (fR (p := ⟨a, 1, none⟩) (fR (p := ⟨a, 0, none⟩) (fD Zb.o Zh.o (by decide)) (fun _ hk => hk.2) (.slice A v.length B)) (fun _ hk => hk.2) (.slice E D.length F)) (fun _ hk => ⟨hk.1.1, hk.1.2⟩)⟩
 have a4 : Aside0 (Kd.N k53 53 ((a1.setCell ⟨a, 0, none⟩ (.slice A v.length B)).setCell ⟨a, 1, none⟩ (.slice E D.length F)) w.heap.size (fun k_ => some k_ ≠ ob (.slice j b.length l) ∧ some k_ ≠ ob (.slice y q.length z) ∧ some k_ ≠ ob (.slice I x.length J) ∧ some k_ ≠ ob O ∧ some k_ ≠ ob T ∧ some k_ ≠ ob U ∧ some k_ ≠ ob (.slice A v.length B) ∧ some k_ ≠ ob (.slice E D.length F) ∧ k_ ≠ c ∧ k_ ≠ m ∧ k_ ≠ a) (.slice s d.length u) d) := ⟨by (with_reducible repeat (first | apply kR | apply kS | apply jR)); exact fN (kQ (p := ⟨a, 1, none⟩) (kQ (p := ⟨a, 0, none⟩) (fN Zc.o (fun k_ hk => (⟨hk, hk.2⟩ : _ ∧ k_ ≠ a))) (fun _ hk => hk.2) (.slice A v.length B)) (fun _ hk => hk.2) (.slice E D.length F)) (fun _ hk => ⟨hk.1.1.1.1.1.1.1.1, ⟨hk.1.1.1.1.1.1.1.2.1, ⟨hk.1.1.1.1.1.1.1.2.2.1, ⟨hk.1.1.1.1.1.1.2, ⟨hk.1.1.1.1.1.2, ⟨hk.1.1.1.1.2, ⟨hk.1.1.1.2, ⟨hk.1.1.2, ⟨hk.1.1.1.1.1.1.1.2.2.2.1, ⟨hk.1.1.1.1.1.1.1.2.2.2.2, hk.1.2⟩⟩⟩⟩⟩⟩⟩⟩⟩⟩)⟩
 have a5 : Aside0 (Kd.R (fG .i64) 3 ((a1.setCell ⟨a, 0, none⟩ (.slice A v.length B)).setCell ⟨a, 1, none⟩ (.slice E D.length F)) w.heap.size (fun k_ => some k_ ≠ ob (.slice j b.length l) ∧ some k_ ≠ ob (.slice A v.length B)) (.slice y q.length z) q) := ⟨by (with_reducible repeat (first | apply fY | apply fZ | apply fK)); exact eX (fR (p := ⟨a, 1, none⟩) (fR (p := ⟨a, 0, none⟩) (fD Ze.o Zh.o (by decide)) (fun _ hk => hk.2) (.slice A v.length B)) (fun _ hk => hk.2) (.slice E D.length F)) (fun _ hk => ⟨hk.1.1, hk.1.2⟩)⟩
 have a6 : Aside0 (Kd.N k53 53 ((a1.setCell ⟨a, 0, none⟩ (.slice A v.length B)).setCell ⟨a, 1, none⟩ (.slice E D.length F)) w.heap.size (fun k_ => some k_ ≠ ob (.slice j b.length l) ∧ some k_ ≠ ob (.slice s d.length u) ∧ some k_ ≠ ob (.slice y q.length z) ∧ some k_ ≠ ob O ∧ some k_ ≠ ob T ∧ some k_ ≠ ob U ∧ some k_ ≠ ob (.slice A v.length B) ∧ some k_ ≠ ob (.slice E D.length F) ∧ k_ ≠ c ∧ k_ ≠ m ∧ k_ ≠ a) (.slice I x.length J) x) := ⟨by (with_reducible repeat (first | apply kR | apply kS | apply jR)); exact fN (kQ (p := ⟨a, 1, none⟩) (kQ (p := ⟨a, 0, none⟩) (fN Zf.o (fun k_ hk => (⟨hk, hk.2⟩ : _ ∧ k_ ≠ a))) (fun _ hk => hk.2) (.slice A v.length B)) (fun _ hk => hk.2) (.slice E D.length F)) (fun _ hk => ⟨hk.1.1.1.1.1.1.1.1, ⟨hk.1.1.1.1.1.1.1.2.1, ⟨hk.1.1.1.1.1.1.1.2.2.1, ⟨hk.1.1.1.1.1.1.2, ⟨hk.1.1.1.1.1.2, ⟨hk.1.1.1.1.2, ⟨hk.1.1.1.2, ⟨hk.1.1.2, ⟨hk.1.1.1.1.1.1.1.2.2.2.1, ⟨hk.1.1.1.1.1.1.1.2.2.2.2, hk.1.2⟩⟩⟩⟩⟩⟩⟩⟩⟩⟩)⟩
 have a7 : Aside0 (Kd.R gV 9 ((a1.setCell ⟨a, 0, none⟩ (.slice A v.length B)).setCell ⟨a, 1, none⟩ (.slice E D.length F)) w.heap.size (fun k_ => some k_ ≠ ob T ∧ some k_ ≠ ob U) O L) := ⟨by (with_reducible repeat (first | apply fY | apply fZ | apply fK)); exact eX (fR (p := ⟨a, 1, none⟩) (fR (p := ⟨a, 0, none⟩) (fD Zg.o Zh.o (by decide)) (fun _ hk => hk.2) (.slice A v.length B)) (fun _ hk => hk.2) (.slice E D.length F)) (fun _ hk => ⟨hk.1.1.2, hk.1.2⟩)⟩
 have a8 : Aside0 (Kd.R gV 9 ((a1.setCell ⟨a, 0, none⟩ (.slice A v.length B)).setCell ⟨a, 1, none⟩ (.slice E D.length F)) w.heap.size (fun k_ => some k_ ≠ ob O ∧ some k_ ≠ ob U) T d1) := ⟨by (with_reducible repeat (first | apply fY | apply fZ | apply fK)); exact eX (fR (p := ⟨a, 1, none⟩) (fR (p := ⟨a, 0, none⟩) (fD Zj.o Zh.o (by decide)) (fun _ hk => hk.2) (.slice A v.length B)) (fun _ hk => hk.2) (.slice E D.length F)) (fun _ hk => ⟨hk.1.1.2, hk.1.2⟩)⟩
 have a9 : Aside0 (Kd.R gV 9 ((a1.setCell ⟨a, 0, none⟩ (.slice A v.length B)).setCell ⟨a, 1, none⟩ (.slice E D.length F)) w.heap.size (fun k_ => some k_ ≠ ob O ∧ some k_ ≠ ob T) U e0) := ⟨by (with_reducible repeat (first | apply fY | apply fZ | apply fK)); exact eX (fR (p := ⟨a, 1, none⟩) (fR (p := ⟨a, 0, none⟩) (fD Zk.o Zh.o (by decide)) (fun _ hk => hk.2) (.slice A v.length B)) (fun _ hk => hk.2) (.slice E D.length F)) (fun _ hk => ⟨hk.1.1.2, hk.1.2⟩)⟩
 have b0 : Aside0 (Kd.R (fG .i64) 3 ((a1.setCell ⟨a, 0, none⟩ (.slice A v.length B)).setCell ⟨a, 1, none⟩ (.slice E D.length F)) w.heap.size (fun k_ => some k_ ≠ ob (.slice j b.length l) ∧ some k_ ≠ ob (.slice y q.length z)) (.slice A v.length B) v) := ⟨by (with_reducible repeat (first | apply fY | apply fZ | apply fK)); exact eX (fR (p := ⟨a, 1, none⟩) (fR (p := ⟨a, 0, none⟩) (fD Zm.o Zh.o (by decide)) (fun _ hk => hk.2) (.slice A v.length B)) (fun _ hk => hk.2) (.slice E D.length F)) (fun _ hk => ⟨hk.1.1.2, hk.1.2⟩)⟩
 have b1 : Aside0 (Kd.N k53 53 ((a1.setCell ⟨a, 0, none⟩ (.slice A v.length B)).setCell ⟨a, 1, none⟩ (.slice E D.length F)) w.heap.size (fun k_ => some k_ ≠ ob (.slice j b.length l) ∧ some k_ ≠ ob (.slice s d.length u) ∧ some k_ ≠ ob (.slice y q.length z) ∧ some k_ ≠ ob (.slice I x.length J) ∧ some k_ ≠ ob O ∧ some k_ ≠ ob T ∧ some k_ ≠ ob U ∧ some k_ ≠ ob (.slice A v.length B) ∧ k_ ≠ c ∧ k_ ≠ m ∧ k_ ≠ a) (.slice E D.length F) D) := ⟨by (with_reducible repeat (first | apply kR | apply kS | apply jR)); exact fN (kQ (p := ⟨a, 1, none⟩) (kQ (p := ⟨a, 0, none⟩) (fN Zn.o (fun k_ hk => (⟨hk, hk.2⟩ : _ ∧ k_ ≠ a))) (fun _ hk => hk.2) (.slice A v.length B)) (fun _ hk => hk.2) (.slice E D.length F)) (fun _ hk => ⟨hk.1.1.2.1, ⟨hk.1.1.2.2.1, ⟨hk.1.1.2.2.2.1, ⟨hk.1.1.2.2.2.2.1, ⟨hk.1.1.2.2.2.2.2.1, ⟨hk.1.1.2.2.2.2.2.2.1, ⟨hk.1.1.2.2.2.2.2.2.2.1, ⟨hk.1.1.1, ⟨hk.1.1.2.2.2.2.2.2.2.2.1, ⟨hk.1.1.2.2.2.2.2.2.2.2.2, hk.1.2⟩⟩⟩⟩⟩⟩⟩⟩⟩⟩)⟩
 have b2 : Aside0 (((a1.setCell ⟨a, 0, none⟩ (.slice A v.length B)).setCell ⟨a, 1, none⟩ (.slice E D.length F)).heap[c]? = some (.cells #[.slice j b.length l, .slice s d.length u] 26 (0, 0))) := ⟨by (with_reducible repeat (first | refine gG ?_ _ | refine fU ?_ | refine fV ?_ _)); refine kE ?_ Zp.o _; (with_reducible repeat (first | refine gG ?_ _ | refine fU ?_ | refine fV ?_ _)); refine kE ?_ Zp.o _; (with_reducible repeat (first | refine gG ?_ _ | refine fU ?_ | refine fV ?_ _)); exact Za.o⟩
 have V : Aside0 (((a1.setCell ⟨a, 0, none⟩ (.slice A v.length B)).setCell ⟨a, 1, none⟩ (.slice E D.length F)).heap[m]? = some (.cells #[.slice y q.length z, .slice I x.length J] 26 (0, 0))) := ⟨by (with_reducible repeat (first | refine gG ?_ _ | refine fU ?_ | refine fV ?_ _)); refine kE ?_ Zq.o _; (with_reducible repeat (first | refine gG ?_ _ | refine fU ?_ | refine fV ?_ _)); refine kE ?_ Zq.o _; (with_reducible repeat (first | refine gG ?_ _ | refine fU ?_ | refine fV ?_ _)); exact Zd.o⟩
 have X : Aside0 (((a1.setCell ⟨a, 0, none⟩ (.slice A v.length B)).setCell ⟨a, 1, none⟩ (.slice E D.length F)).heap[a]? = some (.cells #[.slice A v.length B, .slice E D.length F] 26 (0, 0))) := ⟨by (with_reducible repeat (first | refine gG ?_ _ | refine fU ?_ | refine fV ?_ _)); refine blk_put (cs := #[.slice A v.length B, .slice none 0 0]) ?_ 1 _ rfl; (with_reducible repeat (first | refine gG ?_ _ | refine fU ?_ | refine fV ?_ _)); refine blk_put (cs := #[.slice none 0 0, .slice none 0 0]) ?_ 0 _ rfl; (with_reducible repeat (first | refine gG ?_ _ | refine fU ?_ | refine fV ?_ _)); exact Zh.o⟩
 have Y : Aside0 (Below w.heap.size w ((a1.setCell ⟨a, 0, none⟩ (.slice A v.length B)).setCell ⟨a, 1, none⟩ (.slice E D.length F))) := ⟨zg_8 HB.o Zi.o Zl.o Zz.o⟩
 (try clear Zb)
 (try clear Zc)
 (try clear Ze)
 (try clear Zf)
 (try clear Zg)
 (try clear Zj)
 (try clear Zk)
 (try clear Zm)
 (try clear Zn)
 (try clear Za)
 (try clear Zd)
 (try clear Zh)
 (try clear HB)
 generalize ((a1.setCell ⟨a, 0, none⟩ (.slice A v.length B)).setCell ⟨a, 1, none⟩ (.slice E D.length F)) = o8 at a3 a4 a5 a6 a7 a8 a9 b0 b1 b2 V X Y ⊢
 have Zb := a3; have Zc := a4; have Ze := a5; have Zf := a6; have Zg := a7; have Zj := a8; have Zk := a9; have Zm := b0; have Zn := b1; have Za := b2; have Zd := V; have Zh := X; have HB := Y; clear a3 a4 a5 a6 a7 a8 a9 b0 b1 b2 V X Y; have a3 := zm (fK Zb.o); have a4 := zm (jR Zc.o); have a5 := zm (fK Ze.o); have a6 := zm (jR Zf.o); have a7 := zm (fK Zg.o); have a8 := zm (fK Zj.o); have a9 := zm (fK Zk.o); have b0 := zm (fK Zm.o); have b1 := zm (jR Zn.o); have b2 := zm (fU Za.o); have V := zm (fU Zd.o); have X := zm (fU Zh.o); have Y := zm (below_drew1 HB.o); clear Zb; clear Zc; clear Ze; clear Zf; clear Zg; clear Zj; clear Zk; clear Zm; clear Zn; clear Za; clear Zd; clear Zh; clear HB; have Zb := a3; have Zc := a4; have Ze := a5; have Zf := a6; have Zg := a7; have Zj := a8; have Zk := a9; have Zm := b0; have Zn := b1; have Za := b2; have Zd := V; have Zh := X; have HB := Y; clear a3 a4 a5 a6 a7 a8 a9 b0 b1 b2 V X Y
 obtain ⟨j1, j2, j3⟩ := fA Zg.o
 (first | subst j3 | (injection j3 with f1_ f2_ f3_; have f4_ := f1_.symm; have f5_ := f3_.symm; clear f1_ f2_ f3_; subst f4_; subst f5_))
 obtain ⟨n1, n2, j4⟩ := fA Zk.o
 (first | subst j4 | (injection j4 with f1_ f2_ f3_; have f4_ := f1_.symm; have f5_ := f3_.symm; clear f1_ f2_ f3_; subst f4_; subst f5_))
 refine start_ (n := 55) (S := fun w' => w'.cell? ⟨c, 0, none⟩ = some (.slice j b.length l) ∧ w'.cell? ⟨c, 1, none⟩ = some (.slice s d.length u) ∧ w'.cell? ⟨m, 0, none⟩ = some (.slice y q.length z) ∧ w'.cell? ⟨m, 1, none⟩ = some (.slice I x.length J) ∧ w'.cell? ⟨a, 0, none⟩ = some (.slice A v.length B) ∧ w'.cell? ⟨a, 1, none⟩ = some (.slice E D.length F)) (ds := []) #[ff, ff, ff, ff, ff, ff, ff, ff, ff, ff, ff, ff, ff, ff, ff, ff, ff, ff, ff, ff, ff, ff, ff, ff, ff, ff, ff, ff, ff, ff, ff, ff, ff, ff, ff, ff, ff, ff, ff, ff, ff, ff, ff, ff, ff, ff, ff, ff, ff, ff, ff, ff, ff, ff, ff] (by kernel_rfl) rfl rfl ⟨(eY Za.o 0).trans rfl, (eY Za.o 1).trans rfl, (eY Zd.o 0).trans rfl, (eY Zd.o 1).trans rfl, (eY Zh.o 0).trans rfl, (eY Zh.o 1).trans rfl⟩ (fun hHeld => ?_); refine with_tabW laws_FnShots.tab9 laws_FnShots.bits9 (fun HT_ HW_ => ?_)
 generalize o8.drew = r2 at Zb Zc Ze Zf Zg Zj Zk Zm Zn Za Zd Zh HB hHeld ⊢
 refine gR (i := 0) (N := some 58) #[tt, ff, ff, ff, ff, ff, ff, ff, ff, ff, ff, ff, ff, ff, ff, ff, ff, ff, ff, ff, ff, ff, ff, ff, ff, ff, ff, ff, ff, ff, ff, ff, ff, ff, ff, ff, ff, ff, ff, ff, ff, ff, ff, ff, ff, ff, ff, ff, ff, ff, ff, ff, ff, ff, ff] rfl rfl (gD HT_.o zk) (fun _ _ _ h => h) (.inl ⟨by rfl, zi⟩) zu ?_
 refine gR (i := 1) (N := some 59) #[tt, tt, ff, ff, ff, ff, ff, ff, ff, ff, ff, ff, ff, ff, ff, ff, ff, ff, ff, ff, ff, ff, ff, ff, ff, ff, ff, ff, ff, ff, ff, ff, ff, ff, ff, ff, ff, ff, ff, ff, ff, ff, ff, ff, ff, ff, ff, ff, ff, ff, ff, ff, ff, ff, ff] rfl rfl (gD HT_.o zk) (fun _ _ _ h => h) (.inl ⟨by rfl, zi⟩) zu ?_
 refine gR (i := 2) (N := some 60) #[tt, tt, tt, ff, ff, ff, ff, ff, ff, ff, ff, ff, ff, ff, ff, ff, ff, ff, ff, ff, ff, ff, ff, ff, ff, ff, ff, ff, ff, ff, ff, ff, ff, ff, ff, ff, ff, ff, ff, ff, ff, ff, ff, ff, ff, ff, ff, ff, ff, ff, ff, ff, ff, ff, ff] rfl rfl (gD HT_.o zk) (fun _ _ _ h => h) (.inl ⟨by rfl, zi⟩) zu ?_
 refine gR (i := 3) (N := some 61) #[tt, tt, tt, tt, ff, ff, ff, ff, ff, ff, ff, ff, ff, ff, ff, ff, ff, ff, ff, ff, ff, ff, ff, ff, ff, ff, ff, ff, ff, ff, ff, ff, ff, ff, ff, ff, ff, ff, ff, ff, ff, ff, ff, ff, ff, ff, ff, ff, ff, ff, ff, ff, ff, ff, ff] rfl rfl (gD HT_.o zk) (fun _ _ _ h => h) (.inl ⟨by rfl, zi⟩) zu ?_
 refine gR (i := 4) (N := some 62) #[tt, tt, tt, tt, tt, ff, ff, ff, ff, ff, ff, ff, ff, ff, ff, ff, ff, ff, ff, ff, ff, ff, ff, ff, ff, ff, ff, ff, ff, ff, ff, ff, ff, ff, ff, ff, ff, ff, ff, ff, ff, ff, ff, ff, ff, ff, ff, ff, ff, ff, ff, ff, ff, ff, ff] rfl rfl (gD HT_.o zk) (fun _ _ _ h => h) (.inl ⟨by rfl, zi⟩) zu ?_
 refine gR (i := 5) (N := some 63) #[tt, tt, tt, tt, tt, tt, ff, ff, ff, ff, ff, ff, ff, ff, ff, ff, ff, ff, ff, ff, ff, ff, ff, ff, ff, ff, ff, ff, ff, ff, ff, ff, ff, ff, ff, ff, ff, ff, ff, ff, ff, ff, ff, ff, ff, ff, ff, ff, ff, ff, ff, ff, ff, ff, ff] rfl rfl (gD HT_.o zk) (fun _ _ _ h => h) (.inl ⟨by rfl, zi⟩) zu ?_
 refine gR (i := 6) (N := some 64) #[tt, tt, tt, tt, tt, tt, tt, ff, ff, ff, ff, ff, ff, ff, ff, ff, ff, ff, ff, ff, ff, ff, ff, ff, ff, ff, ff, ff, ff, ff, ff, ff, ff, ff, ff, ff, ff, ff, ff, ff, ff, ff, ff, ff, ff, ff, ff, ff, ff, ff, ff, ff, ff, ff, ff] rfl rfl (gD HT_.o zk) (fun _ _ _ h => h) (.inl ⟨by rfl, zi⟩) zu ?_
 refine gR (i := 7) (N := some 65) #[tt, tt, tt, tt, tt, tt, tt, tt, ff, ff, ff, ff, ff, ff, ff, ff, ff, ff, ff, ff, ff, ff, ff, ff, ff, ff, ff, ff, ff, ff, ff, ff, ff, ff, ff, ff, ff, ff, ff, ff, ff, ff, ff, ff, ff, ff, ff, ff, ff, ff, ff, ff, ff, ff, ff] rfl rfl (gD HT_.o zk) (fun _ _ _ h => h) (.inl ⟨by rfl, zi⟩) zu ?_
 refine gR (i := 8) (N := some 66) #[tt, tt, tt, tt, tt, tt, tt, tt, tt, ff, ff, ff, ff, ff, ff, ff, ff, ff, ff, ff, ff, ff, ff, ff, ff, ff, ff, ff, ff, ff, ff, ff, ff, ff, ff, ff, ff, ff, ff, ff, ff, ff, ff, ff, ff, ff, ff, ff, ff, ff, ff, ff, ff, ff, ff] rfl rfl (gD HT_.o zk) (fun _ _ _ h => h) (.inl ⟨by rfl, zi⟩) zu ?_
 refine gR (i := 9) (N := some 67) #[tt, tt, tt, tt, tt, tt, tt, tt, tt, tt, ff, ff, ff, ff, ff, ff, ff, ff, ff, ff, ff, ff, ff, ff, ff, ff, ff, ff, ff, ff, ff, ff, ff, ff, ff, ff, ff, ff, ff, ff, ff, ff, ff, ff, ff, ff, ff, ff, ff, ff, ff, ff, ff, ff, ff] rfl rfl (gD HT_.o zk) (fun _ _ _ h => h) (.inl ⟨by rfl, zi⟩) zu ?_
 refine gR (i := 10) (N := some 68) #[tt, tt, tt, tt, tt, tt, tt, tt, tt, tt, tt, ff, ff, ff, ff, ff, ff, ff, ff, ff, ff, ff, ff, ff, ff, ff, ff, ff, ff, ff, ff, ff, ff, ff, ff, ff, ff, ff, ff, ff, ff, ff, ff, ff, ff, ff, ff, ff, ff, ff, ff, ff, ff, ff, ff] rfl rfl (gD HT_.o zk) (fun _ _ _ h => h) (.inl ⟨by rfl, zi⟩) zu ?_
 refine gR (i := 11) (N := some 69) #[tt, tt, tt, tt, tt, tt, tt, tt, tt, tt, tt, tt, ff, ff, ff, ff, ff, ff, ff, ff, ff, ff, ff, ff, ff, ff, ff, ff, ff, ff, ff, ff, ff, ff, ff, ff, ff, ff, ff, ff, ff, ff, ff, ff, ff, ff, ff, ff, ff, ff, ff, ff, ff, ff, ff] rfl rfl (gD HT_.o zk) (fun _ _ _ h => h) (.inl ⟨by rfl, zi⟩) zu ?_
 refine gR (i := 12) (N := some 70) #[tt, tt, tt, tt, tt, tt, tt, tt, tt, tt, tt, tt, tt, ff, ff, ff, ff, ff, ff, ff, ff, ff, ff, ff, ff, ff, ff, ff, ff, ff, ff, ff, ff, ff, ff, ff, ff, ff, ff, ff, ff, ff, ff, ff, ff, ff, ff, ff, ff, ff, ff, ff, ff, ff, ff] rfl rfl (gD HT_.o zk) (fun _ _ _ h => h) (.inl ⟨by rfl, zi⟩) zu ?_
 refine gR (i := 13) (N := some 71) #[tt, tt, tt, tt, tt, tt, tt, tt, tt, tt, tt, tt, tt, tt, ff, ff, ff, ff, ff, ff, ff, ff, ff, ff, ff, ff, ff, ff, ff, ff, ff, ff, ff, ff, ff, ff, ff, ff, ff, ff, ff, ff, ff, ff, ff, ff, ff, ff, ff, ff, ff, ff, ff, ff, ff] rfl rfl (gD HT_.o zk) (fun _ _ _ h => h) (.inl ⟨by rfl, zi⟩) zu ?_
 refine gR (i := 14) (N := some 72) #[tt, tt, tt, tt, tt, tt, tt, tt, tt, tt, tt, tt, tt, tt, tt, ff, ff, ff, ff, ff, ff, ff, ff, ff, ff, ff, ff, ff, ff, ff, ff, ff, ff, ff, ff, ff, ff, ff, ff, ff, ff, ff, ff, ff, ff, ff, ff, ff, ff, ff, ff, ff, ff, ff, ff] rfl rfl (gD HT_.o zk) (fun _ _ _ h => h) (.inl ⟨by rfl, zi⟩) zu ?_
 refine gR (i := 15) (N := some 73) #[tt, tt, tt, tt, tt, tt, tt, tt, tt, tt, tt, tt, tt, tt, tt, tt, ff, ff, ff, ff, ff, ff, ff, ff, ff, ff, ff, ff, ff, ff, ff, ff, ff, ff, ff, ff, ff, ff, ff, ff, ff, ff, ff, ff, ff, ff, ff, ff, ff, ff, ff, ff, ff, ff, ff] rfl rfl (gD HT_.o zk) (fun _ _ _ h => h) (.inl ⟨by rfl, zi⟩) zu ?_
 refine gR (i := 16) (N := some 74) #[tt, tt, tt, tt, tt, tt, tt, tt, tt, tt, tt, tt, tt, tt, tt, tt, tt, ff, ff, ff, ff, ff, ff, ff, ff, ff, ff, ff, ff, ff, ff, ff, ff, ff, ff, ff, ff, ff, ff, ff, ff, ff, ff, ff, ff, ff, ff, ff, ff, ff, ff, ff, ff, ff, ff] rfl rfl (gD HT_.o zk) (fun _ _ _ h => h) (.inl ⟨by rfl, zi⟩) zu ?_
 refine one_ (i := 17) (N := some 75) #[tt, tt, tt, tt, tt, tt, tt, tt, tt, tt, tt, tt, tt, tt, tt, tt, tt, tt, ff, ff, ff, ff, ff, ff, ff, ff, ff, ff, ff, ff, ff, ff, ff, ff, ff, ff, ff, ff, ff, ff, ff, ff, ff, ff, ff, ff, ff, ff, ff, ff, ff, ff, ff, ff, ff] rfl rfl (iS HT_.o zk) (by decide) (fun K hK => ?_)
 refine goes_ Tryz.func10 (by kernel_rfl) rfl #[.slice j1 L.length j2, .slice n1 e0.length n2] (by rfl) rfl rfl zq ?_
 with_reducible refine (bX.calls k _ _ L _ _ e0 true _ ?side1 ?side2 ?side3 ?side4 o1.o).mono ?_
 (case side1 => exact zC ((fC Zg.o).2.2))
 (case side2 => exact (fC Zg.o).2.1)
 (case side3 => exact zC ((fC Zk.o).2.2))
 (case side4 => exact (fC Zk.o).2.1)
 rintro e w' ⟨rfl, ⟨nd, rfl⟩⟩
 refine ⟨_, rfl, ?_⟩
 refine hK.out _ _ ⟨(eY Za.o 0).trans rfl, (eY Za.o 1).trans rfl, (eY Zd.o 0).trans rfl, (eY Zd.o 1).trans rfl, (eY Zh.o 0).trans rfl, (eY Zh.o 1).trans rfl⟩ (fun hHeld => ?_)
 clear hK K
 refine norm_ (a' := ?_) ?_ ?_
 rotate_left
 ·show gE _ (some 75) _ = _
  simp only [gE, zs, zz, zt, i64_w, i32_w]
  rfl
 refine gR (i := 18) (N := some 76) #[tt, tt, tt, tt, tt, tt, tt, tt, tt, tt, tt, tt, tt, tt, tt, tt, tt, tt, tt, ff, ff, ff, ff, ff, ff, ff, ff, ff, ff, ff, ff, ff, ff, ff, ff, ff, ff, ff, ff, ff, ff, ff, ff, ff, ff, ff, ff, ff, ff, ff, ff, ff, ff, ff, ff] rfl rfl (gD HT_.o zk) (fun _ _ _ h => h) (.inl ⟨by rfl, zi⟩) zu ?_
 refine gR (i := 19) (N := some 77) #[tt, tt, tt, tt, tt, tt, tt, tt, tt, tt, tt, tt, tt, tt, tt, tt, tt, tt, tt, tt, ff, ff, ff, ff, ff, ff, ff, ff, ff, ff, ff, ff, ff, ff, ff, ff, ff, ff, ff, ff, ff, ff, ff, ff, ff, ff, ff, ff, ff, ff, ff, ff, ff, ff, ff] rfl rfl (gD HT_.o zk) (fun _ _ _ h => h) (.inl ⟨by rfl, zi⟩) zu ?_
 refine gR (i := 20) (N := some 78) #[tt, tt, tt, tt, tt, tt, tt, tt, tt, tt, tt, tt, tt, tt, tt, tt, tt, tt, tt, tt, tt, ff, ff, ff, ff, ff, ff, ff, ff, ff, ff, ff, ff, ff, ff, ff, ff, ff, ff, ff, ff, ff, ff, ff, ff, ff, ff, ff, ff, ff, ff, ff, ff, ff, ff] rfl rfl (gD HT_.o zk) (fun _ _ _ h => h) (.inl ⟨by rfl, zi⟩) zu ?_
 refine gR (i := 21) (N := some 79) #[tt, tt, tt, tt, tt, tt, tt, tt, tt, tt, tt, tt, tt, tt, tt, tt, tt, tt, tt, tt, tt, tt, ff, ff, ff, ff, ff, ff, ff, ff, ff, ff, ff, ff, ff, ff, ff, ff, ff, ff, ff, ff, ff, ff, ff, ff, ff, ff, ff, ff, ff, ff, ff, ff, ff] rfl rfl (gD HT_.o zk) (fun _ _ _ h => h) (.inl ⟨by rfl, zi⟩) zu ?_
 refine gR (i := 22) (N := some 80) #[tt, tt, tt, tt, tt, tt, tt, tt, tt, tt, tt, tt, tt, tt, tt, tt, tt, tt, tt, tt, tt, tt, tt, ff, ff, ff, ff, ff, ff, ff, ff, ff, ff, ff, ff, ff, ff, ff, ff, ff, ff, ff, ff, ff, ff, ff, ff, ff, ff, ff, ff, ff, ff, ff, ff] rfl rfl (gD HT_.o zk) (fun _ _ _ h => h) (.inl ⟨by rfl, zi⟩) zu ?_
 refine kA (i := 23) (N := some 81) #[tt, tt, tt, tt, tt, tt, tt, tt, tt, tt, tt, tt, tt, tt, tt, tt, tt, tt, tt, tt, tt, tt, tt, tt, ff, ff, ff, ff, ff, ff, ff, ff, ff, ff, ff, ff, ff, ff, ff, ff, ff, ff, ff, ff, ff, ff, ff, ff, ff, ff, ff, ff, ff, ff, ff] rfl rfl (hZ HT_.o HW_.o zk) (fun _ _ _ h => h) (.inl ⟨by rfl, zi6⟩) hHeld zu ?_
 refine gR (i := 24) (N := some 82) #[tt, tt, tt, tt, tt, tt, tt, tt, tt, tt, tt, tt, tt, tt, tt, tt, tt, tt, tt, tt, tt, tt, tt, tt, tt, ff, ff, ff, ff, ff, ff, ff, ff, ff, ff, ff, ff, ff, ff, ff, ff, ff, ff, ff, ff, ff, ff, ff, ff, ff, ff, ff, ff, ff, ff] rfl rfl (gD HT_.o zk) (fun _ _ _ h => h) (.inl ⟨by rfl, zi⟩) zu ?_
 refine gR (i := 25) (N := some 83) #[tt, tt, tt, tt, tt, tt, tt, tt, tt, tt, tt, tt, tt, tt, tt, tt, tt, tt, tt, tt, tt, tt, tt, tt, tt, tt, ff, ff, ff, ff, ff, ff, ff, ff, ff, ff, ff, ff, ff, ff, ff, ff, ff, ff, ff, ff, ff, ff, ff, ff, ff, ff, ff, ff, ff] rfl rfl (gD HT_.o zk) (fun _ _ _ h => h) (.inl ⟨by rfl, zi⟩) zu ?_
 refine gR (i := 26) (N := some 84) #[tt, tt, tt, tt, tt, tt, tt, tt, tt, tt, tt, tt, tt, tt, tt, tt, tt, tt, tt, tt, tt, tt, tt, tt, tt, tt, tt, ff, ff, ff, ff, ff, ff, ff, ff, ff, ff, ff, ff, ff, ff, ff, ff, ff, ff, ff, ff, ff, ff, ff, ff, ff, ff, ff, ff] rfl rfl (gD HT_.o zk) (fun _ _ _ h => h) (.inl ⟨by rfl, zi⟩) zu ?_
 refine gR (i := 27) (N := some 85) #[tt, tt, tt, tt, tt, tt, tt, tt, tt, tt, tt, tt, tt, tt, tt, tt, tt, tt, tt, tt, tt, tt, tt, tt, tt, tt, tt, tt, ff, ff, ff, ff, ff, ff, ff, ff, ff, ff, ff, ff, ff, ff, ff, ff, ff, ff, ff, ff, ff, ff, ff, ff, ff, ff, ff] rfl rfl (gD HT_.o zk) (fun _ _ _ h => h) (.inl ⟨by rfl, zi⟩) zu ?_
 refine gR (i := 28) (N := some 86) #[tt, tt, tt, tt, tt, tt, tt, tt, tt, tt, tt, tt, tt, tt, tt, tt, tt, tt, tt, tt, tt, tt, tt, tt, tt, tt, tt, tt, tt, ff, ff, ff, ff, ff, ff, ff, ff, ff, ff, ff, ff, ff, ff, ff, ff, ff, ff, ff, ff, ff, ff, ff, ff, ff, ff] rfl rfl (gD HT_.o zk) (fun _ _ _ h => h) (.inl ⟨by rfl, zi⟩) zu ?_
 refine gR (i := 32) (N := some 90) #[tt, tt, tt, tt, tt, tt, tt, tt, tt, tt, tt, tt, tt, tt, tt, tt, tt, tt, tt, tt, tt, tt, tt, tt, tt, tt, tt, tt, tt, ff, ff, ff, tt, ff, ff, ff, ff, ff, ff, ff, ff, ff, ff, ff, ff, ff, ff, ff, ff, ff, ff, ff, ff, ff, ff] rfl rfl (gD HT_.o zk) (fun _ _ _ h => h) (.inl ⟨by rfl, zi⟩) zu ?_
 refine gR (i := 33) (N := some 91) #[tt, tt, tt, tt, tt, tt, tt, tt, tt, tt, tt, tt, tt, tt, tt, tt, tt, tt, tt, tt, tt, tt, tt, tt, tt, tt, tt, tt, tt, ff, ff, ff, tt, tt, ff, ff, ff, ff, ff, ff, ff, ff, ff, ff, ff, ff, ff, ff, ff, ff, ff, ff, ff, ff, ff] rfl rfl (gD HT_.o zk) (fun _ _ _ h => h) (.inl ⟨by rfl, zi⟩) zu ?_
 refine kA (i := 29) (N := some 87) #[tt, tt, tt, tt, tt, tt, tt, tt, tt, tt, tt, tt, tt, tt, tt, tt, tt, tt, tt, tt, tt, tt, tt, tt, tt, tt, tt, tt, tt, tt, ff, ff, tt, tt, ff, ff, ff, ff, ff, ff, ff, ff, ff, ff, ff, ff, ff, ff, ff, ff, ff, ff, ff, ff, ff] rfl rfl (hZ HT_.o HW_.o zk) (fun _ _ _ h => h) (.inl ⟨by rfl, zi6⟩) hHeld zu ?_
 refine kA (i := 30) (N := some 88) #[tt, tt, tt, tt, tt, tt, tt, tt, tt, tt, tt, tt, tt, tt, tt, tt, tt, tt, tt, tt, tt, tt, tt, tt, tt, tt, tt, tt, tt, tt, tt, ff, tt, tt, ff, ff, ff, ff, ff, ff, ff, ff, ff, ff, ff, ff, ff, ff, ff, ff, ff, ff, ff, ff, ff] rfl rfl (hZ HT_.o HW_.o zk) (fun _ _ _ h => h) (.inl ⟨by rfl, zi6⟩) hHeld zu ?_
 refine one_ (i := 31) (N := some 89) #[tt, tt, tt, tt, tt, tt, tt, tt, tt, tt, tt, tt, tt, tt, tt, tt, tt, tt, tt, tt, tt, tt, tt, tt, tt, tt, tt, tt, tt, tt, tt, tt, tt, tt, ff, ff, ff, ff, ff, ff, ff, ff, ff, ff, ff, ff, ff, ff, ff, ff, ff, ff, ff, ff, ff] rfl rfl (iS HT_.o zk) (by decide) (fun K hK => ?_)
 refine goes_ Tryz.func11 (by kernel_rfl) rfl #[.agg #[.slice j b.length l, .slice s d.length u], .agg #[.slice y q.length z, .slice I x.length J]] (by rfl) rfl rfl zq ?_
 with_reducible refine (cM.calls k _ _ b _ _ d _ _ q _ _ x Z _ ?side1 ?side2 ?side3 ?side4 ?side5 ?side6 ?side7 ?side8 o2.o).mono ?_
 (case side1 => exact zC ((fC Zb.o).2.2))
 (case side2 => exact (fC Zb.o).2.1)
 (case side3 => exact zC ((gZ Zc.o).2.2))
 (case side4 => exact (gZ Zc.o).2.1)
 (case side5 => exact zC ((fC Ze.o).2.2))
 (case side6 => exact (fC Ze.o).2.1)
 (case side7 => exact zC ((gZ Zf.o).2.2))
 (case side8 => exact (gZ Zf.o).2.1)
 rintro e r3 ⟨rfl, hb⟩
 refine ⟨_, rfl, ?_⟩
 have a3 := zm (fI (zg_6 Zb.o) hb); have a4 := zm (jX (zg_4 Zc.o) hb); have a5 := zm (fI (zg_6 Ze.o) hb); have a6 := zm (jX (zg_4 Zf.o) hb); have a7 := zm (fI (zg_6 Zg.o) hb); have a8 := zm (fI (zg_6 Zj.o) hb); have a9 := zm (fI (zg_6 Zk.o) hb); have b0 := zm (fI (zg_6 Zm.o) hb); have b1 := zm (jX (zg_4 Zn.o) hb); have b2 := zm (fB (g := c) (o := .cells #[.slice j b.length l, .slice s d.length u] 26 (0, 0)) (zg_3 Za.o) hb); have V := zm (fB (g := m) (o := .cells #[.slice y q.length z, .slice I x.length J] 26 (0, 0)) (zg_3 Zd.o) hb); have X := zm (fB (g := a) (o := .cells #[.slice A v.length B, .slice E D.length F] 26 (0, 0)) (zg_3 Zh.o) hb); have Y := zm (eZ (zg_8 HB.o Zi.o Zl.o Zz.o) hb); clear Zb; clear Zc; clear Ze; clear Zf; clear Zg; clear Zj; clear Zk; clear Zm; clear Zn; clear Za; clear Zd; clear Zh; clear HB; have Zb := a3; have Zc := a4; have Ze := a5; have Zf := a6; have Zg := a7; have Zj := a8; have Zk := a9; have Zm := b0; have Zn := b1; have Za := b2; have Zd := V; have Zh := X; have HB := Y; clear a3 a4 a5 a6 a7 a8 a9 b0 b1 b2 V X Y
 (try clear hb)
 (try clear hb2)
 (try clear hk)
 (try clear hi)
 obtain ⟨n3, n4, j5⟩ := fA Zj.o
 (first | subst j5 | (injection j5 with f1_ f2_ f3_; have f4_ := f1_.symm; have f5_ := f3_.symm; clear f1_ f2_ f3_; subst f4_; subst f5_))
 refine hK.out _ _ ⟨(eY Za.o 0).trans rfl, (eY Za.o 1).trans rfl, (eY Zd.o 0).trans rfl, (eY Zd.o 1).trans rfl, (eY Zh.o 0).trans rfl, (eY Zh.o 1).trans rfl⟩ (fun hHeld => ?_)
 clear hK K
 refine norm_ (a' := ?_) ?_ ?_
 rotate_left
 ·show gE _ (some 89) _ = _
  simp only [gE, zs, zz, zt, i64_w, i32_w]
  rfl
 refine one_ (i := 34) (N := some 92) #[tt, tt, tt, tt, tt, tt, tt, tt, tt, tt, tt, tt, tt, tt, tt, tt, tt, tt, tt, tt, tt, tt, tt, tt, tt, tt, tt, tt, tt, tt, tt, tt, tt, tt, tt, ff, ff, ff, ff, ff, ff, ff, ff, ff, ff, ff, ff, ff, ff, ff, ff, ff, ff, ff, ff] rfl rfl (iS HT_.o zk) (by decide) (fun K hK => ?_)
 refine goes_ Tryz.func10 (by kernel_rfl) rfl #[.slice j1 L.length j2, .slice n3 d1.length n4] (by rfl) rfl rfl zq ?_
 with_reducible refine (bX.calls k _ _ L _ _ d1 a0 _ ?side1 ?side2 ?side3 ?side4 o3.o).mono ?_
 (case side1 => exact zC ((fC Zg.o).2.2))
 (case side2 => exact (fC Zg.o).2.1)
 (case side3 => exact zC ((fC Zj.o).2.2))
 (case side4 => exact (fC Zj.o).2.1)
 rintro e w' ⟨rfl, ⟨nd, rfl⟩⟩
 refine ⟨_, rfl, ?_⟩
 refine hK.out _ _ ⟨(eY Za.o 0).trans rfl, (eY Za.o 1).trans rfl, (eY Zd.o 0).trans rfl, (eY Zd.o 1).trans rfl, (eY Zh.o 0).trans rfl, (eY Zh.o 1).trans rfl⟩ (fun hHeld => ?_)
 clear hK K
 refine norm_ (a' := ?_) ?_ ?_
 rotate_left
 ·show gE _ (some 92) _ = _
  simp only [gE, zs, zz, zt, i64_w, i32_w]
  rfl
 refine gR (i := 35) (N := some 93) #[tt, tt, tt, tt, tt, tt, tt, tt, tt, tt, tt, tt, tt, tt, tt, tt, tt, tt, tt, tt, tt, tt, tt, tt, tt, tt, tt, tt, tt, tt, tt, tt, tt, tt, tt, tt, ff, ff, ff, ff, ff, ff, ff, ff, ff, ff, ff, ff, ff, ff, ff, ff, ff, ff, ff] rfl rfl (gD HT_.o zk) (fun _ _ _ h => h) (.inl ⟨by rfl, zi⟩) zu ?_
 refine gR (i := 36) (N := some 94) #[tt, tt, tt, tt, tt, tt, tt, tt, tt, tt, tt, tt, tt, tt, tt, tt, tt, tt, tt, tt, tt, tt, tt, tt, tt, tt, tt, tt, tt, tt, tt, tt, tt, tt, tt, tt, tt, ff, ff, ff, ff, ff, ff, ff, ff, ff, ff, ff, ff, ff, ff, ff, ff, ff, ff] rfl rfl (gD HT_.o zk) (fun _ _ _ h => h) (.inl ⟨by rfl, zi⟩) zu ?_
 refine gR (i := 37) (N := some 95) #[tt, tt, tt, tt, tt, tt, tt, tt, tt, tt, tt, tt, tt, tt, tt, tt, tt, tt, tt, tt, tt, tt, tt, tt, tt, tt, tt, tt, tt, tt, tt, tt, tt, tt, tt, tt, tt, tt, ff, ff, ff, ff, ff, ff, ff, ff, ff, ff, ff, ff, ff, ff, ff, ff, ff] rfl rfl (gD HT_.o zk) (fun _ _ _ h => h) (.inl ⟨by rfl, zi⟩) zu ?_
 refine kA (i := 38) (N := some 96) #[tt, tt, tt, tt, tt, tt, tt, tt, tt, tt, tt, tt, tt, tt, tt, tt, tt, tt, tt, tt, tt, tt, tt, tt, tt, tt, tt, tt, tt, tt, tt, tt, tt, tt, tt, tt, tt, tt, tt, ff, ff, ff, ff, ff, ff, ff, ff, ff, ff, ff, ff, ff, ff, ff, ff] rfl rfl (hZ HT_.o HW_.o zk) (fun _ _ _ h => h) (.inl ⟨by rfl, zi6⟩) hHeld zu ?_
 refine kA (i := 39) (N := some 97) #[tt, tt, tt, tt, tt, tt, tt, tt, tt, tt, tt, tt, tt, tt, tt, tt, tt, tt, tt, tt, tt, tt, tt, tt, tt, tt, tt, tt, tt, tt, tt, tt, tt, tt, tt, tt, tt, tt, tt, tt, ff, ff, ff, ff, ff, ff, ff, ff, ff, ff, ff, ff, ff, ff, ff] rfl rfl (hZ HT_.o HW_.o zk) (fun _ _ _ h => h) (.inl ⟨by rfl, zi6⟩) hHeld zu ?_
 refine one_ (i := 40) (N := some 98) #[tt, tt, tt, tt, tt, tt, tt, tt, tt, tt, tt, tt, tt, tt, tt, tt, tt, tt, tt, tt, tt, tt, tt, tt, tt, tt, tt, tt, tt, tt, tt, tt, tt, tt, tt, tt, tt, tt, tt, tt, tt, ff, ff, ff, ff, ff, ff, ff, ff, ff, ff, ff, ff, ff, ff] rfl rfl (iS HT_.o zk) (by decide) (fun K hK => ?_)
 refine goes_ Tryz.func11 (by kernel_rfl) rfl #[.agg #[.slice j b.length l, .slice s d.length u], .agg #[.slice j b.length l, .slice s d.length u]] (by rfl) rfl rfl zq ?_
 with_reducible refine (cM.calls k _ _ b _ _ d _ _ b _ _ d true _ ?side1 ?side2 ?side3 ?side4 ?side5 ?side6 ?side7 ?side8 o4.o).mono ?_
 (case side1 => exact zC ((fC Zb.o).2.2))
 (case side2 => exact (fC Zb.o).2.1)
 (case side3 => exact zC ((gZ Zc.o).2.2))
 (case side4 => exact (gZ Zc.o).2.1)
 (case side5 => exact zC ((fC Zb.o).2.2))
 (case side6 => exact (fC Zb.o).2.1)
 (case side7 => exact zC ((gZ Zc.o).2.2))
 (case side8 => exact (gZ Zc.o).2.1)
 rintro e r4 ⟨rfl, hb⟩
 refine ⟨_, rfl, ?_⟩
 have a3 := zm (fI (zg_6 Zb.o) hb); have a4 := zm (jX (zg_4 Zc.o) hb); have a5 := zm (fI (zg_6 Ze.o) hb); have a6 := zm (jX (zg_4 Zf.o) hb); have a7 := zm (fI (zg_6 Zg.o) hb); have a8 := zm (fI (zg_6 Zj.o) hb); have a9 := zm (fI (zg_6 Zk.o) hb); have b0 := zm (fI (zg_6 Zm.o) hb); have b1 := zm (jX (zg_4 Zn.o) hb); have b2 := zm (fB (g := c) (o := .cells #[.slice j b.length l, .slice s d.length u] 26 (0, 0)) (zg_3 Za.o) hb); have V := zm (fB (g := m) (o := .cells #[.slice y q.length z, .slice I x.length J] 26 (0, 0)) (zg_3 Zd.o) hb); have X := zm (fB (g := a) (o := .cells #[.slice A v.length B, .slice E D.length F] 26 (0, 0)) (zg_3 Zh.o) hb); have Y := zm (eZ (zg_8 HB.o Zi.o Zl.o Zz.o) hb); clear Zb; clear Zc; clear Ze; clear Zf; clear Zg; clear Zj; clear Zk; clear Zm; clear Zn; clear Za; clear Zd; clear Zh; clear HB; have Zb := a3; have Zc := a4; have Ze := a5; have Zf := a6; have Zg := a7; have Zj := a8; have Zk := a9; have Zm := b0; have Zn := b1; have Za := b2; have Zd := V; have Zh := X; have HB := Y; clear a3 a4 a5 a6 a7 a8 a9 b0 b1 b2 V X Y
 (try clear hb)
 (try clear hb2)
 (try clear hk)
 (try clear hi)
 refine hK.out _ _ ⟨(eY Za.o 0).trans rfl, (eY Za.o 1).trans rfl, (eY Zd.o 0).trans rfl, (eY Zd.o 1).trans rfl, (eY Zh.o 0).trans rfl, (eY Zh.o 1).trans rfl⟩ (fun hHeld => ?_)
 clear hK K
 refine norm_ (a' := ?_) ?_ ?_
 rotate_left
 ·show gE _ (some 98) _ = _
  simp only [gE, zs, zz, zt, i64_w, i32_w]
  rfl
 refine gR (i := 41) (N := some 99) #[tt, tt, tt, tt, tt, tt, tt, tt, tt, tt, tt, tt, tt, tt, tt, tt, tt, tt, tt, tt, tt, tt, tt, tt, tt, tt, tt, tt, tt, tt, tt, tt, tt, tt, tt, tt, tt, tt, tt, tt, tt, tt, ff, ff, ff, ff, ff, ff, ff, ff, ff, ff, ff, ff, ff] rfl rfl (gD HT_.o zk) (fun _ _ _ h => h) (.inl ⟨by rfl, zi⟩) zu ?_
 refine gR (i := 42) (N := some 100) #[tt, tt, tt, tt, tt, tt, tt, tt, tt, tt, tt, tt, tt, tt, tt, tt, tt, tt, tt, tt, tt, tt, tt, tt, tt, tt, tt, tt, tt, tt, tt, tt, tt, tt, tt, tt, tt, tt, tt, tt, tt, tt, tt, ff, ff, ff, ff, ff, ff, ff, ff, ff, ff, ff, ff] rfl rfl (gD HT_.o zk) (fun _ _ _ h => h) (.inl ⟨by rfl, zi⟩) zu ?_
 refine gR (i := 43) (N := some 101) #[tt, tt, tt, tt, tt, tt, tt, tt, tt, tt, tt, tt, tt, tt, tt, tt, tt, tt, tt, tt, tt, tt, tt, tt, tt, tt, tt, tt, tt, tt, tt, tt, tt, tt, tt, tt, tt, tt, tt, tt, tt, tt, tt, tt, ff, ff, ff, ff, ff, ff, ff, ff, ff, ff, ff] rfl rfl (gD HT_.o zk) (fun _ _ _ h => h) (.inl ⟨by rfl, zi⟩) zu ?_
 refine gR (i := 44) (N := some 102) #[tt, tt, tt, tt, tt, tt, tt, tt, tt, tt, tt, tt, tt, tt, tt, tt, tt, tt, tt, tt, tt, tt, tt, tt, tt, tt, tt, tt, tt, tt, tt, tt, tt, tt, tt, tt, tt, tt, tt, tt, tt, tt, tt, tt, tt, ff, ff, ff, ff, ff, ff, ff, ff, ff, ff] rfl rfl (gD HT_.o zk) (fun _ _ _ h => h) (.inl ⟨by rfl, zi⟩) zu ?_
 refine gR (i := 45) (N := some 103) #[tt, tt, tt, tt, tt, tt, tt, tt, tt, tt, tt, tt, tt, tt, tt, tt, tt, tt, tt, tt, tt, tt, tt, tt, tt, tt, tt, tt, tt, tt, tt, tt, tt, tt, tt, tt, tt, tt, tt, tt, tt, tt, tt, tt, tt, tt, ff, ff, ff, ff, ff, ff, ff, ff, ff] rfl rfl (gD HT_.o zk) (fun _ _ _ h => h) (.inl ⟨by rfl, zi⟩) zu ?_
 refine gR (i := 46) (N := some 104) #[tt, tt, tt, tt, tt, tt, tt, tt, tt, tt, tt, tt, tt, tt, tt, tt, tt, tt, tt, tt, tt, tt, tt, tt, tt, tt, tt, tt, tt, tt, tt, tt, tt, tt, tt, tt, tt, tt, tt, tt, tt, tt, tt, tt, tt, tt, tt, ff, ff, ff, ff, ff, ff, ff, ff] rfl rfl (gD HT_.o zk) (fun _ _ _ h => h) (.inl ⟨by rfl, zi⟩) zu ?_
 refine gR (i := 47) (N := some 105) #[tt, tt, tt, tt, tt, tt, tt, tt, tt, tt, tt, tt, tt, tt, tt, tt, tt, tt, tt, tt, tt, tt, tt, tt, tt, tt, tt, tt, tt, tt, tt, tt, tt, tt, tt, tt, tt, tt, tt, tt, tt, tt, tt, tt, tt, tt, tt, tt, ff, ff, ff, ff, ff, ff, ff] rfl rfl (gD HT_.o zk) (fun _ _ _ h => h) (.inl ⟨by rfl, zi⟩) zu ?_
 refine gR (i := 50) (N := some 108) #[tt, tt, tt, tt, tt, tt, tt, tt, tt, tt, tt, tt, tt, tt, tt, tt, tt, tt, tt, tt, tt, tt, tt, tt, tt, tt, tt, tt, tt, tt, tt, tt, tt, tt, tt, tt, tt, tt, tt, tt, tt, tt, tt, tt, tt, tt, tt, tt, ff, ff, tt, ff, ff, ff, ff] rfl rfl (gD HT_.o zk) (fun _ _ _ h => h) (.inl ⟨by rfl, zi⟩) zu ?_
 refine kA (i := 48) (N := some 106) #[tt, tt, tt, tt, tt, tt, tt, tt, tt, tt, tt, tt, tt, tt, tt, tt, tt, tt, tt, tt, tt, tt, tt, tt, tt, tt, tt, tt, tt, tt, tt, tt, tt, tt, tt, tt, tt, tt, tt, tt, tt, tt, tt, tt, tt, tt, tt, tt, tt, ff, tt, ff, ff, ff, ff] rfl rfl (hZ HT_.o HW_.o zk) (fun _ _ _ h => h) (.inl ⟨by rfl, zi6⟩) hHeld zu ?_
 refine gR (i := 49) (N := some 107) #[tt, tt, tt, tt, tt, tt, tt, tt, tt, tt, tt, tt, tt, tt, tt, tt, tt, tt, tt, tt, tt, tt, tt, tt, tt, tt, tt, tt, tt, tt, tt, tt, tt, tt, tt, tt, tt, tt, tt, tt, tt, tt, tt, tt, tt, tt, tt, tt, tt, tt, tt, ff, ff, ff, ff] rfl rfl (gD HT_.o zk) (fun _ _ _ h => h) (.inl ⟨by rfl, zi⟩) zu ?_
 refine one_ (i := 51) (N := some 109) #[tt, tt, tt, tt, tt, tt, tt, tt, tt, tt, tt, tt, tt, tt, tt, tt, tt, tt, tt, tt, tt, tt, tt, tt, tt, tt, tt, tt, tt, tt, tt, tt, tt, tt, tt, tt, tt, tt, tt, tt, tt, tt, tt, tt, tt, tt, tt, tt, tt, tt, tt, tt, ff, ff, ff] rfl rfl (iS HT_.o zk) (by decide) (fun K hK => ?_)
 refine goes_ Tryz.func9 (by kernel_rfl) rfl #[.slice A1 l1.length c1, .int .i64 0, .int .i64 13] (by rfl) rfl rfl zq ?_
 with_reducible refine (dI.calls _ _ l1 0 13 e5 _ ?side1 ?side2 o5.o).mono ?_
 (case side1 => exact zC (fE h9.o HB.o))
 (case side2 => exact i0.o)
 rintro e w' ⟨rfl, ⟨nd, rfl⟩⟩
 refine ⟨_, rfl, ?_⟩
 refine hK.out _ _ ⟨(eY Za.o 0).trans rfl, (eY Za.o 1).trans rfl, (eY Zd.o 0).trans rfl, (eY Zd.o 1).trans rfl, (eY Zh.o 0).trans rfl, (eY Zh.o 1).trans rfl⟩ (fun hHeld => ?_)
 clear hK K
 refine norm_ (a' := ?_) ?_ ?_
 rotate_left
 ·show gE _ (some 109) _ = _
  simp only [gE, zs, zz, zt, i64_w, i32_w]
  rfl
 refine gR (i := 52) (N := some 110) #[tt, tt, tt, tt, tt, tt, tt, tt, tt, tt, tt, tt, tt, tt, tt, tt, tt, tt, tt, tt, tt, tt, tt, tt, tt, tt, tt, tt, tt, tt, tt, tt, tt, tt, tt, tt, tt, tt, tt, tt, tt, tt, tt, tt, tt, tt, tt, tt, tt, tt, tt, tt, tt, ff, ff] rfl rfl (gD HT_.o zk) (fun _ _ _ h => h) (.inl ⟨by rfl, zi⟩) zu ?_
 refine gR (i := 53) (N := some 111) #[tt, tt, tt, tt, tt, tt, tt, tt, tt, tt, tt, tt, tt, tt, tt, tt, tt, tt, tt, tt, tt, tt, tt, tt, tt, tt, tt, tt, tt, tt, tt, tt, tt, tt, tt, tt, tt, tt, tt, tt, tt, tt, tt, tt, tt, tt, tt, tt, tt, tt, tt, tt, tt, tt, ff] rfl rfl (gD HT_.o zk) (fun _ _ _ h => h) (.inl ⟨by rfl, zi⟩) zu ?_
 refine gR (i := 54) (N := some 4) #[tt, tt, tt, tt, tt, tt, tt, tt, tt, tt, tt, tt, tt, tt, tt, tt, tt, tt, tt, tt, tt, tt, tt, tt, tt, tt, tt, tt, tt, tt, tt, tt, tt, tt, tt, tt, tt, tt, tt, tt, tt, tt, tt, tt, tt, tt, tt, tt, tt, tt, tt, tt, tt, tt, tt] rfl rfl (gD HT_.o zk) (fun _ _ _ h => h) (.inl ⟨by rfl, zi⟩) zu ?_
 refine done_ (done_of HT_.o zk) ?_
 try go_wp2
 go_ret
 exact ⟨ze, zg_8 HB.o Zi.o Zl.o Zz.o⟩
def okI (x : Int) : Prop := (Lit.int .i64 x).wf = true
def okU8 (x : Int) : Prop := (Lit.int .u8 x).wf = true
def okB (_ : Bool) : Prop := True
def okS (x : ByteArray) : Prop := x.size ≤ maxLen
theorem w64 {n : Int} (h0 : -9223372036854775808 ≤ n) (h1 : n ≤ 9223372036854775807) : wrap64 n = n := by unfold wrap64; omega
theorem ev_some {α : Type} (r : α) : Ev (fun _ => some r) r := ⟨0, fun _ _ => rfl⟩
theorem ev_of_eq {α : Type} {g : Nat → Option α} {r : α} (h : ∀ k, g k = some r) : Ev g r := ⟨0, fun k _ => h k⟩
theorem ev_bind {α β : Type} {g : Nat → Option α} {f : Nat → α → Option β} {a : α} {r : β} (h : Ev g a) (k : Ev (fun n => f n a) r) : Ev (fun n => (g n).bind (f n)) r := Ev.bind h k
theorem ev_pos {α : Type} {c : Prop} [Decidable c] {g f : Nat → Option α} {r : α} (hc : c) (h : Ev g r) : Ev (fun n => if c then g n else f n) r := by
  simp only [if_pos hc]; exact h
theorem ev_neg {α : Type} {c : Prop} [Decidable c] {g f : Nat → Option α} {r : α} (hc : ¬ c) (h : Ev f r) : Ev (fun n => if c then g n else f n) r := by
  simp only [if_neg hc]; exact h
theorem strOfNums_size (l : List Int) : (strOfNums l).size = l.length := by show (List.map _ l).toArray.size = _; simp
theorem ba_size_append (a b : ByteArray) : (a ++ b).size = a.size + b.size := by simp
theorem toList_inj {a b : ByteArray} : a.toList = b.toList ↔ a = b := by
  constructor
  · intro h
    have h1 : a.data.toList = b.data.toList := by simpa [ByteArray.toList_eq] using h
    have : a.data = b.data := Array.toList_inj.1 h1
    cases a; cases b; simp_all
  · rintro rfl; rfl
def inB (n a b : Int) : Bool := decide (a ≤ n) && decide (n ≤ b)
theorem inB_iff {n a b : Int} : inB n a b = true ↔ a ≤ n ∧ n ≤ b := by simp [inB]
theorem l01In_eq (n a b : Int) : dD.f n a b = some (inB n a b) := by
  unfold dD.f inB; by_cases h : a ≤ n <;> simp [h]
theorem within_eq (n a b : Int) : cA.f n a b = some (inB n a b) := by
  unfold cA.f inB; by_cases h : a ≤ n <;> simp [h]
theorem ev_loop {α : Type} {g : Nat → Nat → Option α} {r : α} (n : Nat) (hend : Ev (fun k => g k n) r) (hstep : ∀ i, i < n → ∃ c, ∀ k, g (k + c) i = g k (i + 1) ∧ 1 ≤ c) : ∀ d i, i ≤ n → n - i = d → Ev (fun k => g k i) r := by
  intro d
  induction d with
  | zero =>
    intro i hi hd
    have e : i = n := by omega
    rw [e]; exact hend
  | succ d ih =>
    intro i hi hd
    obtain ⟨K, hK⟩ := ih (i + 1) (by omega) (by omega)
    obtain ⟨c, hc⟩ := hstep i (by omega)
    refine ⟨K + c, fun k hk => ?_⟩
    obtain ⟨m, rfl⟩ : ∃ m, k = m + c := ⟨k - c, by omega⟩
    show g (m + c) i = _
    rw [(hc m).1]; exact hK m (by omega)
theorem rdn (l : List Int) (i : Nat) (h : i < l.length) : rd l (i : Int) = l[i] := by simp [rd, h]
theorem wnext (i : Nat) (h : i < 1000000000000000000) : wrap64 ((i : Int) + 1) = ((i + 1 : Nat) : Int) := by rw [w64 (by omega) (by omega)]; omega
theorem Ev.succ {α : Type} {g : Nat → Option α} {r : α} (h : Ev (fun k => g (k + 1)) r) : Ev g r := kX (f := fun k => g (k + 1)) (fun _ => rfl) h
theorem ev_all {α : Type} {g : Nat → Nat → Option Bool} (l : List α) (q : α → Bool) (r : Bool) (hend : Ev (fun k => g k l.length) r) (hstep : ∀ i (h : i < l.length) k, g (k + 1) i = if q l[i] = true then g k (i + 1) else some false) : Ev (fun k => g k 0) (l.all q && r) := by
  have hgo : ∀ d i, i ≤ l.length → l.length - i = d → Ev (fun k => g k i) ((l.drop i).all q && r) := by
    intro d
    induction d with
    | zero =>
      intro i hi hd
      have e : i = l.length := by omega
      subst e
      rw [iV (by omega)]; simp only [List.all_nil, jJ]; exact hend
    | succ d ih =>
      intro i hi hd
      have hlt : i < l.length := by omega
      refine kX (f := fun k => if q l[i] = true then g k (i + 1) else some false) (hstep i hlt) ?_
      rw [hP hlt, List.all_cons]
      cases hq : q l[i]
      · simp only [mB, Bool.false_eq_true, if_false]; exact ev_some _
      · simp only [jJ, if_true]; exact ih (i + 1) (by omega) (by omega)
  have := hgo l.length 0 (by omega) (by omega)
  rwa [lO] at this
theorem compactI_full (zs : List Int) : (lB zs).length = zs.length ↔ ∀ j, j < zs.length → mV zs.toArray j = true := by
  unfold lB Lib.compactUpTo
  rw [iA]
  constructor
  · intro h j hj
    have h2 : ((iT zs.length).filter (mV zs.toArray)).length = (iT zs.length).length := by rw [h, kI]
    exact (lF.1 h2) j (lP.2 hj)
  · intro h
    have : ((iT zs.length).filter (mV zs.toArray)).length = (iT zs.length).length := lF.2 (fun j hj => h j (lP.1 hj))
    rw [this, kI]
theorem sortedI_nodup (ss : List Int) : (lB (ss.mergeSort fun x y => decide (x ≤ y))).length = ss.length ↔ ss.Nodup := by
  have hp := List.mergeSort_perm ss (fun x y => decide (x ≤ y))
  have hs : (ss.mergeSort fun x y => decide (x ≤ y)).Pairwise (fun x y => decide (x ≤ y) = true) := List.pairwise_mergeSort (fun a b c h1 h2 => by
    simp only [decide_eq_true_eq] at *; exact Int.le_trans h1 h2) (fun a b => by
    simp only [Bool.or_eq_true, decide_eq_true_eq]; exact Int.le_total a b) ss
  rw [← hp.nodup_iff, ← hp.length_eq, compactI_full]
  generalize (ss.mergeSort fun x y => decide (x ≤ y)) = s at hs
  have hle : ∀ i j (hi : i < j) (hj : j < s.length), s[i] ≤ s[j] := fun i j hi hj => by
    have := jM.1 hs i j (by omega) hj hi
    simpa using this
  constructor
  · intro h
    rw [kO, jM]
    intro i j hi hj hij e
    have h1 := h (i + 1) (by omega)
    have h2 : s[i]'hi = s[i + 1]'(by omega) := by
      refine Int.le_antisymm (hle i (i + 1) (by omega) (by omega)) ?_
      by_cases c : i + 1 = j
      · subst c; rw [e]; exact Int.le_refl _
      · rw [e]; exact hle (i + 1) j (by omega) hj
    simp [mV, h2, show i + 1 < s.length by omega, show i < s.length from hi] at h1
  · intro h j hj
    by_cases c : j = 0
    · subst c; simp [mV]
    · have hne : s[j]'hj ≠ s[j - 1]'(by omega) := by
        intro e
        have := jM.1 (kO.1 h) (j - 1) j (by omega) hj (by omega)
        exact this e.symm
      simp [mV, hj, show j - 1 < s.length by omega, hne]
def tableOK (l : List Int) : Bool := decide ((l.length : Int) ≤ 12) && l.all (fun n => inB n 0 25)
theorem dX (l : List Int) : cS.f l = some (tableOK l) := by
  unfold cS.f tableOK
  have ha : cF.f l () = some (l.all (fun n => inB n 0 25)) := by
    unfold cF.f; exact allO_some _ _ (fun x _ => by simp only [cW.f, within_eq, gH])
  by_cases h : (l.length : Int) ≤ 12
  · rw [if_pos h, ha]; simp [h]
  · rw [if_neg h]; simp [h]
theorem ev_down {α : Type} {g : Nat → Nat → Option α} {r : α} (n : Nat) (hend : Ev (fun k => g k n) r) (hstep : ∀ i, i < n → Ev (fun k => g k (i + 1)) r → Ev (fun k => g k i) r) : Ev (fun k => g k 0) r := by
  have : ∀ d i, i ≤ n → n - i = d → Ev (fun k => g k i) r := by
    intro d
    induction d with
    | zero => intro i hi hd; have e : i = n := by omega
              rw [e]; exact hend
    | succ d ih => intro i hi hd; exact hstep i (by omega) (ih (i + 1) (by omega) (by omega))
  exact this n 0 (by omega) (by omega)
theorem rdE_Snap (l : List S60) (i : Nat) (h : i < l.length) : aH l (i : Int) = l[i] := by simp [aH, h]
def clu (l : List Int) : List Int := (l.filter (fun n => decide (n ≥ 2))).map (fun n => wrap64 (n - 2))
theorem clu_take (l : List Int) (i : Nat) (h : i < l.length) : clu (l.take (i + 1)) = if l[i] ≥ 2 then clu (l.take i) ++ [wrap64 (l[i] - 2)] else clu (l.take i) := by
  unfold clu
  rw [hV h, List.filter_append, List.map_append]
  by_cases c : l[i] ≥ 2
  · rw [if_pos c]; simp [c]
  · rw [if_neg c]; simp [c]
theorem clu_length (l : List Int) : (clu l).length ≤ l.length := by unfold clu; rw [List.length_map]; exact List.length_filter_le _ _
theorem clu_take_length (l : List Int) (i : Nat) : (clu (l.take i)).length ≤ l.length := hU (clu_length _) (by simp; omega)
theorem eK (l : List Int) (hl : l.length ≤ 1000000000) : Ev (fun k => bC.f k l) (clu l) := by
  unfold bC.f
  have h := ev_loop (g := fun k i => bC.l0 k l (clu (l.take i)) (i : Int)) (r := clu l) l.length ?_ ?_ l.length 0 (by omega) (by omega)
  · simpa [clu] using h
  · refine kX (f := fun _ => some (clu l)) (fun k => ?_) (ev_some _)
    simp only [bC.l0]; rw [if_neg (by omega), iL (by omega)]
  · intro i hi
    have hb := clu_take_length l i
    refine ⟨1, fun k => ⟨?_, by omega⟩⟩
    simp only [bC.l0]
    rw [if_pos (by omega), if_pos (by omega), rdn l i hi, wnext i (by omega), clu_take l i hi]
    by_cases c : l[i] ≥ 2
    · rw [if_pos c, if_pos c, if_pos (by omega)]
    · rw [if_neg c, if_neg c]
theorem dW (l : List Int) (hl : l.length ≤ 1000000000) : Ev (fun k => bK.f k l) (clu l) := by
  unfold bK.f
  have h := ev_loop (g := fun k i => bK.l0 k (clu (l.take i)) l (l.length : Int) (i : Int)) (r := clu l) l.length ?_ ?_ l.length 0 (by omega) (by omega)
  · simpa [clu] using h
  · refine kX (f := fun _ => some (clu l)) (fun k => ?_) (ev_some _)
    simp only [bK.l0]; rw [if_neg (by omega), iL (by omega)]
  · intro i hi
    have hb := clu_take_length l i
    refine ⟨1, fun k => ⟨?_, by omega⟩⟩
    simp only [bK.l0]
    rw [if_pos (by omega), if_pos (by omega), if_pos (by omega), rdn l i hi, wnext i (by omega), clu_take l i hi]
    by_cases c : l[i] ≥ 2
    · rw [if_pos c, if_pos c, if_pos (by omega)]
    · rw [if_neg c, if_neg c]
theorem ev_askE {β : Type} {g : Nat → Nat → Option β} (n : Nat) (P : Nat → Bool) (r bad : β) (hend : Ev (fun k => g k n) r) (hstep : ∀ i, i < n → ∀ b, Ev (fun k => g k (i + 1)) b → Ev (fun k => g k i) (if P i = true then b else bad)) : Ev (fun k => g k 0) (if (iT n).all P = true then r else bad) := by
  have hgo : ∀ d i, i ≤ n → n - i = d → Ev (fun k => g k i) (if ((iT n).drop i).all P = true then r else bad) := by
    intro d
    induction d with
    | zero =>
      intro i hi hd
      have e : i = n := by omega
      subst e
      rw [iV (by simp)]; simp only [List.all_nil, if_true]; exact hend
    | succ d ih =>
      intro i hi hd
      have hlt : i < (iT n).length := by simp; omega
      have := hstep i (by omega) _ (ih (i + 1) (by omega) (by omega))
      rw [hP hlt, List.all_cons, mZ]
      cases hq : P i
      · rw [hq] at this; simpa using this
      · rw [hq] at this; simpa using this
  have := hgo n 0 (by omega) (by omega)
  rwa [lO] at this
theorem clu_in {l : List Int} (h : tableOK l = true) : ∀ c ∈ clu l, 0 ≤ c ∧ c < 24 := by
  unfold tableOK at h
  simp only [jT, jZ] at h
  intro c hc
  obtain ⟨x, hx, rfl⟩ := lG.1 hc
  obtain ⟨hx1, hx2⟩ := List.mem_filter.1 hx
  have := inB_iff.1 (h.2 x hx1)
  have h2 := of_decide_eq_true hx2
  rw [w64 (by omega) (by omega)]; omega
def bump (o : List Int) (c : Int) : List Int := o.set c.toNat (wrap64 (rd o c + 1))
def cnt (o : List Int) (cs : List Int) : List Int := cs.foldl bump o
def cntT (o : List Int) (ts : List (List Int)) : List Int := ts.foldl (fun o t => cnt o (clu t)) o
theorem cnt_length (o cs : List Int) : (cnt o cs).length = o.length := by
  unfold cnt
  induction cs generalizing o with
  | nil => rfl
  | cons c cs ih => rw [List.foldl_cons, ih]; simp [bump]
theorem cntT_length (o : List Int) (ts : List (List Int)) : (cntT o ts).length = o.length := by
  unfold cntT
  induction ts generalizing o with
  | nil => rfl
  | cons t ts ih => rw [List.foldl_cons, ih, cnt_length]
theorem cnt_take (o cs : List Int) (i : Nat) (h : i < cs.length) : cnt o (cs.take (i + 1)) = bump (cnt o (cs.take i)) cs[i] := by
  unfold cnt; rw [hV h, List.foldl_append]; rfl
theorem cntT_take (o : List Int) (ts : List (List Int)) (i : Nat) (h : i < ts.length) : cntT o (ts.take (i + 1)) = cnt (cntT o (ts.take i)) (clu ts[i]) := by
  unfold cntT; rw [hV h, List.foldl_append]; rfl
theorem rdL (ts : List (List Int)) (i : Nat) (h : i < ts.length) : dK ts (i : Int) = ts[i] := by simp [dK, h]
/-- The tables of an image. -/
def tabs (T : List Int) (S : List S60) : List (List Int) := T :: S.map (·.f1)
def zeros24 : List Int := List.replicate 24 0
theorem eC (R T : List Int) (S : List S60) (D : List Int) (hl : S.length ≤ 1000000000) : Ev (fun k => aW.f k R T S D) (S.map (·.f0)) := by
  unfold aW.f
  have h := ev_loop (g := fun k i => aW.l0 k ((S.map (·.f0)).take i) S (S.length : Int) (i : Int)) (r := S.map (·.f0)) S.length ?_ ?_ S.length 0 (by omega) (by omega)
  · simpa using h
  · refine kX (f := fun _ => some (S.map (·.f0))) (fun k => ?_) (ev_some _)
    simp only [aW.l0]
    rw [if_neg (by omega), iL (by simp)]
  · intro i hi
    refine ⟨1, fun k => ⟨?_, by omega⟩⟩
    simp only [aW.l0]
    rw [if_pos (by omega), if_pos (by omega), if_pos (by omega), if_pos (by simp; omega), rdE_Snap S i hi, wnext i (by omega), hV (by simpa using hi), List.getElem_map]
theorem dM (R T : List Int) (S : List S60) (D : List Int) (hl : S.length ≤ 1000000000) : Ev (fun k => aQ.f k R T S D) (tabs T S) := by
  unfold aQ.f
  have h := ev_loop (g := fun k i => aQ.l0 k ((tabs T S).take (i + 1)) S (S.length : Int) (i : Int)) (r := tabs T S) S.length ?_ ?_ S.length 0 (by omega) (by omega)
  · exact h
  · refine kX (f := fun _ => some (tabs T S)) (fun k => ?_) (ev_some _)
    simp only [aQ.l0]
    rw [if_neg (by omega), iL (by simp [tabs])]
  · intro i hi
    refine ⟨1, fun k => ⟨?_, by omega⟩⟩
    simp only [aQ.l0]
    have hl2 : ((tabs T S).take (i + 1)).length ≤ 1000000001 := by rw [mS]; omega
    rw [if_pos (by omega), if_pos (by omega), if_pos (by omega), if_pos (by omega), wnext i (by omega), rdE_Snap S i hi, hV (i := i + 1) (by simp [tabs]; omega)]
    simp [tabs]
theorem eD (R T : List Int) (S : List S60) (D : List Int) (hS : S.length ≤ 3) (ht : ∀ t ∈ tabs T S, tableOK t = true) : Ev (fun k => aI.f k R T S D) (cntT zeros24 (tabs T S)) := by
  unfold aI.f
  refine ev_pos (by omega) (ev_bind (dM R T S D (by omega)) ?_)
  have hlen : (tabs T S).length ≤ 4 := by simp [tabs]; omega
  have htab : ∀ t ∈ tabs T S, t.length ≤ 12 := fun t h => by
    have := ht t h
    unfold tableOK at this
    rw [jT] at this
    have := of_decide_eq_true this.1
    omega
  generalize tabs T S = ts at ht hlen htab
  refine ev_down (g := fun k i => aI.l0 k (cntT zeros24 (ts.take i)) ts (ts.length : Int) (i : Int)) ts.length ?_ ?_
  · refine kX (f := fun _ => some (cntT zeros24 ts)) (fun k => ?_) (ev_some _)
    simp only [aI.l0]; rw [if_neg (by omega), iL (by omega)]
  · intro i hi hr
    refine Ev.succ ?_
    simp only [aI.l0]
    have hm := iI hi
    refine ev_pos (by omega) (ev_pos (by omega) (ev_pos (by omega) ?_))
    rw [rdL ts i hi]
    refine ev_bind (dW _ (by have := htab _ hm; omega)) ?_
    have hc := clu_in (ht _ hm)
    have hcl : (clu ts[i]).length ≤ 12 := hU (clu_length _) (htab _ hm)
    rw [cntT_take _ _ _ hi] at hr
    have ho : (cntT zeros24 (ts.take i)).length = 24 := by rw [cntT_length]; rfl
    generalize clu ts[i] = cs at hc hcl hr
    generalize cntT zeros24 (ts.take i) = o at ho hr
    refine ev_down (g := fun k j => aI.l1 k (cnt o (cs.take j)) ts (ts.length : Int) (i : Int) cs (cs.length : Int) (j : Int)) cs.length ?_ ?_
    · refine kX (f := fun k => aI.l0 k (cnt o cs) ts (ts.length : Int) ((i + 1 : Nat) : Int)) (fun k => ?_) hr
      simp only [aI.l1]; rw [if_neg (by omega), iL (by omega), wnext i (by omega)]
    · intro j hj h2
      have hb := hc _ (iI hj)
      rw [cnt_take _ _ _ hj] at h2
      refine Ev.succ ?_
      simp only [aI.l1, rdn cs j hj]
      refine ev_pos (by omega) (ev_pos (by omega) (ev_pos (by omega) (ev_pos hb.1 (ev_pos (by rw [cnt_length]; omega) ?_))))
      rw [wnext j (by omega)]
      exact h2
theorem compact_full (zs : List (List UInt8)) : (lB zs).length = zs.length ↔ ∀ j, j < zs.length → mV zs.toArray j = true := by
  unfold lB Lib.compactUpTo
  rw [iA]
  constructor
  · intro h j hj
    have h2 : ((iT zs.length).filter (mV zs.toArray)).length = (iT zs.length).length := by rw [h, kI]
    exact (lF.1 h2) j (lP.2 hj)
  · intro h
    have : ((iT zs.length).filter (mV zs.toArray)).length = (iT zs.length).length := lF.2 (fun j hj => h j (lP.1 hj))
    rw [this, kI]
theorem sorted_nodup (ss : List (List UInt8)) : (lB (ss.mergeSort fun x y => decide (x ≤ y))).length = ss.length ↔ ss.Nodup := by
  have hp := List.mergeSort_perm ss (fun x y => decide (x ≤ y))
  have hs : (ss.mergeSort fun x y => decide (x ≤ y)).Pairwise (fun x y => decide (x ≤ y) = true) := List.pairwise_mergeSort (fun a b c h1 h2 => by
    simp only [decide_eq_true_eq] at *; exact List.le_trans h1 h2) (fun a b => by
    simp only [Bool.or_eq_true, decide_eq_true_eq]; exact List.le_total a b) ss
  rw [← hp.nodup_iff, ← hp.length_eq, compact_full]
  generalize (ss.mergeSort fun x y => decide (x ≤ y)) = s at hs
  have hle : ∀ i j (hi : i < j) (hj : j < s.length), s[i] ≤ s[j] := fun i j hi hj => by
    have := jM.1 hs i j (by omega) hj hi
    simpa using this
  constructor
  · intro h
    rw [kO, jM]
    intro i j hi hj hij e
    have h1 := h (i + 1) (by omega)
    have h2 : s[i]'hi = s[i + 1]'(by omega) := by
      refine List.le_antisymm (hle i (i + 1) (by omega) (by omega)) ?_
      by_cases c : i + 1 = j
      · subst c; rw [e]; exact List.le_refl _
      · rw [e]; exact hle (i + 1) j (by omega) hj
    simp [mV, h2, show i + 1 < s.length by omega, show i < s.length from hi] at h1
  · intro h j hj
    by_cases c : j = 0
    · subst c; simp [mV]
    · have hne : s[j]'hj ≠ s[j - 1]'(by omega) := by
        intro e
        have := jM.1 (kO.1 h) (j - 1) j (by omega) hj (by omega)
        exact this e.symm
      simp [mV, hj, show j - 1 < s.length by omega, hne]
def nmOK (t : ByteArray) : Bool := (iT t.size).all (fun i => inB (bt t (i : Int)) 97 122) && inB (t.size : Int) 1 6
theorem dR (t : ByteArray) (ht : t.size ≤ 1000000000) : Ev (fun k => bG.f k t) (nmOK t) := by
  unfold bG.f nmOK
  refine ev_all (g := fun k i => bG.l0 k t (i : Int)) (iT t.size) (fun i => inB (bt t (i : Int)) 97 122) _ ?_ ?_
  · refine kX (f := fun _ => some (inB (t.size : Int) 1 6)) (fun k => ?_) (ev_some _)
    simp only [bG.l0, l01In_eq, gH, kI]; rw [if_neg (by omega)]
  · intro i hi k
    rw [kI] at hi
    simp only [bG.l0, mZ]
    rw [if_pos (by omega), if_pos (by omega), wnext i (by omega)]
    unfold inB
    by_cases h1 : bt t (i : Int) < 97
    · rw [if_pos h1, if_neg (by simp; omega)]
    · rw [if_neg h1]
      by_cases h2 : bt t (i : Int) > 122
      · rw [if_pos h2, if_neg (by simp; omega)]
      · rw [if_neg h2, if_pos (by simp; omega)]
theorem eG (t : ByteArray) (ht : t.size ≤ 1000000000) : Ev (fun k => bM.f k t) (nmOK t) := by
  unfold bM.f nmOK
  refine ev_all (g := fun k i => bM.l0 k t (t.size : Int) (i : Int)) (iT t.size) (fun i => inB (bt t (i : Int)) 97 122) _ ?_ ?_
  · refine kX (f := fun _ => some (inB (t.size : Int) 1 6)) (fun k => ?_) (ev_some _)
    simp only [bM.l0, within_eq, gH, kI]; rw [if_neg (by omega)]
  · intro i hi k
    rw [kI] at hi
    simp only [bM.l0, mZ]
    rw [if_pos (by omega), if_pos (by omega), if_pos (by omega), wnext i (by omega)]
    unfold inB
    by_cases h1 : bt t (i : Int) < 97
    · rw [if_pos h1, if_neg (by simp; omega)]
    · rw [if_neg h1]
      by_cases h2 : bt t (i : Int) > 122
      · rw [if_pos h2, if_neg (by simp; omega)]
      · rw [if_neg h2, if_pos (by simp; omega)]
theorem ev_allO {α : Type} (p : Nat → α → Option Bool) (q : α → Bool) : ∀ l : List α, (∀ x ∈ l, Ev (fun k => p k x) (q x)) → Ev (fun k => allO (p k) l) (l.all q) := by
  intro l
  induction l with
  | nil => intro _; exact ev_some true
  | cons x xs ih =>
    intro h
    have hx := h x (by simp); have hxs := ih (fun y hy => h y (by simp [hy]))
    simp only [allO, List.all_cons]
    refine ev_bind hx ?_
    cases q x
    · exact ev_neg (by decide) (ev_some _)
    · exact ev_pos rfl (by simpa using hxs)
def namesOK (l : List ByteArray) : Bool := decide ((l.length : Int) ≤ 3) && (l.all nmOK && decide l.Nodup)
theorem areNames_ev (l : List ByteArray) (hl : l.length ≤ 1000000000) (hs : ∀ x ∈ l, x.size ≤ 1000000000) : Ev (fun k => bZ.f k l) (namesOK l) := by
  unfold bZ.f namesOK
  refine ev_pos (by omega) ?_
  by_cases h3 : (l.length : Int) ≤ 3
  · rw [decide_eq_true h3, jJ]
    refine ev_pos h3 (ev_bind (a := l.all nmOK) (by unfold cB.f; exact ev_allO _ _ l (fun x hx => eG x (hs x hx))) ?_)
    cases l.all nmOK
    · exact ev_neg (by decide) (ev_some _)
    · refine ev_pos rfl ?_
      have e : (((lB (bN l)).length : Int) == (l.length : Int)) = decide l.Nodup := by
        rw [Bool.eq_iff_iff, beq_iff_eq, decide_eq_true_eq]
        have hn : (l.map (·.data.toList)).Nodup ↔ l.Nodup := by
          have ht : ∀ a b : ByteArray, a.data.toList ≠ b.data.toList ↔ a ≠ b := fun a b => by
            constructor
            · intro h e; exact h (by rw [e])
            · intro h e; exact h (by cases a; cases b; simpa [Array.toList_inj] using e)
          unfold List.Nodup
          rw [List.pairwise_map]
          simp only [ht]
        rw [← hn, ← sorted_nodup (l.map (·.data.toList)), iA]
        unfold bN
        exact Int.ofNat_inj
      rw [e, jJ]; exact ev_some _
  · rw [decide_eq_false h3, mB]
    exact ev_neg h3 (ev_some _)
def refsOK (l : List Int) : Bool := l.all (fun n => inB n 0 15) && ((l.length : Int) == 24)
theorem eA (l : List Int) : cN.f l = some (refsOK l) := by
  have ha : cG.f l () = some (l.all (fun n => inB n 0 15)) := by
    unfold cG.f; exact allO_some _ _ (fun x _ => by simp only [dE.f, within_eq, gH])
  unfold cN.f refsOK
  by_cases h : (l.length : Int) = 24
  · rw [if_pos h, ha, show ((l.length : Int) == 24) = true from beq_iff_eq.2 h, Bool.and_true]; rfl
  · rw [if_neg h, show ((l.length : Int) == 24) = false from beq_eq_false_iff_ne.2 h, Bool.and_false]
theorem refs_len {l : List Int} (h : refsOK l = true) : l.length = 24 := by
  unfold refsOK at h; rw [jT, beq_iff_eq] at h; omega
theorem eH (l : List Int) (hl : l.length ≤ 1000000000) : Ev (fun k => dG.f k l) (decide (clu l).Nodup) := by
  unfold dG.f
  refine ev_bind (dW l hl) ?_
  have ht := clu_length l
  generalize clu l = t at ht
  refine ev_pos (by omega) ?_
  have e : (((lB (bV t)).length : Int) == (t.length : Int)) = decide t.Nodup := by
    rw [Bool.eq_iff_iff, beq_iff_eq, decide_eq_true_eq, ← sortedI_nodup t]
    unfold bV
    exact Int.ofNat_inj
  rw [e]; exact ev_some _
def once (l : List Int) : Bool := decide (clu l).Nodup
def isNum (n : Int) : Bool := inB n 0 2147483647
def near (R T : List Int) (S : List S60) (D : List Int) : Bool := refsOK R && (decide ((S.length : Int) ≤ 3) && (namesOK (S.map (·.f0)) && ((tabs T S).all (fun l => tableOK l && once l) && (((D.length : Int) == 24) && D.all isNum))))
theorem eI (R T : List Int) (S : List S60) (D : List Int) (hT : T.length ≤ 1000000000) (hS : S.length ≤ 1000000000) (hs : ∀ x ∈ S, x.f0.size ≤ 1000000000 ∧ x.f1.length ≤ 1000000000) :
    Ev (fun k => cH.f k R T S D) (near R T S D) := by
  have hD : bF.f D () = some (D.all isNum) := by unfold bF.f; exact allO_some _ _ (fun x _ => by simp only [cV.f, within_eq, gH]; rfl)
  have hts : ∀ l ∈ tabs T S, l.length ≤ 1000000000 := by
    intro l hl
    simp only [tabs, nX, lG] at hl
    rcases hl with rfl | ⟨x, hx, rfl⟩
    · exact hT
    · exact (hs x hx).2
  unfold cH.f near
  simp only [eA, gH, hD]
  cases refsOK R
  · exact ev_neg (by decide) (ev_some _)
  · refine ev_pos rfl ?_
    by_cases h3 : (S.length : Int) ≤ 3
    · rw [decide_eq_true h3]
      refine ev_pos h3 (ev_bind (eC R T S D hS) (ev_bind (areNames_ev _ (by simpa using hS) (fun x hx => by
        obtain ⟨y, hy, rfl⟩ := lG.1 hx; exact (hs y hy).1)) ?_))
      simp only [jJ]
      cases namesOK (S.map (·.f0))
      · exact ev_neg (by decide) (ev_some _)
      · refine ev_pos rfl (ev_bind (dM R T S D hS) (ev_bind (a := (tabs T S).all (fun l => tableOK l && once l)) (by
          unfold bA.f
          refine ev_allO _ _ _ (fun l hl => ?_)
          simp only [cI.f, dX, gH]
          cases tableOK l
          · exact ev_neg (by decide) (ev_some _)
          · exact ev_pos rfl (ev_bind (eH l (hts l hl)) (ev_some _))) ?_))
        simp only [jJ]
        cases (tabs T S).all (fun l => tableOK l && once l)
        · exact ev_neg (by decide) (ev_some _)
        · refine ev_pos rfl ?_
          by_cases h24 : (D.length : Int) = 24
          · rw [show ((D.length : Int) == 24) = true from beq_iff_eq.2 h24]
            exact ev_pos h24 (ev_some _)
          · rw [show ((D.length : Int) == 24) = false from beq_eq_false_iff_ne.2 h24]
            exact ev_neg h24 (ev_some _)
    · rw [decide_eq_false h3]; exact ev_neg h3 (ev_some _)
theorem near_tabs {R T : List Int} {S : List S60} {D : List Int} (h : near R T S D = true) : R.length = 24 ∧ S.length ≤ 3 ∧ (∀ t ∈ tabs T S, tableOK t = true) ∧ D.length = 24 := by
  unfold near at h
  simp only [jT, jZ, decide_eq_true_eq, beq_iff_eq] at h
  obtain ⟨h1, h2, _, h4, h5, _⟩ := h
  exact ⟨refs_len h1, by omega, fun t ht => (h4 t ht).1, by omega⟩
/-- How many tables have each cluster. -/
def counts (T : List Int) (S : List S60) : List Int := cntT zeros24 (tabs T S)
theorem counts_length (T : List Int) (S : List S60) : (counts T S).length = 24 := by unfold counts; rw [cntT_length]; rfl
def zeroD (R D : List Int) : Bool := (iT 24).all (fun i => if rd R (i : Int) = 0 then decide (rd D (i : Int) = 0) else true)
def imgOK (R T : List Int) (S : List S60) (D : List Int) : Bool := near R T S D && (decide (R = counts T S) && zeroD R D)
theorem equal_ev (a b : List Int) (ha : a.length = 24) (hb : b.length = 24) : Ev (fun k => aN.f k a b) (decide (a = b)) := by
  unfold aN.f
  refine ev_pos (by omega) ?_
  have h := ev_askE (g := fun k i => aN.l0 k a b (a.length : Int) (i : Int)) 24 (fun i => decide (rd a (i : Int) = rd b (i : Int))) true false ?_ ?_
  · have e : (if (iT 24).all (fun i => decide (rd a (i : Int) = rd b (i : Int))) = true then true else false) = decide (a = b) := by
      rw [Bool.eq_iff_iff]
      simp only [Bool.if_false_right, Bool.and_true, decide_eq_true_eq, jZ, lP]
      constructor
      · intro h
        refine List.ext_getElem (by omega) (fun i h1 h2 => ?_)
        have := h i (by omega)
        rwa [rdn a i h1, rdn b i h2] at this
      · rintro rfl i hi; rfl
    rw [e] at h; exact h
  · refine kX (f := fun _ => some true) (fun k => ?_) (ev_some _)
    simp only [aN.l0]; rw [if_neg (by omega)]
  · intro i hi r hr
    refine Ev.succ ?_
    simp only [aN.l0]
    refine ev_pos (by omega) (ev_pos (by omega) (ev_pos (by omega) (ev_pos (by omega) ?_)))
    rw [wnext i (by omega)]
    by_cases c : rd a (i : Int) = rd b (i : Int)
    · simp only [c]; simpa using hr
    · simp only [c]; simpa using ev_some false
theorem eO (R T : List Int) (S : List S60) (D : List Int) (hT : T.length ≤ 1000000000) (hS : S.length ≤ 1000000000) (hs : ∀ x ∈ S, x.f0.size ≤ 1000000000 ∧ x.f1.length ≤ 1000000000) :
    Ev (fun k => aJ.f k R T S D) (imgOK R T S D) := by
  unfold aJ.f imgOK
  refine ev_bind (eI R T S D hT hS hs) ?_
  cases hn : near R T S D
  · refine ev_neg (by decide) (Ev.succ ?_)
    simp only [aJ.j0, if_true, mB]; exact ev_some _
  · obtain ⟨n1, n2, n3, n4⟩ := near_tabs hn
    refine ev_pos rfl (ev_bind (eD R T S D n2 n3) (ev_bind (equal_ev R _ n1 (counts_length T S)) (Ev.succ ?_)))
    show Ev (fun k => aJ.j0 (k + 1) (!decide (R = counts T S)) R T S D) _
    simp only [aJ.j0, jJ]
    cases decide (R = counts T S)
    · exact ev_pos rfl (ev_some _)
    · refine ev_neg (by decide) ?_
      rw [jJ]
      have h := ev_askE (g := fun k i => aJ.l0 k D (D.length : Int) (i : Int) R T S D) 24 (fun i => if rd R (i : Int) = 0 then decide (rd D (i : Int) = 0) else true) true false ?_ ?_
      · have e : (if (iT 24).all (fun i => if rd R (i : Int) = 0 then decide (rd D (i : Int) = 0) else true) = true then true else false) = zeroD R D := by
          unfold zeroD
          cases (iT 24).all (fun i => if rd R (i : Int) = 0 then decide (rd D (i : Int) = 0) else true) <;> rfl
        rw [e] at h; exact h
      · refine kX (f := fun _ => some true) (fun k => ?_) (ev_some _)
        simp only [aJ.l0]; rw [if_neg (by omega)]
      · intro i hi b hb
        refine Ev.succ ?_
        simp only [aJ.l0]
        refine ev_pos (by omega) (ev_pos (by omega) (ev_pos (by omega) (ev_pos (by omega) ?_)))
        rw [wnext i (by omega)]
        by_cases c2 : rd R (i : Int) = 0
        · by_cases c3 : rd D (i : Int) = 0
          · simp only [c2, c3]; simpa using hb
          · simp only [c2, c3]; simpa using ev_some false
        · simp only [c2]; simpa using hb
def srcOK (at_ seed : Int) (n : Nat) : Prop := 0 ≤ at_ ∧ at_ ≤ (n : Int) ∧ 0 ≤ seed ∧ seed < 2147483648
theorem eJ (l : List Int) (h : ∀ x ∈ l, 0 ≤ x ∧ x ≤ 255) (i : Int) : 0 ≤ rd l i ∧ rd l i ≤ 255 := by
  unfold rd
  by_cases hi : i.toNat < l.length
  · have : l.getD i.toNat 0 = l[i.toNat] := by simp [hi]
    rw [this]; exact h _ (iI hi)
  · have : l.getD i.toNat 0 = 0 := by simp [hi]
    rw [this]; omega
theorem byte_ok (l : List Int) (h : ∀ x ∈ l, 0 ≤ x ∧ x ≤ 255) (at_ seed : Int) (n : Nat) (hs : srcOK at_ seed n) (hn : n ≤ 1000000000000) :
    ∃ r a s, bT.f l at_ seed = some (r, a, s) ∧ 0 ≤ r ∧ r ≤ 255 ∧ srcOK a s (n + 1) := by
  obtain ⟨h0, h1, h2, h3⟩ := hs
  unfold bT.f
  have e1 : wrap64 (at_ + 1) = at_ + 1 := w64 (by omega) (by omega)
  have e2 : wrap64 (at_ + 1 - 1) = at_ := by rw [w64 (by omega) (by omega)]; omega
  rw [e1, e2]
  by_cases c1 : at_ + 1 ≤ (l.length : Int)
  · rw [if_pos c1, if_pos h0, if_pos (by omega)]
    have hb := eJ l h at_
    generalize rd l at_ = v at hb ⊢
    have e3 : wrap64 v = v := w64 (by omega) (by omega)
    have e4 : wrap64 (seed * 31) = seed * 31 := w64 (by omega) (by omega)
    rw [e3, e4]
    have e5 : wrap64 (seed * 31 + v) = seed * 31 + v := w64 (by omega) (by omega)
    rw [e5]
    have e6 : wrap64 (seed * 31 + v + 7) = seed * 31 + v + 7 := w64 (by omega) (by omega)
    rw [e6]
    refine ⟨_, _, _, rfl, hb.1, hb.2, by omega, by omega, ?_, ?_⟩
    · rw [jU (by omega)]; omega
    · rw [jU (by omega)]; omega
  · rw [if_neg c1]
    by_cases c2 : at_ + 1 > 3000
    · rw [if_pos c2]; exact ⟨_, _, _, rfl, by omega, by omega, by omega, by omega, h2, h3⟩
    · rw [if_neg c2]
      have e4 : wrap64 (seed * 1103515245) = seed * 1103515245 := w64 (by omega) (by omega)
      rw [e4]
      have e6 : wrap64 (seed * 1103515245 + 12345) = seed * 1103515245 + 12345 := w64 (by omega) (by omega)
      rw [e6, jU (by omega : 0 ≤ seed * 1103515245 + 12345)]
      have hq0 : 0 ≤ (seed * 1103515245 + 12345) % 2147483648 := by omega
      have hq1 : (seed * 1103515245 + 12345) % 2147483648 < 2147483648 := by omega
      generalize (seed * 1103515245 + 12345) % 2147483648 = q at hq0 hq1 ⊢
      rw [Int.tdiv_eq_ediv_of_nonneg hq0]
      have e7 : wrap64 (q / 65536) = q / 65536 := w64 (by omega) (by omega)
      rw [e7, jU (by omega)]
      exact ⟨_, _, _, rfl, by omega, by omega, by omega, by omega, hq0, hq1⟩
theorem srcOK_mono {a s : Int} {n m : Nat} (h : srcOK a s n) (hm : n ≤ m) : srcOK a s m := ⟨h.1, by have := h.2.1; omega, h.2.2.1, h.2.2.2⟩
theorem tmod_range {x n : Int} (h0 : 0 ≤ x) (hn : 0 < n) : 0 ≤ Int.tmod x n ∧ Int.tmod x n < n := by
  rw [jU h0]; exact ⟨Int.emod_nonneg _ (by omega), Int.emod_lt_of_pos _ hn⟩
theorem next_ok (l : List Int) (h : ∀ x ∈ l, 0 ≤ x ∧ x ≤ 255) (at_ seed : Int) (n : Nat) (hs : srcOK at_ seed n) (hn : n ≤ 100000000000) (m : Int) :
    ∃ r a s, aD.f l at_ seed m = some (r, a, s) ∧ 0 ≤ r ∧ (m ≤ 1 → r = 0) ∧ (1 ≤ m → r < m) ∧ srcOK a s (n + 3) := by
  unfold aD.f
  by_cases c1 : m ≤ 1
  · rw [if_pos c1]; exact ⟨_, _, _, rfl, by omega, fun _ => rfl, fun _ => by omega, srcOK_mono hs (by omega)⟩
  · rw [if_neg c1]
    obtain ⟨r, a, s, e, r0, r1, ho⟩ := byte_ok l h at_ seed n hs (by omega)
    by_cases c2 : m ≤ 256
    · rw [if_pos c2, e, gH, if_neg (by omega)]
      have := tmod_range r0 (show 0 < m by omega)
      exact ⟨_, _, _, rfl, this.1, fun h => absurd h c1, fun _ => this.2, srcOK_mono ho (by omega)⟩
    · rw [if_neg c2, e, gH]
      obtain ⟨r', a', s', e', r0', r1', ho'⟩ := byte_ok l h a s (n + 1) ho (by omega)
      rw [e', gH]
      obtain ⟨r'', a'', s'', e'', r0'', r1'', ho''⟩ := byte_ok l h a' s' (n + 2) ho' (by omega)
      rw [e'', gH, if_neg (by omega)]
      dsimp only
      have x1 : wrap64 (r * 65536) = r * 65536 := w64 (by omega) (by omega)
      have x2 : wrap64 (r' * 256) = r' * 256 := w64 (by omega) (by omega)
      rw [x1, x2]
      have x3 : wrap64 (r * 65536 + r' * 256) = r * 65536 + r' * 256 := w64 (by omega) (by omega)
      rw [x3]
      have x4 : wrap64 (r * 65536 + r' * 256 + r'') = r * 65536 + r' * 256 + r'' := w64 (by omega) (by omega)
      rw [x4]
      have := tmod_range (show 0 ≤ r * 65536 + r' * 256 + r'' by omega) (show 0 < m by omega)
      exact ⟨_, _, _, rfl, this.1, fun h => absurd h c1, fun _ => this.2, ho''⟩
theorem source_ok (l : List Int) : srcOK 0 ((l.length : Int) % 1000) 0 := ⟨by omega, by omega, by omega, by omega⟩
theorem bytes_of {l : List Int} (h : ∀ x ∈ l, (Lit.int .u8 x).wf = true) : ∀ x ∈ l, 0 ≤ x ∧ x ≤ 255 := by
  intro x hx
  have := h x hx
  simp [Lit.wf, IntKind.min, IntKind.max, IntKind.signed, IntKind.bits] at this
  omega
theorem table_of {l : List Int} (hl : l.length ≤ 12) (hx : ∀ x ∈ l, 0 ≤ x ∧ x ≤ 25) : tableOK l = true := by
  unfold tableOK
  rw [decide_eq_true (by omega), jJ, jZ]
  exact fun x hm => inB_iff.2 (hx x hm)
def oc (t : List Int) (c : Nat) : Nat := t.count ((c : Int) + 2)
def toc (T : List Int) (S : List S60) (c : Nat) : Nat := oc T c + (S.map (fun x => oc x.f1 c)).sum
structure Wt (w : Nat → Nat) (R D : List Int) : Prop where
  r : R.length = 24
  d : D.length = 24
  c : ∀ c : Nat, c < 24 → rd R (c : Int) = (w c : Int)
  z : ∀ c : Nat, c < 24 → w c = 0 → rd D (c : Int) = 0
  n : ∀ x ∈ D, isNum x = true
  b : ∀ c, c < 24 → w c ≤ 100
structure Good (t : List Int) : Prop where
  l : t.length ≤ 12
  e : ∀ x ∈ t, 0 ≤ x ∧ x ≤ 25
  o : ∀ c, c < 24 → oc t c ≤ 1
structure Rt (R T : List Int) (S : List S60) (D : List Int) : Prop where
  w : Wt (toc T S) R D
  t : Good T
  s : ∀ x ∈ S, Good x.f1 ∧ nmOK x.f0 = true ∧ x.f0.size ≤ 6
  l : S.length ≤ 3
  u : (S.map (·.f0)).Nodup
theorem Wt.congr {w w' : Nat → Nat} {R D : List Int} (h : Wt w R D) (hw : ∀ c, c < 24 → w' c = w c) : Wt w' R D :=
  ⟨h.r, h.d, fun c hc => by rw [hw c hc]; exact h.c c hc, fun c hc h0 => h.z c hc (by rw [← hw c hc]; exact h0), h.n, fun c hc => by rw [hw c hc]; exact h.b c hc⟩
theorem dP (l : List Int) (i c : Nat) (x : Int) (hi : i < l.length) : rd (l.set i x) (c : Int) = if i = c then x else rd l (c : Int) := by
  unfold rd
  simp only [iX, nN, List.getElem?_set]
  by_cases h : i = c
  · subst h; simp [hi]
  · simp [h]
theorem num_set {D : List Int} {i : Nat} {x : Int} (h : ∀ y ∈ D, isNum y = true) (hx : isNum x = true) : ∀ y ∈ D.set i x, isNum y = true := by
  intro y hy
  rcases List.mem_or_eq_of_mem_set hy with hy | rfl
  · exact h y hy
  · exact hx
theorem drop_ok {w : Nat → Nat} {R D : List Int} (T : List Int) (S : List S60) (h : Wt w R D) (e : Int) (h0 : 0 ≤ e) (h1 : e ≤ 25) (hw : ∀ c : Nat, c < 24 → e = (c : Int) + 2 → 1 ≤ w c) :
    ∃ R' D', cC.f R T S D e = some (R', T, S, D') ∧ Wt (fun c => w c - if e = (c : Int) + 2 then 1 else 0) R' D' := by
  have hr := h.r; have hd := h.d
  unfold cC.f
  by_cases c2 : e < 2
  · rw [if_pos c2]
    refine ⟨R, D, rfl, h.congr fun c _ => ?_⟩
    rw [if_neg (by omega)]; rfl
  · rw [if_neg c2]
    obtain ⟨c, rfl⟩ : ∃ c : Nat, e = (c : Int) + 2 := ⟨(e - 2).toNat, by omega⟩
    have hc : c < 24 := by omega
    have hw1 := hw c hc rfl; have hb := h.b c hc
    have ew : wrap64 ((c : Int) + 2 - 2) = (c : Int) := by rw [w64 (by omega) (by omega)]; omega
    simp only [ew]
    rw [if_pos (by omega), if_pos (by omega), h.c c hc, w64 (n := (w c : Int) - 1) (by omega) (by omega), gH, iX, dP R c c _ (by omega), if_pos rfl]
    have hW : ∀ x : Nat, x < 24 → rd (R.set c ((w c : Int) - 1)) (x : Int) = ((w x - if (c : Int) + 2 = (x : Int) + 2 then 1 else 0 : Nat) : Int) := by
      intro x hx
      rw [dP R c x _ (by omega)]
      by_cases hcx : c = x
      · subst hcx; rw [if_pos rfl, if_pos rfl]; omega
      · rw [if_neg hcx, if_neg (by omega), h.c x hx]; rfl
    by_cases c0 : (w c : Int) - 1 = 0
    · rw [if_pos c0, if_pos (by omega)]
      refine ⟨_, _, rfl, by simp [hr], by simp [hd], hW, ?_, num_set h.n (by decide), fun x hx => hU (Nat.sub_le _ _) (h.b x hx)⟩
      intro x hx hz
      rw [dP D c x _ (by omega)]
      by_cases hcx : c = x
      · rw [if_pos hcx]
      · rw [if_neg hcx]
        rw [if_neg (by omega)] at hz
        exact h.z x hx hz
    · rw [if_neg c0]
      refine ⟨_, _, rfl, by simp [hr], hd, hW, ?_, h.n, fun x hx => hU (Nat.sub_le _ _) (h.b x hx)⟩
      intro x hx hz
      by_cases hcx : c = x
      · subst hcx; rw [if_pos rfl] at hz; omega
      · rw [if_neg (by omega)] at hz
        exact h.z x hx hz
theorem oc_cons (x : Int) (t : List Int) (c : Nat) : oc (x :: t) c = oc t c + if x = (c : Int) + 2 then 1 else 0 := by
  unfold oc
  rw [List.count_cons]
  simp only [beq_iff_eq]
theorem drops_ok (T : List Int) (S : List S60) (t : List Int) (ht : ∀ x ∈ t, 0 ≤ x ∧ x ≤ 25) {β : Type} (g : Nat → Nat → List Int → List Int → Option β)
    (hg : ∀ i (hi : i < t.length) k R D R' D', cC.f R T S D t[i] = some (R', T, S, D') → g (k + 1) i R D = g k (i + 1) R' D') :
    ∀ d i (w : Nat → Nat) R D, i ≤ t.length → t.length - i = d → Wt w R D → (∀ c, c < 24 → oc (t.drop i) c ≤ w c) →
    ∃ R' D', Wt (fun c => w c - oc (t.drop i) c) R' D' ∧ ∀ r, Ev (fun k => g k t.length R' D') r → Ev (fun k => g k i R D) r := by
  intro d
  induction d with
  | zero =>
    intro i w R D hi hd h hw
    have e : i = t.length := by omega
    subst e
    refine ⟨R, D, h.congr fun c _ => ?_, fun r hr => hr⟩
    rw [List.drop_length]; rfl
  | succ d ih =>
    intro i w R D hi hd h hw
    have hlt : i < t.length := by omega
    have hx := ht _ (iI hlt)
    rw [hP hlt] at hw
    simp only [oc_cons] at hw
    obtain ⟨R1, D1, e1, h1⟩ := drop_ok T S h t[i] hx.1 hx.2 (fun c hc he => by have := hw c hc; rw [if_pos he] at this; omega)
    obtain ⟨R2, D2, h2, k2⟩ := ih (i + 1) _ R1 D1 (by omega) (by omega) h1 (fun c hc => by have := hw c hc; omega)
    refine ⟨R2, D2, h2.congr fun c _ => ?_, fun r hr => kX (f := fun k => g k (i + 1) R1 D1) (fun k => hg i hlt k R D R1 D1 e1) (k2 r hr)⟩
    rw [hP hlt, oc_cons]
    omega
theorem clu_count (t : List Int) (ht : ∀ x ∈ t, 0 ≤ x ∧ x ≤ 25) (c : Nat) : (clu t).count (c : Int) = oc t c := by
  induction t with
  | nil => rfl
  | cons x t ih =>
    have hx := ht x (by simp); have ih := ih (fun y hy => ht y (by simp [hy]))
    rw [oc_cons, ← ih]
    unfold clu
    by_cases c2 : x ≥ 2
    · rw [List.filter_cons_of_pos (by simpa using c2), jY, List.count_cons, w64 (n := x - 2) (by omega) (by omega)]
      congr 1
      by_cases e : x = (c : Int) + 2
      · rw [if_pos e, if_pos (by simp; omega)]
      · rw [if_neg e, if_neg (by simp; omega)]
    · rw [List.filter_cons_of_neg (by simpa using c2), if_neg (by omega)]; rfl
theorem eP : ∀ (cs o : List Int), o.length = 24 → (∀ x ∈ cs, 0 ≤ x ∧ x < 24) → (∀ c : Nat, c < 24 → 0 ≤ rd o (c : Int) ∧ rd o (c : Int) + (cs.count (c : Int) : Int) ≤ 1000000) → ∀ c : Nat, c < 24 → rd (cnt o cs) (c : Int) = rd o (c : Int) + (cs.count (c : Int) : Int) := by
  intro cs
  induction cs with
  | nil => intro o _ _ _ c _; show rd o (c : Int) = _; simp
  | cons x cs ih =>
    intro o ho hx hb c hc
    obtain ⟨h0, h1⟩ := hx x (by simp)
    obtain ⟨j, rfl⟩ : ∃ j : Nat, x = (j : Int) := ⟨x.toNat, by omega⟩
    have hj : j < 24 := by omega
    have hbj := hb j hj
    have e1 : bump o (j : Int) = o.set j (rd o (j : Int) + 1) := by unfold bump; rw [w64 (by omega) (by omega), iX]
    have hs : ∀ y : Nat, y < 24 → rd (bump o (j : Int)) (y : Int) = rd o (y : Int) + if j = y then 1 else 0 := by
      intro y hy
      rw [e1, dP o j y _ (by omega)]
      by_cases hjy : j = y
      · subst hjy; rw [if_pos rfl, if_pos rfl]
      · rw [if_neg hjy, if_neg hjy]; omega
    have hcc : ∀ y : Nat, (((j : Int) :: cs).count (y : Int) : Int) = (cs.count (y : Int) : Int) + if j = y then 1 else 0 := by
      intro y
      rw [List.count_cons]
      by_cases hjy : j = y
      · subst hjy; simp
      · rw [if_neg (by simp; omega), if_neg hjy]; simp
    have := ih (bump o (j : Int)) (by rw [e1]; simpa using ho) (fun y hy => hx y (by simp [hy])) (fun y hy => by
      have h2 := hb y hy
      rw [hcc] at h2
      rw [hs y hy]
      by_cases hjy : j = y
      · rw [if_pos hjy] at h2 ⊢; omega
      · rw [if_neg hjy] at h2 ⊢; omega) c hc
    show rd (cnt (bump o (j : Int)) cs) (c : Int) = _
    rw [this, hs c hc, hcc]
    omega
theorem raise_ok {w : Nat → Nat} {R D : List Int} (T : List Int) (S : List S60) (h : Wt w R D) (t : List Int) (hl : t.length ≤ 12) (ht : ∀ x ∈ t, 0 ≤ x ∧ x ≤ 25) (hw : ∀ c, c < 24 → w c + oc t c ≤ 100) :
    ∃ R', Ev (fun k => aV.f k R T S D t) (R', T, S, D) ∧ Wt (fun c => w c + oc t c) R' D := by
  have hr := h.r
  have htab : tableOK t = true := table_of hl ht
  have hci := clu_in htab; have hcl := clu_length t
  have hcc : ∀ c : Nat, (clu t).count (c : Int) = oc t c := clu_count t ht
  have hcnt := eP (clu t) R hr hci (fun c hc => by rw [h.c c hc, hcc]; have := hw c hc; omega)
  refine ⟨cnt R (clu t), ?_, by rw [cnt_length]; exact hr, h.d, fun c hc => by rw [hcnt c hc, h.c c hc, hcc]; omega, fun c hc h0 => h.z c hc (by omega), h.n, hw⟩
  unfold aV.f
  refine ev_bind (eK t (by omega)) ?_
  generalize clu t = cs at hci hcl
  refine ev_down (g := fun k j => aV.l0 k cs (j : Int) (cnt R (cs.take j)) T S D) cs.length ?_ ?_
  · refine kX (f := fun _ => some (cnt R cs, T, S, D)) (fun k => ?_) (ev_some _)
    simp only [aV.l0]; rw [if_neg (by omega), iL (by omega)]
  · intro j hj h2
    have hb := hci _ (iI hj)
    rw [cnt_take _ _ _ hj] at h2
    refine Ev.succ ?_
    simp only [aV.l0, rdn cs j hj]
    refine ev_pos (by omega) (ev_pos (by omega) (ev_pos hb.1 (ev_pos (by rw [cnt_length]; omega) ?_)))
    rw [wnext j (by omega)]
    exact h2
theorem eQ : ∀ (ts : List (List Int)) (o : List Int), o.length = 24 → (∀ t ∈ ts, t.length ≤ 12 ∧ ∀ x ∈ t, 0 ≤ x ∧ x ≤ 25) → (∀ c : Nat, c < 24 → 0 ≤ rd o (c : Int) ∧ rd o (c : Int) + (((ts.map (fun t => oc t c)).sum : Nat) : Int) ≤ 1000000) → ∀ c : Nat, c < 24 → rd (cntT o ts) (c : Int) = rd o (c : Int) + (((ts.map (fun t => oc t c)).sum : Nat) : Int) := by
  intro ts
  induction ts with
  | nil => intro o _ _ _ c _; show rd o (c : Int) = _; simp
  | cons t ts ih =>
    intro o ho ht hb c hc
    obtain ⟨h1, h2⟩ := ht t (by simp)
    have hci := clu_in (table_of h1 h2)
    have hcc : ∀ c : Nat, (clu t).count (c : Int) = oc t c := clu_count t h2
    have hm : ∀ y : Nat, (((t :: ts).map (fun t => oc t y)).sum : Nat) = oc t y + (ts.map (fun t => oc t y)).sum := fun y => by rw [jY, List.sum_cons]
    have hcnt := eP (clu t) o ho hci (fun y hy => by have := hb y hy; rw [hm] at this; rw [hcc]; omega)
    have := ih (cnt o (clu t)) (by rw [cnt_length]; exact ho) (fun u hu => ht u (by simp [hu])) (fun y hy => by
      have h3 := hb y hy
      rw [hm] at h3
      rw [hcnt y hy, hcc]
      omega) c hc
    show rd (cntT (cnt o (clu t)) ts) (c : Int) = _
    rw [this, hcnt c hc, hcc, hm]
    omega
theorem sum_le : ∀ (S : List S60) (c : Nat), (∀ x ∈ S, oc x.f1 c ≤ 1) → (S.map (fun x => oc x.f1 c)).sum ≤ S.length := by
  intro S c
  induction S with
  | nil => intro _; simp
  | cons x S ih =>
    intro h
    have h1 := h x (by simp); have h2 := ih (fun y hy => h y (by simp [hy]))
    rw [jY, List.sum_cons, List.length_cons]
    omega
theorem Rt.few {R T : List Int} {S : List S60} {D : List Int} (h : Rt R T S D) (c : Nat) (hc : c < 24) : toc T S c ≤ 4 := by
  have h1 := h.t.o c hc; have h2 := sum_le S c (fun x hx => (h.s x hx).1.o c hc); have h3 := h.l
  unfold toc
  omega
theorem eT {a b : List Int} (ha : a.length = 24) (hb : b.length = 24) (h : ∀ c : Nat, c < 24 → rd a (c : Int) = rd b (c : Int)) : a = b := by
  refine List.ext_getElem (by omega) (fun i h1 h2 => ?_)
  have := h i (by omega)
  rwa [rdn a i h1, rdn b i h2] at this
theorem once_of {t : List Int} (h : Good t) : once t = true := by
  unfold once
  rw [decide_eq_true_eq, List.nodup_iff_count]
  intro a
  by_cases ha : a ∈ clu t
  · have hb := clu_in (table_of h.l h.e) a ha
    obtain ⟨j, rfl⟩ : ∃ j : Nat, a = (j : Int) := ⟨a.toNat, by omega⟩
    rw [clu_count t h.e]
    exact h.o j (by omega)
  · rw [List.count_eq_zero_of_not_mem ha]; omega
/-- Right but for counts: whatever the counts are, if they are small. -/
theorem near_of {R T : List Int} {S : List S60} {D : List Int} (hR : R.length = 24) (hr : ∀ x ∈ R, 0 ≤ x ∧ x ≤ 15) (ht : Good T) (hs : ∀ x ∈ S, Good x.f1 ∧ nmOK x.f0 = true ∧ x.f0.size ≤ 6) (hl : S.length ≤ 3) (hu : (S.map (·.f0)).Nodup) (hD : D.length = 24) (hn : ∀ x ∈ D, isNum x = true) : near R T S D = true := by
  unfold near refsOK namesOK
  simp only [jT, jZ, decide_eq_true_eq, beq_iff_eq, iA]
  refine ⟨⟨fun x hx => inB_iff.2 (hr x hx), by omega⟩, by omega, ⟨by omega, ?_, hu⟩, ?_, by omega, hn⟩
  · intro x hx
    obtain ⟨y, hy, rfl⟩ := lG.1 hx
    exact (hs y hy).2.1
  · intro t hm
    simp only [tabs, nX, lG] at hm
    have hg : Good t := by
      rcases hm with rfl | ⟨x, hx, rfl⟩
      · exact ht
      · exact (hs x hx).1
    exact ⟨table_of hg.l hg.e, once_of hg⟩
theorem counts_rd {R T : List Int} {S : List S60} {D : List Int} (h : Rt R T S D) (c : Nat) (hc : c < 24) : rd (counts T S) (c : Int) = (toc T S c : Int) := by
  have hz : ∀ y : Nat, y < 24 → rd zeros24 (y : Int) = 0 := by
    intro y hy
    unfold rd zeros24
    simp only [iX, nN, List.getElem?_replicate]
    rw [if_pos hy]; rfl
  have hm : ∀ y : Nat, ((tabs T S).map (fun t => oc t y)).sum = toc T S y := by
    intro y
    unfold tabs toc
    rw [jY, List.sum_cons, List.map_map]; rfl
  unfold counts
  rw [eQ (tabs T S) zeros24 rfl ?_ ?_ c hc, hz c hc, hm]
  · omega
  · intro t ht
    simp only [tabs, nX, lG] at ht
    rcases ht with rfl | ⟨x, hx, rfl⟩
    · exact ⟨h.t.l, h.t.e⟩
    · exact ⟨(h.s x hx).1.l, (h.s x hx).1.e⟩
  · intro y hy
    rw [hz y hy, hm]
    have := h.few y hy
    omega
theorem Rt.mem {R T : List Int} {S : List S60} {D : List Int} (h : Rt R T S D) : ∀ x ∈ R, 0 ≤ x ∧ x ≤ 4 := by
  intro x hx
  obtain ⟨i, hi, rfl⟩ := List.getElem_of_mem hx
  have hr := h.w.r; have h1 := h.w.c i (by omega); have h2 := h.few i (by omega)
  rw [rdn R i hi] at h1
  omega
theorem Rt.near {R T : List Int} {S : List S60} {D : List Int} (h : Rt R T S D) : near R T S D = true :=
  near_of h.w.r (fun x hx => by have := h.mem x hx; omega) h.t h.s h.l h.u h.w.d h.w.n
theorem Rt.counts {R T : List Int} {S : List S60} {D : List Int} (h : Rt R T S D) : R = counts T S :=
  eT h.w.r (counts_length T S) (fun c hc => by rw [h.w.c c hc, counts_rd h c hc])
theorem own_ev (R T : List Int) (S : List S60) (D : List Int) (hR : R.length ≤ 1000000) (hT : T.length ≤ 1000000) (hS : S.length ≤ 1000000) (hD : D.length ≤ 1000000) (hs : ∀ x ∈ S, x.f1.length ≤ 1000000) : Ev (fun k => aE.f k R T S D) (R, T, S, D) := by
  unfold aE.f
  simp only [gH, nA, mJ]
  refine ev_pos (by omega) (ev_pos (by omega) (ev_pos (by omega) ?_))
  refine ev_down (g := fun k i => aE.l0 k (i : Int) R T S D R T (S.take i) D) S.length ?_ ?_
  · refine kX (f := fun _ => some (R, T, S, D)) (fun k => ?_) (ev_some _)
    simp only [aE.l0]; rw [if_neg (by omega), List.take_length]
  · intro i hi h
    refine Ev.succ ?_
    have hl : (S.take i).length ≤ 1000000 := hU (by rw [mS]; omega) hS
    have hm := hs _ (iI hi)
    simp only [aE.l0, rdE_Snap S i hi, gH, nA, mJ]
    refine ev_pos (by omega) (ev_pos (by omega) (ev_pos (by omega) (ev_pos (by omega) ?_)))
    rw [wnext i (by omega)]
    rw [hV hi] at h
    exact h
theorem Rt.own {R T : List Int} {S : List S60} {D : List Int} (h : Rt R T S D) : Ev (fun k => aE.f k R T S D) (R, T, S, D) := by
  have h1 := h.w.r; have h2 := h.w.d; have h3 := h.t.l; have h4 := h.l
  exact own_ev R T S D (by omega) (by omega) (by omega) (by omega) (fun x hx => by have := (h.s x hx).1.l; omega)
theorem free_ev (R : List Int) (hR : R.length = 24) : ∃ r, Ev (fun k => bP.f k R) r ∧ (r = -1 ∨ ∃ c : Nat, r = (c : Int) ∧ c < 24 ∧ rd R (c : Int) = 0) := by
  unfold bP.f
  have key : ∀ d i : Nat, i ≤ 24 → 24 - i = d → ∃ r, Ev (fun k => bP.l0 k R (i : Int)) r ∧ (r = -1 ∨ ∃ c : Nat, r = (c : Int) ∧ c < 24 ∧ rd R (c : Int) = 0) := by
    intro d
    induction d with
    | zero =>
      intro i hi hd
      refine ⟨-1, kX (f := fun _ => some (-1)) (fun k => ?_) (ev_some _), .inl rfl⟩
      simp only [bP.l0]; rw [if_neg (by omega)]
    | succ d ih =>
      intro i hi hd
      have h0 : 0 ≤ (i : Int) := by omega
      have h1 : (i : Int) < (R.length : Int) := by omega
      have hw := wnext i (by omega)
      have hi24 : i < 24 := by omega
      obtain ⟨r, h, hr⟩ := ih (i + 1) (by omega) (by omega)
      by_cases hz : rd R (i : Int) = 0
      · refine ⟨(i : Int), kX (f := fun _ => some (i : Int)) (fun k => ?_) (ev_some _), .inr ⟨i, rfl, hi24, hz⟩⟩
        simp only [bP.l0]; rw [if_pos h1, if_pos h0, if_pos hz]
      · refine ⟨r, kX (f := fun k => bP.l0 k R ((i + 1 : Nat) : Int)) (fun k => ?_) h, hr⟩
        simp only [bP.l0]; rw [if_pos h1, if_pos h0, if_neg hz, hw]
  exact key 24 0 (by omega) (by omega)
theorem find_ev (R T : List Int) (S : List S60) (D : List Int) (nm_ : ByteArray) (hS : S.length ≤ 1000) : ∃ r, Ev (fun k => bE.f k R T S D nm_) r ∧ (r = -1 ∧ (∀ x ∈ S, x.f0 ≠ nm_) ∨ ∃ c : Nat, r = (c : Int) ∧ c < S.length) := by
  unfold bE.f
  have key : ∀ d i : Nat, i ≤ S.length → S.length - i = d → ∃ r, Ev (fun k => bE.l0 k nm_ (i : Int) R T S D) r ∧ (r = -1 ∧ (∀ x ∈ S.drop i, x.f0 ≠ nm_) ∨ ∃ c : Nat, r = (c : Int) ∧ c < S.length) := by
    intro d
    induction d with
    | zero =>
      intro i hi hd
      refine ⟨-1, kX (f := fun _ => some (-1)) (fun k => ?_) (ev_some _), .inl ⟨rfl, ?_⟩⟩
      · simp only [bE.l0]; rw [if_neg (by omega)]
      · rw [iV (by omega)]; simp
    | succ d ih =>
      intro i hi hd
      have hlt : i < S.length := by omega
      have h0 : 0 ≤ (i : Int) := by omega
      have h1 : (i : Int) < (S.length : Int) := by omega
      have hw := wnext i (by omega)
      obtain ⟨r, h, hr⟩ := ih (i + 1) (by omega) (by omega)
      by_cases hz : S[i].f0 = nm_
      · refine ⟨(i : Int), kX (f := fun _ => some (i : Int)) (fun k => ?_) (ev_some _), .inr ⟨i, rfl, hlt⟩⟩
        simp only [bE.l0, rdE_Snap S i hlt]; rw [if_pos h1, if_pos h0, if_pos (by rw [hz])]
      · refine ⟨r, kX (f := fun k => bE.l0 k nm_ ((i + 1 : Nat) : Int) R T S D) (fun k => ?_) h, ?_⟩
        · simp only [bE.l0, rdE_Snap S i hlt]; rw [if_pos h1, if_pos h0, if_neg (fun e => hz (toList_inj.1 e)), hw]
        · rcases hr with ⟨hr, ha⟩ | hr
          · refine .inl ⟨hr, ?_⟩
            rw [hP hlt]
            intro x hx
            rcases nX.1 hx with rfl | hx
            · exact hz
            · exact ha x hx
          · exact .inr hr
  have := key S.length 0 (by omega) (by omega)
  rwa [lO] at this
/-- A table with one entry changed. -/
theorem oc_set (T : List Int) (g : Nat) (hg : g < T.length) (x : Int) (c : Nat) : oc (T.set g x) c + (if T[g] = (c : Int) + 2 then 1 else 0) = oc T c + (if x = (c : Int) + 2 then 1 else 0) := by
  induction T generalizing g with
  | nil => simp at hg
  | cons y T ih =>
    cases g with
    | zero =>
      simp only [zz, List.getElem_cons_zero, oc_cons]
      omega
    | succ g =>
      have := ih g (by simpa using hg)
      simp only [zt, List.getElem_cons_succ, oc_cons]
      omega
theorem oc_pos {T : List Int} {g : Nat} (hg : g < T.length) {c : Nat} (h : T[g] = (c : Int) + 2) : 1 ≤ oc T c := by
  unfold oc
  exact List.count_pos_iff.2 (by rw [← h]; exact iI hg)
theorem good_set {T : List Int} (h : Good T) (g : Nat) (hg : g < T.length) (x : Int) (h0 : 0 ≤ x) (h1 : x ≤ 25) (hx : ∀ c : Nat, c < 24 → x = (c : Int) + 2 → oc T c = 0) : Good (T.set g x) := by
  refine ⟨by simpa using h.l, fun y hy => ?_, fun c hc => ?_⟩
  · rcases List.mem_or_eq_of_mem_set hy with hy | rfl
    · exact h.e y hy
    · exact ⟨h0, h1⟩
  · have := oc_set T g hg x c
    have h2 := h.o c hc
    by_cases e : x = (c : Int) + 2
    · have := hx c hc e
      rw [if_pos e] at *
      omega
    · rw [if_neg e] at *
      omega
theorem zero_ok {R T : List Int} {S : List S60} {D : List Int} (h : Rt R T S D) (g : Nat) (hg : g < T.length) : ∃ R' D', Ev (fun k => cD.f k R T S D (g : Int)) (R', T.set g 1, S, D') ∧ Rt R' (T.set g 1) S D' := by
  have he := h.t.e _ (iI hg); have hgl := h.t.l
  have hge : ∀ c : Nat, c < 24 → T[g] = (c : Int) + 2 → 1 ≤ toc T S c := fun c hc e => by have := oc_pos hg e; unfold toc; omega
  obtain ⟨R1, D1, e1, h1⟩ := drop_ok T S h.w T[g] he.1 he.2 hge
  have hgood := good_set h.t g hg 1 (by omega) (by omega) (fun c _ e => by omega)
  refine ⟨R1, D1, ?_, h1.congr fun c hc => ?_, hgood, h.s, h.l, h.u⟩
  · unfold cD.f
    refine ev_bind h.own (ev_pos (by omega) (ev_pos (by omega) ?_))
    rw [rdn T g hg, e1]
    refine ev_bind (ev_some _) (ev_pos (by show (g : Int) < (T.length : Int); omega) ?_)
    rw [iX]; exact ev_some _
  · have := oc_set T g hg 1 c
    rw [if_neg (by omega : ¬ (1 : Int) = (c : Int) + 2)] at this
    unfold toc
    omega
theorem w2c (c : Nat) (hc : c < 24) : wrap64 (2 + (c : Int)) = (c : Int) + 2 := by rw [w64 (by omega) (by omega)]; omega
theorem wc2 (c : Nat) (hc : c < 24) : wrap64 ((c : Int) + 2 - 2) = (c : Int) := by rw [w64 (by omega) (by omega)]; omega
theorem write_free {R T : List Int} {S : List S60} {D : List Int} (h : Rt R T S D) (g : Nat) (hg : g < T.length) (v : Int) (hv : isNum v = true) : ∃ R' T' D' z, Ev (fun k => bQ.j0 k (g : Int) v T[g] false R T S D) (R', T', S, D', z) ∧ Rt R' T' S D' := by
  have he := h.t.e _ (iI hg); have hgl := h.t.l; have hr := h.w.r; have hd := h.w.d
  have hge : ∀ c : Nat, c < 24 → T[g] = (c : Int) + 2 → 1 ≤ toc T S c := fun c hc e => by have := oc_pos hg e; unfold toc; omega
  obtain ⟨r, hf, hc⟩ := free_ev R hr
  rcases hc with rfl | ⟨c, rfl, hc, hz⟩
  · refine ⟨R, T, D, 7, Ev.succ ?_, h⟩
    simp only [bQ.j0]
    exact ev_neg (by decide) (ev_bind hf (ev_pos (by decide) (ev_some _)))
  · obtain ⟨R1, D1, e1, h1⟩ := drop_ok T S h.w T[g] he.1 he.2 hge
    have hr1 := h1.r; have hd1 := h1.d
    have hc0 : toc T S c = 0 := by have := h.w.c c hc; omega
    have hoc : oc T c = 0 := by unfold toc at hc0; omega
    have hsame : ∀ x : Nat, x < 24 → (c : Int) + 2 = (x : Int) + 2 → oc T x = 0 := by
      intro x _ e
      have hcx : c = x := by omega
      subst hcx; exact hoc
    have hgood := good_set h.t g hg ((c : Int) + 2) (by omega) (by omega) hsame
    have hne : T[g] ≠ (c : Int) + 2 := fun e => by have := oc_pos hg e; omega
    refine ⟨R1.set c 1, T.set g ((c : Int) + 2), D1.set c v, 0, Ev.succ ?_, ⟨by simpa using hr1, by simpa using hd1, ?_, ?_, num_set h1.n hv, ?_⟩, hgood, h.s, h.l, h.u⟩
    · simp only [bQ.j0]
      refine ev_neg (by decide) (ev_bind hf (ev_neg (by omega) ?_))
      rw [e1]
      refine ev_bind (ev_some _) (ev_pos (by omega) (ev_pos (by show (c : Int) < (R1.length : Int); omega) (ev_pos (by show (c : Int) < (D1.length : Int); omega) (ev_pos (by omega) (ev_pos (by show (g : Int) < (T.length : Int); omega) ?_)))))
      simp only [iX, w2c c hc]; exact ev_some _
    · intro y hy
      have ho := oc_set T g hg ((c : Int) + 2) y
      rw [dP R1 c y _ (by omega)]
      by_cases hcy : c = y
      · subst hcy
        rw [if_pos rfl]
        rw [if_neg hne, if_pos rfl] at ho
        unfold toc at hc0 ⊢
        omega
      · rw [if_neg hcy, h1.c y hy]
        rw [if_neg (by omega : ¬ (c : Int) + 2 = (y : Int) + 2)] at ho
        unfold toc
        omega
    · intro y hy hz2
      have ho := oc_set T g hg ((c : Int) + 2) y
      rw [dP D1 c y _ (by omega)]
      by_cases hcy : c = y
      · subst hcy
        rw [if_neg hne, if_pos rfl] at ho
        unfold toc at hz2
        omega
      · rw [if_neg hcy]
        rw [if_neg (by omega : ¬ (c : Int) + 2 = (y : Int) + 2)] at ho
        refine h1.z y hy ?_
        unfold toc at hz2 ⊢
        omega
    · intro y hy
      have ho := hgood.o y hy; have h2 := sum_le S y (fun x hx => (h.s x hx).1.o y hy); have h3 := h.l
      unfold toc
      omega
theorem write_ok {R T : List Int} {S : List S60} {D : List Int} (h : Rt R T S D) (g : Nat) (hg : g < T.length) (v : Int) (hv : isNum v = true) : ∃ R' T' D' z, Ev (fun k => bQ.f k R T S D (g : Int) v) (R', T', S, D', z) ∧ Rt R' T' S D' := by
  have he := h.t.e _ (iI hg); have hgl := h.t.l; have hr := h.w.r; have hd := h.w.d
  have hge : ∀ c : Nat, c < 24 → T[g] = (c : Int) + 2 → 1 ≤ toc T S c := fun c hc e => by have := oc_pos hg e; unfold toc; omega
  have hrest := write_free h g hg v hv
  unfold bQ.f
  by_cases c2 : T[g] ≥ 2
  · obtain ⟨c, hc⟩ : ∃ c : Nat, T[g] = (c : Int) + 2 := ⟨(T[g] - 2).toNat, by omega⟩
    have hc24 : c < 24 := by omega
    by_cases c1 : rd R (c : Int) = 1
    · refine ⟨R, T, D.set c v, 0, ?_, ⟨hr, by simpa using hd, h.w.c, ?_, num_set h.w.n hv, h.w.b⟩, h.t, h.s, h.l, h.u⟩
      · refine ev_bind h.own ?_
        simp only [rdn T g hg]
        refine ev_pos (by omega) (ev_pos (by omega) (ev_pos c2 ?_))
        rw [hc, wc2 c hc24, c1]
        refine ev_pos (by omega) (ev_pos (by omega) (Ev.succ ?_))
        simp only [bQ.j0, wc2 c hc24]
        refine ev_pos (by decide) (ev_pos (by omega) (ev_pos (by omega) ?_))
        rw [iX]; exact ev_some _
      · intro y hy hz
        rw [dP D c y _ (by omega)]
        by_cases hcy : c = y
        · subst hcy
          have := h.w.c c hc24
          omega
        · rw [if_neg hcy]; exact h.w.z y hy hz
    · obtain ⟨R', T', D', z, hE, hR⟩ := hrest
      refine ⟨R', T', D', z, ?_, hR⟩
      refine ev_bind h.own ?_
      simp only [rdn T g hg]
      refine ev_pos (by omega) (ev_pos (by omega) (ev_pos c2 ?_))
      have hb : (rd R (wrap64 (T[g] - 2)) == 1) = false := by rw [hc, wc2 c hc24]; exact beq_eq_false_iff_ne.2 c1
      rw [hb, hc, wc2 c hc24]
      rw [hc] at hE
      exact ev_pos (by omega) (ev_pos (by omega) hE)
  · obtain ⟨R', T', D', z, hE, hR⟩ := hrest
    refine ⟨R', T', D', z, ?_, hR⟩
    refine ev_bind h.own ?_
    simp only [rdn T g hg]
    exact ev_pos (by omega) (ev_pos (by omega) (ev_neg c2 hE))
end Go.Proofs.YtniceoohmhjjlaaGreatDoor.Q
