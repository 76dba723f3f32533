/- What laws.FnShots reaches, part 6: the functions as Lean functions, the proofs that the program's functions answer so, and plain laws about them. -/
import Derived.Test.YtniceoohmhjjlaaGreatDoorKFnShots1
import Derived.Test.YtniceoohmhjjlaaGreatDoorKFnShots4
import Derived.Test.YtniceoohmhjjlaaGreatDoorKFnShots5
namespace Go.Proofs.YtniceoohmhjjlaaGreatDoor.Q
open Go.RowKit Go.Proofs.YtniceoohmhjjlaaGreatDoor.Ext Go.Proofs.YtniceoohmhjjlaaGreatDoorW.PrintWords Go.Proofs.YtniceoohmhjjlaaGreatDoorW.PrintLast Go.Proofs.YtniceoohmhjjlaaGreatDoorW.PrintMore
attribute [local go_sem] max2_int min2_int max_two min_two max_three min_three max_four min_four   -- for this text's walks alone
open Bool renaming true → tt, false → ff
open Go.Value renaming ownBlock → ob
open Go renaming bodyPost_ret → iD, results_cell_row → jE
open Go.Act renaming put → gE
open Go.IntKind renaming i64 → nK
open Go.Proofs.Tryz renaming func40 → lJ, func62 → nL, func65 → lV, ntmps65 → oT, prog → fM, underlying23 → iP, underlying29 → mL, underlying31 → fW
open Go.Proofs.YtniceoohmhjjlaaGreatDoor.Ext.Kd renaming R_ownB → iY, V_own → jW
open Go.Proofs.YtniceoohmhjjlaaGreatDoorW.PrintLast renaming any_of → gD, goesL_ → gU, i64_w → iQ, one_of → iS, pure_ → gR, putSel_on → lI, putSel_upk → kT, steps_cons → kC, take_ → kA, take_ofW → hZ, with_tabW → kJ
open Go.Proofs.YtniceoohmhjjlaaGreatDoorW.PrintWords renaming add_block → hY, add_plain → nS, below_drew1 → gA, below_set → iG, below_size → eV, below_step → eZ, blk_alloc → fV, blk_below → fB, blk_cell → eY, blk_drew → fU, blk_drewN → gG, blk_frozen → gL, blk_grown → gW, blk_kept → mU, blk_lt → hO, blk_put → jS, box_event → fS, gate_callee → fJ, gate_dst → fP, gate_store → jG
open Go.Proofs.YtniceoohmhjjlaaGreatDoorW.PrintWords.Kd renaming C_below → fE, C_drew → mH, N_base → lA, N_far → kQ, N_lower → jK, N_mono → fN, N_reads' → gZ, N_slice → iR, R_after → iK, R_alloc → fY, R_base → fH, R_below → fI, R_celln → jL, R_drew → fK, R_drewN → fZ, R_elder' → iZ, R_far → fR, R_form → mI, R_lower → fL, R_lt → fO, R_mono → eX, R_ne → gJ, R_new' → fT, R_newM → iM, R_over' → lL, R_putg → mT, R_reads' → fC, R_slice → fA, R_tight → jH, R_types → fD, S_after → mQ, S_alloc → jA, S_below → lK, S_bound → kD, S_drew → iU, S_drewN → jB, S_far → iW, S_mono → gQ, S_slice → iF, S_types → hX, V_afterv → kV, V_drew → jN, V_elder' → oE, V_far → kK, V_mk → nF, V_mono → iE, V_reads' → lN, at_int → gY, fresh' → gF, freshB → iB, int → fG
open Go.Proofs.YtniceoohmhjjlaaGreatDoorW.PrintWords.Kept renaming below → kU, of_grown → nW
open Go.Proofs.YtniceoohmhjjlaaGreatDoorW.PrintWords.Reps renaming none → jD
open Go.RowKit.Below renaming refl → fX
open _root_.Int renaming reduceToNat → gX
open _root_.List renaming replicate → iJ
open _root_.Nat renaming le_refl → fQ, le_trans → hU, ne_of_gt → gT, ne_of_lt → gN, not_le → kB
open _root_.Option renaming bind_eq_some_iff → eW
open _root_.Option.some renaming inj → fF, injEq → gC
open _root_.Or renaming elim → gM
open _root_.Prod.mk renaming injEq → gP
set_option linter.unusedVariables false
set_option linter.unusedSimpArgs false

set_option linter.unusedVariables false
set_option linter.unusedSimpArgs false
def aK.l0 : Nat → Int → Int → List Int → List Int → List (S60) → List Int → Option (List Int × List Int × (List (S60)) × List Int × Int)
  | 0, _, _, _, _, _, _ => none
  | k + 1, x6, x7, x353000, x353001, x353002, x353003 => if 0 ≤ x6 then (if x6 < (x353002.length : Int) then (if x7 < (((aH x353002 x6).f1).length : Int) then (if 0 ≤ x7 then ((dA.f x353000 x353001 x353002 x353003 (rd ((aH x353002 x6).f1) x7)).bind fun bt370 => (aK.l0 k x6 (wrap64 (x7 + 1)) bt370.1 bt370.2.1 bt370.2.2.1 bt370.2.2.2)) else (none)) else ((some (([] : List (S60)) : List (S60))).bind fun y382 => (if x6 ≤ (x353002.length : Int) then ((some (x353002.take (x6 : Int).toNat : List (S60))).bind fun y385 => (if y382.length + y385.length < 3518437208883 then ((some (y382 ++ y385 : List (S60))).bind fun y390 => (if 0 ≤ (wrap64 (x6 + 1)) then (if (wrap64 (x6 + 1)) ≤ (x353002.length : Int) then ((some (x353002.drop ((wrap64 (x6 + 1)) : Int).toNat : List (S60))).bind fun y393 => (if y390.length + y393.length < 3518437208883 then (some (x353000, x353001, (y390 ++ y393), x353003, 0)) else (none))) else (none)) else (none))) else (none))) else (none)))) else (none)) else (none)
def aK.f (k : Nat) (l0_0 : List Int) (l0_1 : List Int) (l0_2 : List (S60)) (l0_3 : List Int) (a1 : ByteArray) : Option (List Int × List Int × (List (S60)) × List Int × Int) := (aE.f k l0_0 l0_1 l0_2 l0_3).bind fun bt354 => ((bE.f k bt354.1 bt354.2.1 bt354.2.2.1 bt354.2.2.2 a1).bind fun t366 => (if t366 < 0 then (some (bt354.1, bt354.2.1, bt354.2.2.1, bt354.2.2.2, 5)) else (aK.l0 k t366 0 bt354.1 bt354.2.1 bt354.2.2.1 bt354.2.2.2)))
def aK.T8 : Bool × List (List Nat × List Nat) := (true, [([], []), ([], []), ([1], [1]), ([], []), ([2, 3], [2, 3]), ([4], [4]), ([5], [5]), ([], []), ([6, 7], [6, 7]), ([8], [8]), ([0, 9], [0, 9]), ([10, 10, 0, 1, 2, 3, 4, 5, 6, 7, 8, 9, 10], [10])])
def aK.B8 : List Nat := [0, 0, 2, 0, 14, 30, 62, 0, 254, 510, 1023, 2047]
theorem aK.tab8 : rtab .any (opsOf Tryz.f34 8) = aK.T8 := by kernel_rfl
theorem aK.bits8 : waitsOk aK.T8.2 aK.B8 = true := by kernel_rfl
def aK.T9 : Bool × List (List Nat × List Nat) := (true, [([], []), ([], []), ([1], [1]), ([], []), ([2, 3], [2, 3]), ([0, 4], [0, 4]), ([], []), ([6], [6]), ([], []), ([8], [8]), ([7, 9], [7, 9]), ([5, 10, 5], [5, 10]), ([0, 1, 2, 3, 4, 5, 6, 7, 8, 9, 10, 11], []), ([12, 11, 11, 0, 1, 2, 3, 4, 5, 6, 7, 8, 9, 10, 11], [11, 12])])
def aK.B9 : List Nat := [0, 0, 2, 0, 14, 31, 0, 64, 0, 256, 960, 2047, 4095, 8191]
theorem aK.tab9 : rtab .any (opsOf Tryz.f34 9) = aK.T9 := by kernel_rfl
theorem aK.bits9 : waitsOk aK.T9.2 aK.B9 = true := by kernel_rfl
set_option maxHeartbeats 8000000 in
set_option maxRecDepth 100000 in
theorem aK.calls (k : Nat) (I : Option Addr) (J : Nat) (z : List Int) (L : Option Addr) (O : Nat) (A : List Int) (T : Option Addr) (U : Nat) (B : List (S60)) (X : Option Addr) (Y : Nat) (D : List Int) (a1 : ByteArray) (r1 : List Int) (r2 : List Int) (r3 : List (S60)) (r4 : List Int) (r5 : Int) (w : World) (k3 : Kd.C (fG .i64) w I z.length z) (k4 : z.length ≤ J) (k5 : Kd.C (fG .i64) w L A.length A) (k6 : A.length ≤ O) (k7 : Kd.C k60 w T B.length B) (k8 : B.length ≤ U) (k9 : Kd.C (fG .i64) w X D.length D) (l1 : D.length ≤ Y) (h : aK.f k z A B D a1 = some (r1, r2, r3, r4, r5)) :
    Calls fM 34 #[.agg #[.slice I z.length J, .slice L A.length O, .slice T B.length U, .slice X D.length Y], .string a1] w fun e w' => ∃ i8 i9 p0 j0 : Value, e = .returned (.tuple #[.agg #[i8, i9, p0, j0], .int .i64 r5]) ∧ Kd.R (fG .i64) 3 w' w.heap.size (fun k_ => (w.heap.size ≤ k_) ∧ some k_ ≠ ob i9 ∧ some k_ ≠ ob j0) i8 r1 ∧ Kd.R (fG .i64) 3 w' w.heap.size (fun k_ => (w.heap.size ≤ k_) ∧ some k_ ≠ ob i8 ∧ some k_ ≠ ob j0) i9 r2 ∧ Kd.N k60 60 w' w.heap.size (fun k_ => (w.heap.size ≤ k_) ∧ some k_ ≠ ob i8 ∧ some k_ ≠ ob i9 ∧ some k_ ≠ ob j0) p0 r3 ∧ Kd.R (fG .i64) 3 w' w.heap.size (fun k_ => (w.heap.size ≤ k_) ∧ some k_ ≠ ob i8 ∧ some k_ ≠ ob i9) j0 r4 ∧ Below w.heap.size w w' := by
 have hu31 := fW; have Zx := zm k3; have Zy := zm k4; clear k3 k4; have Zz := zm k5; have ZA := zm k6; clear k5 k6; have ZB := zm k7; have ZC := zm k8; clear k7 k8; have ZD := zm k9; have ZE := zm l1; clear k9 l1; have HB := zm (fX w.heap.size w); have H := h
 unfold aK.f at H
 clear h; replace H := eW.mp H
 obtain ⟨⟨u, v, E, x⟩, p1, H⟩ := H
 try dsimp only at H
 have A3 := zm p1; clear p1; replace H := eW.mp H
 obtain ⟨r, p3, H⟩ := H
 try dsimp only at H
 have A4 := zm p3; clear p3
 by_cases c5 : r < 0
 ·rw [if_pos c5] at H
  have l7 := decide_eq_true c5; clear c5
  simp only [gC, gP] at H
  obtain ⟨rfl, rfl, rfl, rfl, rfl⟩ := H
  go_enter Tryz.func34, Tryz.ntmps34
  go_wp2_with (first | ((with_reducible refine fP (N := 2) rfl ?_); refine fS zo (N := 2) zo (cs := #[.slice I z.length J, .slice L A.length O, .slice T B.length U, .slice X D.length Y]) (t := 31) zh ?_; intro b hg w6 hbox hb; refine zG4 (eZ (zg_1 HB.o) hb) (hbox) ((by rw [hg]; exact (eV (zg_1 HB.o)) : w.heap.size ≤ b)) ((by rw [hg]; exact (eV (zg_1 HB.o)) : w.heap.size ≤ b)) ?_; clear HB; intro HB Za ZK Zh; clear hb hbox hg) | ((with_reducible refine fP (N := 4) rfl ?_); refine fS zo (N := 4) zo (cs := #[.slice none 0 0, .slice none 0 0, .slice none 0 0, .slice none 0 0]) (t := 31) zh ?_; intro d hg w7 hbox hb; refine zG7 (fB (g := b) (o := .cells #[.slice I z.length J, .slice L A.length O, .slice T B.length U, .slice X D.length Y] 31 (0, 0)) (zg_3 Za.o) hb) (eZ (zg_2 HB.o Zh.o) hb) (hbox) ((by rw [hg]; exact (eV (zg_2 HB.o Zh.o)) : w.heap.size ≤ d)) ((by rw [hg]; exact (eV (zg_2 HB.o Zh.o)) : w.heap.size ≤ d)) ((by rw [hg]; exact gN (hO (g := b) (o := .cells #[.slice I z.length J, .slice L A.length O, .slice T B.length U, .slice X D.length Y] 31 (0, 0)) (zg_3 Za.o)) : b ≠ d)) ((by rw [hg]; exact gT (hO (g := b) (o := .cells #[.slice I z.length J, .slice L A.length O, .slice T B.length U, .slice X D.length Y] 31 (0, 0)) (zg_3 Za.o)) : d ≠ b)) ?_; clear Za HB; intro Za HB Zf ZL Zi Zk Zg; clear hb hbox hg; have v6 := Zk.o; have v8 := Zg.o; obtain ⟨_, _, _, _, _, _, _, _⟩ := zb4 Za.o) | ((with_reducible refine fJ (f := 40) rfl ?_); refine gU (some 9) rfl rfl lJ (by kernel_rfl) rfl #[.agg #[.slice I z.length J, .slice L A.length O, .slice T B.length U, .slice X D.length Y]] rfl zq ?_; (with_reducible refine (aE.calls k _ _ z _ _ A _ _ B _ _ D u v E x _ ?_ ?_ ?_ ?_ ?_ ?_ ?_ ?_ A3.o).mono ?_); exact zC (fE Zx.o HB.o); exact Zy.o; exact zC (fE Zz.o HB.o); exact ZA.o; exact zC (fE ZB.o HB.o); exact ZC.o; exact zC (fE ZD.o HB.o); exact ZE.o; rintro e s9 ⟨j2, j3, q0, j4, rfl, e8, e9, f8, f2, hb⟩; refine ⟨_, rfl, ?_⟩; refine zG7 (fL (iM (M := fun k_ => (w.heap.size ≤ k_)) e8 (eV (zg_5 HB.o Zh.o Zi.o)) (fun k_ h_ => h_)) (eV (zg_5 HB.o Zh.o Zi.o))) (fL (iM (M := fun k_ => (w.heap.size ≤ k_)) e9 (eV (zg_5 HB.o Zh.o Zi.o)) (fun k_ h_ => h_)) (eV (zg_5 HB.o Zh.o Zi.o))) (jK (fN (ok' := fun k_ => (w.heap.size ≤ k_) ∧ some k_ ≠ ob j2 ∧ some k_ ≠ ob j3 ∧ some k_ ≠ ob j4 ∧ k_ ≠ b ∧ k_ ≠ d) (Kd.S_N (kD f8)) (fun k_ hk_ => ⟨(hU (eV (zg_5 HB.o Zh.o Zi.o)) hk_.2.1), hk_.1.1, hk_.1.2.1, hk_.1.2.2, (iB (g := b) (o := .cells #[.slice I z.length J, .slice L A.length O, .slice T B.length U, .slice X D.length Y] 31 (0, 0)) (zg_3 Za.o) k_ hk_.2.1), (iB (g := d) (o := .cells #[.slice none 0 0, .slice none 0 0, .slice none 0 0, .slice none 0 0] 31 (0, 0)) (zg_3 Zf.o) k_ hk_.2.1)⟩)) (eV (zg_5 HB.o Zh.o Zi.o))) (fL (iM (M := fun k_ => (w.heap.size ≤ k_)) f2 (eV (zg_5 HB.o Zh.o Zi.o)) (fun k_ h_ => h_)) (eV (zg_5 HB.o Zh.o Zi.o))) (fB (g := b) (o := .cells #[.slice I z.length J, .slice L A.length O, .slice T B.length U, .slice X D.length Y] 31 (0, 0)) (zg_3 Za.o) hb) (fB (g := d) (o := .cells #[.slice none 0 0, .slice none 0 0, .slice none 0 0, .slice none 0 0] 31 (0, 0)) (zg_3 Zf.o) hb) (eZ (zg_5 HB.o Zh.o Zi.o) hb) ?_; clear Za Zf HB; intro Zm Zn Zo Zp Za Zf HB; (try clear hb); (try clear hb2); (try clear hk); (try clear hi); (try clear e8); (try clear e9); (try clear f8); (try clear f2); obtain ⟨b5, b6, rfl⟩ := fA Zm.o; obtain ⟨_, _, _, _, _, _, _, _⟩ := zb4 Za.o; obtain ⟨b7, b8, rfl⟩ := fA Zn.o; obtain ⟨f3, f4, rfl⟩ := iR Zo.o; obtain ⟨b9, c0, rfl⟩ := fA Zp.o) | ((with_reducible refine jG (t := 31) (p := 2) rfl ?_); refine zst (w1 := ((((s9.setCell ⟨b, 0, none⟩ (.slice b5 u.length b6)).setCell ⟨b, 1, none⟩ (.slice b7 v.length b8)).setCell ⟨b, 2, none⟩ (.slice f3 E.length f4)).setCell ⟨b, 3, none⟩ (.slice b9 x.length c0))) rfl rfl rfl zh ?_; intro g0 hw; refine zG7 (by rw [hw]; exact (eX (zR4 (fD Zm.o Za.o (by decide))) (fun _ hk => ⟨hk.1.1, ⟨hk.1.2.1, hk.1.2.2⟩⟩)) : Kd.R (fG .i64) 3 g0 w.heap.size (fun k_ => (w.heap.size ≤ k_) ∧ some k_ ≠ ob (.slice b7 v.length b8) ∧ some k_ ≠ ob (.slice b9 x.length c0)) (.slice b5 u.length b6) u) (by rw [hw]; exact (eX (zR4 (fD Zn.o Za.o (by decide))) (fun _ hk => ⟨hk.1.1, ⟨hk.1.2.1, hk.1.2.2⟩⟩)) : Kd.R (fG .i64) 3 g0 w.heap.size (fun k_ => (w.heap.size ≤ k_) ∧ some k_ ≠ ob (.slice b5 u.length b6) ∧ some k_ ≠ ob (.slice b9 x.length c0)) (.slice b7 v.length b8) v) (by rw [hw]; exact (fN (zN4 (fN Zo.o (fun k_ hk => (⟨hk, hk.2.2.2.2.1⟩ : _ ∧ k_ ≠ b)))) (fun _ hk => ⟨hk.1.1, ⟨hk.1.2.1, ⟨hk.1.2.2.1, ⟨hk.1.2.2.2.1, ⟨hk.1.2.2.2.2.1, hk.1.2.2.2.2.2⟩⟩⟩⟩⟩)) : Kd.N k60 60 g0 w.heap.size (fun k_ => (w.heap.size ≤ k_) ∧ some k_ ≠ ob (.slice b5 u.length b6) ∧ some k_ ≠ ob (.slice b7 v.length b8) ∧ some k_ ≠ ob (.slice b9 x.length c0) ∧ k_ ≠ b ∧ k_ ≠ d) (.slice f3 E.length f4) E) (by rw [hw]; exact (eX (zR4 (fD Zp.o Za.o (by decide))) (fun _ hk => ⟨hk.1.1, ⟨hk.1.2.1, hk.1.2.2⟩⟩)) : Kd.R (fG .i64) 3 g0 w.heap.size (fun k_ => (w.heap.size ≤ k_) ∧ some k_ ≠ ob (.slice b5 u.length b6) ∧ some k_ ≠ ob (.slice b7 v.length b8)) (.slice b9 x.length c0) x) (by rw [hw]; exact (by exact zput4 Za.o) : g0.heap[b]? = some (.cells #[.slice b5 u.length b6, .slice b7 v.length b8, .slice f3 E.length f4, .slice b9 x.length c0] 31 (0, 0))) (by rw [hw]; exact (by exact zfar4 Zf.o Zg.o) : g0.heap[d]? = some (.cells #[.slice none 0 0, .slice none 0 0, .slice none 0 0, .slice none 0 0] 31 (0, 0))) (by rw [hw]; exact (zg_5 HB.o Zh.o Zi.o) : Below w.heap.size w g0) ?_; clear hw Zm Zn Zo Zp Za Zf HB; intro Zm Zn Zo Zp Za Zf HB; obtain ⟨_, _, _, _, _, _, _, _⟩ := zb4 Za.o) | ((with_reducible refine fJ (f := 62) rfl ?_); refine gU (some 12) rfl rfl nL (by kernel_rfl) rfl #[.agg #[.slice b5 u.length b6, .slice b7 v.length b8, .slice f3 E.length f4, .slice b9 x.length c0], .string a1] rfl zq ?_; (with_reducible refine (bE.calls k _ _ u _ _ v _ _ E _ _ x a1 r _ ?_ ?_ ?_ ?_ ?_ ?_ ?_ ?_ A4.o).mono ?_); exact zC ((fC Zm.o).2.2); exact (fC Zm.o).2.1; exact zC ((fC Zn.o).2.2); exact (fC Zn.o).2.1; exact zC ((gZ Zo.o).2.2); exact (gZ Zo.o).2.1; exact zC ((fC Zp.o).2.2); exact (fC Zp.o).2.1; rintro e x5 ⟨rfl, hb⟩; refine ⟨_, rfl, ?_⟩; refine zG7 (fI (zg_6 Zm.o) hb) (fI (zg_6 Zn.o) hb) (Kd.N_below (zg_4 Zo.o) hb) (fI (zg_6 Zp.o) hb) (fB (g := b) (o := .cells #[.slice b5 u.length b6, .slice b7 v.length b8, .slice f3 E.length f4, .slice b9 x.length c0] 31 (0, 0)) (zg_3 Za.o) hb) (fB (g := d) (o := .cells #[.slice none 0 0, .slice none 0 0, .slice none 0 0, .slice none 0 0] 31 (0, 0)) (zg_3 Zf.o) hb) (eZ (zg_5 HB.o Zh.o Zi.o) hb) ?_; clear Zm Zn Zo Zp Za Zf HB; intro Zm Zn Zo Zp Za Zf HB; (try clear hb); (try clear hb2); (try clear hk); (try clear hi); obtain ⟨_, _, _, _, _, _, _, _⟩ := zb4 Za.o; obtain ⟨_, _, _, _, _, _, _, _⟩ := zb4 Zf.o))
  refine iD (results_ct rfl _ _ d 31 #[.slice b5 u.length b6, .slice b7 v.length b8, .slice f3 E.length f4, .slice b9 x.length c0] (0, 0) _ rfl (by exact zput4 Zf.o) fW rfl (by kernel_rfl)) rfl ?_
  exact ⟨_, _, _, _, ze, eX (zR4 (fD Zm.o Zf.o (by decide))) (fun _ hk => ⟨hk.1.1, ⟨hk.1.2.1, hk.1.2.2⟩⟩), eX (zR4 (fD Zn.o Zf.o (by decide))) (fun _ hk => ⟨hk.1.1, ⟨hk.1.2.1, hk.1.2.2⟩⟩), fN (zN4 (fN Zo.o (fun k_ hk => (⟨hk, hk.2.2.2.2.2⟩ : _ ∧ k_ ≠ d)))) (fun _ hk => ⟨hk.1.1, ⟨hk.1.2.1, ⟨hk.1.2.2.1, hk.1.2.2.2.1⟩⟩⟩), eX (zR4 (fD Zp.o Zf.o (by decide))) (fun _ hk => ⟨hk.1.1, ⟨hk.1.2.1, hk.1.2.2⟩⟩), zg_5 HB.o Zh.o Zi.o⟩
 rw [if_neg c5] at H; have l7 := decide_eq_false c5; clear c5
 have H' := zm H
 clear H
 go_enter Tryz.func34, Tryz.ntmps34
 go_wp2_with (first | ((with_reducible refine fP (N := 2) rfl ?_); refine fS zo (N := 2) zo (cs := #[.slice I z.length J, .slice L A.length O, .slice T B.length U, .slice X D.length Y]) (t := 31) zh ?_; intro b hg x8 hbox hb; refine zG4 (eZ (zg_1 HB.o) hb) (hbox) ((by rw [hg]; exact (eV (zg_1 HB.o)) : w.heap.size ≤ b)) ((by rw [hg]; exact (eV (zg_1 HB.o)) : w.heap.size ≤ b)) ?_; clear HB; intro HB Za ZK Zh; clear hb hbox hg) | ((with_reducible refine fP (N := 4) rfl ?_); refine fS zo (N := 4) zo (cs := #[.slice none 0 0, .slice none 0 0, .slice none 0 0, .slice none 0 0]) (t := 31) zh ?_; intro d hg x9 hbox hb; refine zG7 (fB (g := b) (o := .cells #[.slice I z.length J, .slice L A.length O, .slice T B.length U, .slice X D.length Y] 31 (0, 0)) (zg_3 Za.o) hb) (eZ (zg_2 HB.o Zh.o) hb) (hbox) ((by rw [hg]; exact (eV (zg_2 HB.o Zh.o)) : w.heap.size ≤ d)) ((by rw [hg]; exact (eV (zg_2 HB.o Zh.o)) : w.heap.size ≤ d)) ((by rw [hg]; exact gN (hO (g := b) (o := .cells #[.slice I z.length J, .slice L A.length O, .slice T B.length U, .slice X D.length Y] 31 (0, 0)) (zg_3 Za.o)) : b ≠ d)) ((by rw [hg]; exact gT (hO (g := b) (o := .cells #[.slice I z.length J, .slice L A.length O, .slice T B.length U, .slice X D.length Y] 31 (0, 0)) (zg_3 Za.o)) : d ≠ b)) ?_; clear Za HB; intro Za HB Zf ZL Zi Zk Zg; clear hb hbox hg; have t5 := Zk.o; have t6 := Zg.o; obtain ⟨_, _, _, _, _, _, _, _⟩ := zb4 Za.o) | ((with_reducible refine fJ (f := 40) rfl ?_); refine gU (some 9) rfl rfl lJ (by kernel_rfl) rfl #[.agg #[.slice I z.length J, .slice L A.length O, .slice T B.length U, .slice X D.length Y]] rfl zq ?_; (with_reducible refine (aE.calls k _ _ z _ _ A _ _ B _ _ D u v E x _ ?_ ?_ ?_ ?_ ?_ ?_ ?_ ?_ A3.o).mono ?_); exact zC (fE Zx.o HB.o); exact Zy.o; exact zC (fE Zz.o HB.o); exact ZA.o; exact zC (fE ZB.o HB.o); exact ZC.o; exact zC (fE ZD.o HB.o); exact ZE.o; rintro e t0 ⟨j2, j3, q0, j4, rfl, e8, e9, f8, f2, hb⟩; refine ⟨_, rfl, ?_⟩; refine zG7 (fL (iM (M := fun k_ => (w.heap.size ≤ k_)) e8 (eV (zg_5 HB.o Zh.o Zi.o)) (fun k_ h_ => h_)) (eV (zg_5 HB.o Zh.o Zi.o))) (fL (iM (M := fun k_ => (w.heap.size ≤ k_)) e9 (eV (zg_5 HB.o Zh.o Zi.o)) (fun k_ h_ => h_)) (eV (zg_5 HB.o Zh.o Zi.o))) (jK (fN (ok' := fun k_ => (w.heap.size ≤ k_) ∧ some k_ ≠ ob j2 ∧ some k_ ≠ ob j3 ∧ some k_ ≠ ob j4 ∧ k_ ≠ b ∧ k_ ≠ d) (Kd.S_N (kD f8)) (fun k_ hk_ => ⟨(hU (eV (zg_5 HB.o Zh.o Zi.o)) hk_.2.1), hk_.1.1, hk_.1.2.1, hk_.1.2.2, (iB (g := b) (o := .cells #[.slice I z.length J, .slice L A.length O, .slice T B.length U, .slice X D.length Y] 31 (0, 0)) (zg_3 Za.o) k_ hk_.2.1), (iB (g := d) (o := .cells #[.slice none 0 0, .slice none 0 0, .slice none 0 0, .slice none 0 0] 31 (0, 0)) (zg_3 Zf.o) k_ hk_.2.1)⟩)) (eV (zg_5 HB.o Zh.o Zi.o))) (fL (iM (M := fun k_ => (w.heap.size ≤ k_)) f2 (eV (zg_5 HB.o Zh.o Zi.o)) (fun k_ h_ => h_)) (eV (zg_5 HB.o Zh.o Zi.o))) (fB (g := b) (o := .cells #[.slice I z.length J, .slice L A.length O, .slice T B.length U, .slice X D.length Y] 31 (0, 0)) (zg_3 Za.o) hb) (fB (g := d) (o := .cells #[.slice none 0 0, .slice none 0 0, .slice none 0 0, .slice none 0 0] 31 (0, 0)) (zg_3 Zf.o) hb) (eZ (zg_5 HB.o Zh.o Zi.o) hb) ?_; clear Za Zf HB; intro Zm Zn Zo Zp Za Zf HB; (try clear hb); (try clear hb2); (try clear hk); (try clear hi); (try clear e8); (try clear e9); (try clear f8); (try clear f2); obtain ⟨c7, c9, rfl⟩ := fA Zm.o; obtain ⟨_, _, _, _, _, _, _, _⟩ := zb4 Za.o; obtain ⟨d0, d1, rfl⟩ := fA Zn.o; obtain ⟨f5, f6, rfl⟩ := iR Zo.o; obtain ⟨d2, d3, rfl⟩ := fA Zp.o) | ((with_reducible refine jG (t := 31) (p := 2) rfl ?_); refine zst (w1 := ((((t0.setCell ⟨b, 0, none⟩ (.slice c7 u.length c9)).setCell ⟨b, 1, none⟩ (.slice d0 v.length d1)).setCell ⟨b, 2, none⟩ (.slice f5 E.length f6)).setCell ⟨b, 3, none⟩ (.slice d2 x.length d3))) rfl rfl rfl zh ?_; intro g1 hw; refine zG7 (by rw [hw]; exact (eX (zR4 (fD Zm.o Za.o (by decide))) (fun _ hk => ⟨hk.1.1, ⟨hk.1.2.1, hk.1.2.2⟩⟩)) : Kd.R (fG .i64) 3 g1 w.heap.size (fun k_ => (w.heap.size ≤ k_) ∧ some k_ ≠ ob (.slice d0 v.length d1) ∧ some k_ ≠ ob (.slice d2 x.length d3)) (.slice c7 u.length c9) u) (by rw [hw]; exact (eX (zR4 (fD Zn.o Za.o (by decide))) (fun _ hk => ⟨hk.1.1, ⟨hk.1.2.1, hk.1.2.2⟩⟩)) : Kd.R (fG .i64) 3 g1 w.heap.size (fun k_ => (w.heap.size ≤ k_) ∧ some k_ ≠ ob (.slice c7 u.length c9) ∧ some k_ ≠ ob (.slice d2 x.length d3)) (.slice d0 v.length d1) v) (by rw [hw]; exact (fN (zN4 (fN Zo.o (fun k_ hk => (⟨hk, hk.2.2.2.2.1⟩ : _ ∧ k_ ≠ b)))) (fun _ hk => ⟨hk.1.1, ⟨hk.1.2.1, ⟨hk.1.2.2.1, ⟨hk.1.2.2.2.1, ⟨hk.1.2.2.2.2.1, hk.1.2.2.2.2.2⟩⟩⟩⟩⟩)) : Kd.N k60 60 g1 w.heap.size (fun k_ => (w.heap.size ≤ k_) ∧ some k_ ≠ ob (.slice c7 u.length c9) ∧ some k_ ≠ ob (.slice d0 v.length d1) ∧ some k_ ≠ ob (.slice d2 x.length d3) ∧ k_ ≠ b ∧ k_ ≠ d) (.slice f5 E.length f6) E) (by rw [hw]; exact (eX (zR4 (fD Zp.o Za.o (by decide))) (fun _ hk => ⟨hk.1.1, ⟨hk.1.2.1, hk.1.2.2⟩⟩)) : Kd.R (fG .i64) 3 g1 w.heap.size (fun k_ => (w.heap.size ≤ k_) ∧ some k_ ≠ ob (.slice c7 u.length c9) ∧ some k_ ≠ ob (.slice d0 v.length d1)) (.slice d2 x.length d3) x) (by rw [hw]; exact (by exact zput4 Za.o) : g1.heap[b]? = some (.cells #[.slice c7 u.length c9, .slice d0 v.length d1, .slice f5 E.length f6, .slice d2 x.length d3] 31 (0, 0))) (by rw [hw]; exact (by exact zfar4 Zf.o Zg.o) : g1.heap[d]? = some (.cells #[.slice none 0 0, .slice none 0 0, .slice none 0 0, .slice none 0 0] 31 (0, 0))) (by rw [hw]; exact (zg_5 HB.o Zh.o Zi.o) : Below w.heap.size w g1) ?_; clear hw Zm Zn Zo Zp Za Zf HB; intro Zm Zn Zo Zp Za Zf HB; obtain ⟨_, _, _, _, _, _, _, _⟩ := zb4 Za.o) | ((with_reducible refine fJ (f := 62) rfl ?_); refine gU (some 12) rfl rfl nL (by kernel_rfl) rfl #[.agg #[.slice c7 u.length c9, .slice d0 v.length d1, .slice f5 E.length f6, .slice d2 x.length d3], .string a1] rfl zq ?_; (with_reducible refine (bE.calls k _ _ u _ _ v _ _ E _ _ x a1 r _ ?_ ?_ ?_ ?_ ?_ ?_ ?_ ?_ A4.o).mono ?_); exact zC ((fC Zm.o).2.2); exact (fC Zm.o).2.1; exact zC ((fC Zn.o).2.2); exact (fC Zn.o).2.1; exact zC ((gZ Zo.o).2.2); exact (gZ Zo.o).2.1; exact zC ((fC Zp.o).2.2); exact (fC Zp.o).2.1; rintro e y0 ⟨rfl, hb⟩; refine ⟨_, rfl, ?_⟩; refine zG7 (fI (zg_6 Zm.o) hb) (fI (zg_6 Zn.o) hb) (Kd.N_below (zg_4 Zo.o) hb) (fI (zg_6 Zp.o) hb) (fB (g := b) (o := .cells #[.slice c7 u.length c9, .slice d0 v.length d1, .slice f5 E.length f6, .slice d2 x.length d3] 31 (0, 0)) (zg_3 Za.o) hb) (fB (g := d) (o := .cells #[.slice none 0 0, .slice none 0 0, .slice none 0 0, .slice none 0 0] 31 (0, 0)) (zg_3 Zf.o) hb) (eZ (zg_5 HB.o Zh.o Zi.o) hb) ?_; clear Zm Zn Zo Zp Za Zf HB; intro Zm Zn Zo Zp Za Zf HB; (try clear hb); (try clear hb2); (try clear hk); (try clear hi)))
 go_loopg [7] k (fun kq v7 w' => ∃ (a9 : Int) (j : List Int) (l : List Int) (a : List (S60)) (q : List Int) (u353000 : Value) (u353001 : Value) (u353002 : Value) (u353003 : Value), v7 = .int .i64 a9 ∧ Aside0 (aK.l0 kq r a9 j l a q = some (r1, r2, r3, r4, r5)) ∧ Aside0 (kq ≤ k) ∧ Aside0 (Kd.R (fG .i64) 3 w' w.heap.size (fun k_ => (w.heap.size ≤ k_) ∧ some k_ ≠ ob u353001 ∧ some k_ ≠ ob u353003) u353000 j) ∧ Aside0 (Kd.R (fG .i64) 3 w' w.heap.size (fun k_ => (w.heap.size ≤ k_) ∧ some k_ ≠ ob u353000 ∧ some k_ ≠ ob u353003) u353001 l) ∧ Aside0 (Kd.V k60 60 w' w.heap.size (fun k_ => (w.heap.size ≤ k_) ∧ some k_ ≠ ob u353000 ∧ some k_ ≠ ob u353001 ∧ some k_ ≠ ob u353003 ∧ k_ ≠ b ∧ k_ ≠ d) u353002 a) ∧ Aside0 (Kd.R (fG .i64) 3 w' w.heap.size (fun k_ => (w.heap.size ≤ k_) ∧ some k_ ≠ ob u353000 ∧ some k_ ≠ ob u353001) u353003 q) ∧ Aside0 (w'.heap[b]? = some (.cells #[u353000, u353001, u353002, u353003] 31 (0, 0))) ∧ Aside0 (w'.heap[d]? = some (.cells #[(.slice none 0 0), (.slice none 0 0), (.slice none 0 0), (.slice none 0 0)] 31 (0, 0))) ∧ Aside0 (Below w.heap.size w w'))
 case atStart => exact ⟨(0), (u), (v), (E), (x), (.slice c7 u.length c9), (.slice d0 v.length d1), (.slice f5 E.length f6), (.slice d2 x.length d3), zr, H', ⟨fQ _⟩, ⟨zlR Zm.o⟩, ⟨zlR Zn.o⟩, ⟨Kd.N_V (zg_4 Zo.o)⟩, ⟨zlR Zp.o⟩, ⟨zl Za.o⟩, ⟨zl Zf.o⟩, ⟨zg_5 HB.o Zh.o Zi.o⟩⟩
 case round =>
  clear H'
  try clear c2
  try clear p2
  try clear c3
  try clear c4
  try clear c5
  try clear l7
  try clear c6
  try clear c8
  try clear y1
  obtain ⟨a9, j, l, a, q, u353000, u353001, u353002, u353003, rfl, HA, p4, Zc, Zd, Zb, Ze, Za, Zf, HB⟩ := hrel
  cases gk with
  | zero => exact absurd HA.o (by simp [aK.l0])
  | succ k1 =>
   have H := HA.o; clear HA
   simp only [aK.l0] at H
   replace H := zid H; obtain ⟨t7, H⟩ := H
   replace H := zid H; obtain ⟨t8, H⟩ := H
   by_cases g6 : a9 < (((aH a r).f1).length : Int)
   ·rw [if_pos g6] at H
    have o4 := decide_eq_true g6; clear g6
    replace H := zif H; obtain ⟨p5, H⟩ := H; have t9 := decide_eq_true p5; clear p5; replace H := eW.mp H
    obtain ⟨⟨h2, h3, h4, h5⟩, l8, H⟩ := H
    try dsimp only at H
    have t1 := zm l8; clear l8
    have H' := zm H
    clear H; have u0 := Zk.o; have u1 := Zg.o
    obtain ⟨_, _, _, _, _, _, _, _⟩ := zb4 Za.o
    obtain ⟨w2, h6, q1⟩ := Kd.V_slice Zb.o
    subst q1
    have d4 : 0 ≤ (r : Int) := zd
    have d5 : r < (a.length : Int) := zd
    obtain ⟨s, l9, m0, j5, hx367_0, hx367_1, hl367_1, hi367_1⟩ := at_T60 (lN Zb.o).2.2 r d4 d5
    cases j5
    obtain ⟨ce367, hce367, hMe367, hcc367⟩ := Kd.V_get Zb.o z60 r d4 (by first | exact d5 | exact zd | (have e_ := (lN Zb.o).1; omega))
    obtain ⟨ua367_1, uc367_1, rfl, ul367_1, ge367_1⟩ := k60_openF hMe367
    have hv367_1 := hcc367 1 _ rfl
    rw [add_field _ _ 1 (by omega)] at hv367_1
    replace hv367_1 := fF (hv367_1.symm.trans hx367_1)
    injection hv367_1 with hva_ hvn_ hvc_
    rw [hva_] at ge367_1
    rw [hvc_] at ul367_1
    have Zj := zm (show Kd.V (fG .i64) 3 _ w.heap.size _ _ ((aH a r).f1) from nF ul367_1 ge367_1); clear hva_ hvn_ hvc_ ge367_1 ul367_1; clear hcc367 hce367; have Zl := zm hi367_1; have Zw := zm hl367_1; clear hi367_1 hl367_1; replace d4 := eq_true d4; replace d5 := eq_true d5
    try go_wp2
    have a0 := zm (fK Zc.o); have a2 := zm (fK Zd.o); have a3 := zm (jN Zb.o); have a4 := zm (fK Ze.o); have a5 := zm (jN Zj.o); have a6 := zm (fU Za.o); have a7 := zm (fU Zf.o); have a8 := zm (mH Zl.o); have b2 := zm (gA HB.o); clear Zc; clear Zd; clear Zb; clear Ze; clear Zj; clear Za; clear Zf; clear Zl; clear HB; have Zc := a0; have Zd := a2; have Zb := a3; have Ze := a4; have Zj := a5; have Za := a6; have Zf := a7; have Zl := a8; have HB := b2; clear a0 a2 a3 a4 a5 a6 a7 a8 b2
    have h7 : 0 ≤ (r : Int) := zd
    have h8 : r < (a.length : Int) := zd
    obtain ⟨o5, t2, m1, q2, hx368_0, hx368_1, hl368_1, hi368_1⟩ := at_T60 (lN Zb.o).2.2 r h7 h8
    obtain rfl : s = o5 := (by injection q2)
    (try (have ea_ := fF (hx368_1.symm.trans hw367_1); injection ea_ with ea_ en_ ec_; subst ea_; subst ec_))
    obtain ⟨ce368, hce368, hMe368, hcc368⟩ := Kd.V_get Zb.o z60 r h7 (by first | exact h8 | exact zd | (have e_ := (lN Zb.o).1; omega))
    obtain ⟨ua368_1, uc368_1, rfl, ul368_1, ge368_1⟩ := k60_openF hMe368
    have hv368_1 := hcc368 1 _ rfl
    rw [add_field _ _ 1 (by omega)] at hv368_1
    replace hv368_1 := fF (hv368_1.symm.trans hx368_1)
    injection hv368_1 with hva_ hvn_ hvc_
    rw [hva_] at ge368_1
    rw [hvc_] at ul368_1
    have Zq := zm (show Kd.V (fG .i64) 3 _ w.heap.size _ _ ((aH a r).f1) from nF ul368_1 ge368_1); clear hva_ hvn_ hvc_ ge368_1 ul368_1; clear hcc368 hce368; have Zv := zm hi368_1; have ZM := zm hl368_1; clear hi368_1 hl368_1; replace h7 := eq_true h7; replace h8 := eq_true h8
    have j6 : 0 ≤ (a9 : Int) := zd
    have j7 : a9 < (((aH a r).f1).length : Int) := zd
    obtain ⟨l2, q3, hx369_0⟩ := gY (by repeat (first | (with_reducible exact Zv.o) | (with_reducible refine Kd.C_alloc ?_ _) | (with_reducible refine Kd.C_drewN ?_ _) | (with_reducible refine mH ?_) | exact Zv.o)) a9 j6 j7
    cases q3; replace j6 := eq_true j6; replace j7 := eq_true j7
    obtain ⟨e0, e1, m2⟩ := fA Zc.o
    (first | subst m2 | (injection m2 with f1_ f2_ f3_; have f4_ := f1_.symm; have f5_ := f3_.symm; clear f1_ f2_ f3_; subst f4_; subst f5_))
    obtain ⟨e2, e3, m3⟩ := fA Zd.o
    (first | subst m3 | (injection m3 with f1_ f2_ f3_; have f4_ := f1_.symm; have f5_ := f3_.symm; clear f1_ f2_ f3_; subst f4_; subst f5_))
    obtain ⟨e4, e5, m4⟩ := fA Ze.o
    (first | subst m4 | (injection m4 with f1_ f2_ f3_; have f4_ := f1_.symm; have f5_ := f3_.symm; clear f1_ f2_ f3_; subst f4_; subst f5_))
    refine start_ (n := 12) (S := fun w' => w'.cell? ⟨b, 0, none⟩ = some (.slice e0 j.length e1) ∧ w'.cell? ⟨b, 1, none⟩ = some (.slice e2 l.length e3) ∧ w'.cell? ⟨b, 2, none⟩ = some (.slice (some s) a.length h6) ∧ w'.cell? ⟨b, 3, none⟩ = some (.slice e4 q.length e5) ∧ w'.cell? (s.add ((r).toNat * 2)) = some (.string ((aH a r).f0)) ∧ w'.cell? ⟨(s.add ((r).toNat * 2)).block, (s.add ((r).toNat * 2)).off + 1, none⟩ = some (.slice (some l2) ((aH a r).f1).length m1) ∧ w'.cell? (l2.add (a9).toNat) = some (.int .i64 (rd ((aH a r).f1) a9))) (ds := [11]) #[ff, ff, ff, ff, ff, ff, ff, ff, ff, ff, ff, ff] (by kernel_rfl) rfl rfl ⟨(eY Za.o 0).trans rfl, (eY Za.o 1).trans rfl, (eY Za.o 2).trans rfl, (eY Za.o 3).trans rfl, hx368_0, hx368_1, hx369_0⟩ (fun hHeld => ?_); refine kJ aK.tab8 aK.bits8 (fun HT_ HW_ => ?_)
    generalize wr.drew = y2 at Zc Zd Zb Ze Zj Za Zf Zl HB Zq Zv hx368_0 hx368_1 hx369_0 hHeld ⊢
    refine gR (i := 1) (N := some 28) #[ff, tt, ff, ff, ff, ff, ff, ff, ff, ff, ff, ff] rfl rfl (gD HT_.o zk) (fun _ _ _ h => h) (.inl ⟨by rfl, zi⟩) zu ?_
    refine gR (i := 3) (N := some 30) #[ff, tt, ff, tt, ff, ff, ff, ff, ff, ff, ff, ff] rfl rfl (gD HT_.o zk) (fun _ _ _ h => h) (.inl ⟨by rfl, zi⟩) zu ?_
    refine gR (i := 7) (N := some 34) #[ff, tt, ff, tt, ff, ff, ff, tt, ff, ff, ff, ff] rfl rfl (gD HT_.o zk) (fun _ _ _ h => h) (.inl ⟨by rfl, zi⟩) zu ?_
    refine kA (i := 0) (N := some 27) #[tt, tt, ff, tt, ff, ff, ff, tt, ff, ff, ff, ff] rfl rfl (hZ HT_.o HW_.o zk) (fun _ _ _ h => h) (.inl ⟨by rfl, zi7⟩) hHeld zu ?_
    refine kA (i := 2) (N := some 29) #[tt, tt, tt, tt, ff, ff, ff, tt, ff, ff, ff, ff] rfl rfl (hZ HT_.o HW_.o zk) (fun _ _ _ h => h) (.inl ⟨by rfl, zi7⟩) hHeld zu ?_
    refine gR (i := 4) (N := some 31) #[tt, tt, tt, tt, tt, ff, ff, tt, ff, ff, ff, ff] rfl rfl (gD HT_.o zk) (fun _ _ _ h => h) (.inl ⟨by rfl, zi⟩) zu ?_
    refine gR (i := 5) (N := some 32) #[tt, tt, tt, tt, tt, tt, ff, tt, ff, ff, ff, ff] rfl rfl (gD HT_.o zk) (fun _ _ _ h => h) (.inl ⟨by rfl, zi⟩) zu ?_
    refine kA (i := 6) (N := some 33) #[tt, tt, tt, tt, tt, tt, tt, tt, ff, ff, ff, ff] rfl rfl (hZ HT_.o HW_.o zk) (fun _ _ _ h => h) (.inl ⟨by rfl, zi7⟩) hHeld zu ?_
    refine gR (i := 8) (N := some 35) #[tt, tt, tt, tt, tt, tt, tt, tt, tt, ff, ff, ff] rfl rfl (gD HT_.o zk) (fun _ _ _ h => h) (.inl ⟨by rfl, zi⟩) zu ?_
    refine kA (i := 9) (N := some 36) #[tt, tt, tt, tt, tt, tt, tt, tt, tt, tt, ff, ff] rfl rfl (hZ HT_.o HW_.o zk) (fun _ _ _ h => h) (.inl ⟨by rfl, zi7⟩) hHeld zu ?_
    refine one_ (i := 10) (N := some 37) #[tt, tt, tt, tt, tt, tt, tt, tt, tt, tt, tt, ff] rfl rfl (iS HT_.o zk) (by decide) (fun K hK => ?_)
    refine goes_ lV (by kernel_rfl) rfl #[.agg #[.slice e0 j.length e1, .slice e2 l.length e3, .slice (some s) a.length h6, .slice e4 q.length e5], .int .i64 (rd ((aH a r).f1) a9)] (by rfl) rfl rfl zq ?_
    with_reducible refine (dA.calls (fun k_ => some k_ = ob (.slice e0 j.length e1)) (.slice e0 j.length e1) j (fun k_ => some k_ = ob (.slice e2 l.length e3)) (.slice e2 l.length e3) l (fun k_ => ((w.heap.size ≤ k_) ∧ (some k_ ≠ ob (.slice e0 j.length e1) ∧ (some k_ ≠ ob (.slice e2 l.length e3) ∧ (some k_ ≠ ob (.slice e4 q.length e5) ∧ (k_ ≠ b ∧ k_ ≠ d)))))) _ _ a (fun k_ => some k_ = ob (.slice e4 q.length e5)) (.slice e4 q.length e5) q (rd ((aH a r).f1) a9) h2 h3 h4 h5 w _ ?side1 ?side2 ?side3 ?side4 ?side5 ?side6 ?side7 ?side8 ?side9 ?side10 ?side11 t1.o).mono ?_
    (case side1 => exact (zg_5 HB.o Zh.o Zi.o))
    (case side2 => exact jH rfl Zc.o)
    (case side3 => exact fun k_ e_ => (Zc.o.1 k_ e_.symm).2.1)
    (case side4 => exact fun k_ e_ => (Zc.o.1 k_ e_.symm).2.2)
    (case side5 => exact jH rfl Zd.o)
    (case side6 => exact fun k_ e_ => (Zd.o.1 k_ e_.symm).2.1)
    (case side7 => exact fun k_ e_ => (Zd.o.1 k_ e_.symm).2.2)
    (case side8 => exact iE (Zb.o) (fun k_ hk_ => ⟨hk_, hk_.2.1, hk_.2.2.1, hk_.2.2.2.1⟩))
    (case side9 => exact jH rfl Ze.o)
    (case side10 => exact fun k_ e_ => (Ze.o.1 k_ e_.symm).2.1)
    (case side11 => exact fun k_ e_ => (Ze.o.1 k_ e_.symm).2.2)
    rintro e l3 ⟨h9, i0, w3, i1, rfl, e8, e9, f8, f2, hb, hkp⟩
    have q4 := cell_kept (hHeld.2.2.2.2.1) hkp (by first | (rw [hY]; exact (fun hs_ => gM hs_ (fun e_ => ((jW (by decide) (by first | omega | (simp_all; omega)) (Zb.o)).2.1) e_) (fun e_ => gM e_ (fun e_ => ((jW (by decide) (by first | omega | (simp_all; omega)) (Zb.o)).2.2.1) e_) (fun e_ => ((jW (by decide) (by first | omega | (simp_all; omega)) (Zb.o)).2.2.2.1) e_)))) | (show ¬ _; simp only [hY]; exact (fun hs_ => gM hs_ (fun e_ => ((jW (by decide) (by first | omega | (simp_all; omega)) (Zb.o)).2.1) e_) (fun e_ => gM e_ (fun e_ => ((jW (by decide) (by first | omega | (simp_all; omega)) (Zb.o)).2.2.1) e_) (fun e_ => ((jW (by decide) (by first | omega | (simp_all; omega)) (Zb.o)).2.2.2.1) e_)))) | exact (fun hs_ => gM hs_ (fun e_ => ((jW (by decide) (by first | omega | (simp_all; omega)) (Zb.o)).2.1) e_) (fun e_ => gM e_ (fun e_ => ((jW (by decide) (by first | omega | (simp_all; omega)) (Zb.o)).2.2.1) e_) (fun e_ => ((jW (by decide) (by first | omega | (simp_all; omega)) (Zb.o)).2.2.2.1) e_)))); have q5 := cell_kept (hHeld.2.2.2.2.2.1) hkp (by first | (rw [hY]; exact (fun hs_ => gM hs_ (fun e_ => ((jW (by decide) (by first | omega | (simp_all; omega)) (Zb.o)).2.1) e_) (fun e_ => gM e_ (fun e_ => ((jW (by decide) (by first | omega | (simp_all; omega)) (Zb.o)).2.2.1) e_) (fun e_ => ((jW (by decide) (by first | omega | (simp_all; omega)) (Zb.o)).2.2.2.1) e_)))) | (show ¬ _; simp only [hY]; exact (fun hs_ => gM hs_ (fun e_ => ((jW (by decide) (by first | omega | (simp_all; omega)) (Zb.o)).2.1) e_) (fun e_ => gM e_ (fun e_ => ((jW (by decide) (by first | omega | (simp_all; omega)) (Zb.o)).2.2.1) e_) (fun e_ => ((jW (by decide) (by first | omega | (simp_all; omega)) (Zb.o)).2.2.2.1) e_)))) | exact (fun hs_ => gM hs_ (fun e_ => ((jW (by decide) (by first | omega | (simp_all; omega)) (Zb.o)).2.1) e_) (fun e_ => gM e_ (fun e_ => ((jW (by decide) (by first | omega | (simp_all; omega)) (Zb.o)).2.2.1) e_) (fun e_ => ((jW (by decide) (by first | omega | (simp_all; omega)) (Zb.o)).2.2.2.1) e_)))); have q6 := cell_kept (hHeld.2.2.2.2.2.2) hkp (by first | (rw [hY]; exact (fun hs_ => gM hs_ (fun e_ => ((jW (by decide) (by first | omega | (simp_all; omega)) (Zq.o)).2.1) e_) (fun e_ => gM e_ (fun e_ => ((jW (by decide) (by first | omega | (simp_all; omega)) (Zq.o)).2.2.1) e_) (fun e_ => ((jW (by decide) (by first | omega | (simp_all; omega)) (Zq.o)).2.2.2.1) e_)))) | (show ¬ _; simp only [hY]; exact (fun hs_ => gM hs_ (fun e_ => ((jW (by decide) (by first | omega | (simp_all; omega)) (Zq.o)).2.1) e_) (fun e_ => gM e_ (fun e_ => ((jW (by decide) (by first | omega | (simp_all; omega)) (Zq.o)).2.2.1) e_) (fun e_ => ((jW (by decide) (by first | omega | (simp_all; omega)) (Zq.o)).2.2.2.1) e_)))) | exact (fun hs_ => gM hs_ (fun e_ => ((jW (by decide) (by first | omega | (simp_all; omega)) (Zq.o)).2.1) e_) (fun e_ => gM e_ (fun e_ => ((jW (by decide) (by first | omega | (simp_all; omega)) (Zq.o)).2.2.1) e_) (fun e_ => ((jW (by decide) (by first | omega | (simp_all; omega)) (Zq.o)).2.2.2.1) e_))))
    refine ⟨_, rfl, ?_⟩
    have a0 := zm (iE (ok' := fun k_ => (w.heap.size ≤ k_) ∧ k_ ≠ b ∧ k_ ≠ d ∧ some k_ ≠ ob h9 ∧ some k_ ≠ ob i0 ∧ some k_ ≠ ob i1) (Kd.V_keptB (Zb.o) hkp (fun k_ hk_ hs_ => gM hs_ (fun e_ => (hk_.2.1) e_) (fun e_ => gM e_ (fun e_ => (hk_.2.2.1) e_) (fun e_ => (hk_.2.2.2.1) e_)))) (fun k_ hk_ => ⟨hk_.1.1, hk_.1.2.2.2.2.1, hk_.1.2.2.2.2.2, fun e_ => gM (e8.1 k_ e_.symm).1 (fun hs_ => hk_.2.1 hs_) (fun hn_ => kB.2 hk_.2.2 hn_), fun e_ => gM (e9.1 k_ e_.symm).1 (fun hs_ => hk_.2.1 hs_) (fun hn_ => kB.2 hk_.2.2 hn_), fun e_ => gM (f2.1 k_ e_.symm).1 (fun hs_ => hk_.2.1 hs_) (fun hn_ => kB.2 hk_.2.2 hn_)⟩)); have a2 := zm (mU (zg_3 Za.o) hkp (fun hs_ => gM hs_ (fun e_ => (fun e_ => (gJ Zc.o Za.o (by decide)) e_) e_) (fun e_ => gM e_ (fun e_ => (fun e_ => (gJ Zd.o Za.o (by decide)) e_) e_) (fun e_ => (fun e_ => (gJ Ze.o Za.o (by decide)) e_) e_)))); have a3 := zm (mU (zg_3 Zf.o) hkp (fun hs_ => gM hs_ (fun e_ => (fun e_ => (gJ Zc.o Zf.o (by decide)) e_) e_) (fun e_ => gM e_ (fun e_ => (fun e_ => (gJ Zd.o Zf.o (by decide)) e_) e_) (fun e_ => (fun e_ => (gJ Ze.o Zf.o (by decide)) e_) e_)))); have a4 := zm (eX (ok' := fun k_ => (w.heap.size ≤ k_) ∧ some k_ ≠ ob i0 ∧ some k_ ≠ ob i1) e8 (fun k_ hk_ => ⟨gM hk_.1 (fun hs_ => gM hs_ (fun hs_ => (Zc.o.1 k_ (hs_).symm).1) (fun hs_ => gM hs_ (fun hs_ => (Zd.o.1 k_ (hs_).symm).1) (fun hs_ => (Ze.o.1 k_ (hs_).symm).1))) (fun hn_ => (hU (eV (zg_5 HB.o Zh.o Zi.o)) hn_)), hk_.2.1, hk_.2.2⟩)); have a5 := zm (eX (ok' := fun k_ => (w.heap.size ≤ k_) ∧ some k_ ≠ ob h9 ∧ some k_ ≠ ob i1) e9 (fun k_ hk_ => ⟨gM hk_.1 (fun hs_ => gM hs_ (fun hs_ => (Zc.o.1 k_ (hs_).symm).1) (fun hs_ => gM hs_ (fun hs_ => (Zd.o.1 k_ (hs_).symm).1) (fun hs_ => (Ze.o.1 k_ (hs_).symm).1))) (fun hn_ => (hU (eV (zg_5 HB.o Zh.o Zi.o)) hn_)), hk_.2.1, hk_.2.2⟩)); have a6 := zm (iE (ok' := fun k_ => (w.heap.size ≤ k_) ∧ some k_ ≠ ob h9 ∧ some k_ ≠ ob i0 ∧ some k_ ≠ ob i1 ∧ k_ ≠ b ∧ k_ ≠ d) f8 (fun k_ hk_ => ⟨gM hk_.1 (fun hs_ => gM hs_ (fun hs_ => (Zc.o.1 k_ (hs_).symm).1) (fun hs_ => gM hs_ (fun hs_ => (Zd.o.1 k_ (hs_).symm).1) (fun hs_ => gM hs_ (fun hs_ => (Ze.o.1 k_ (hs_).symm).1) (fun hs_ => hs_.1)))) (fun hn_ => (hU (eV (zg_5 HB.o Zh.o Zi.o)) hn_)), hk_.2.1, hk_.2.2.1, hk_.2.2.2, gM hk_.1 (fun hs_ => gM hs_ (fun hs_ => fun e_ => (gJ Zc.o Za.o (by decide)) (by rw [← e_]; exact hs_)) (fun hs_ => gM hs_ (fun hs_ => fun e_ => (gJ Zd.o Za.o (by decide)) (by rw [← e_]; exact hs_)) (fun hs_ => gM hs_ (fun hs_ => fun e_ => (gJ Ze.o Za.o (by decide)) (by rw [← e_]; exact hs_)) (fun hs_ => hs_.2.2.2.2.1)))) (fun hn_ => (iB (g := b) (o := .cells #[.slice e0 j.length e1, .slice e2 l.length e3, .slice (some s) a.length h6, .slice e4 q.length e5] 31 (0, 0)) (zg_3 Za.o) k_ hn_)), gM hk_.1 (fun hs_ => gM hs_ (fun hs_ => fun e_ => (gJ Zc.o Zf.o (by decide)) (by rw [← e_]; exact hs_)) (fun hs_ => gM hs_ (fun hs_ => fun e_ => (gJ Zd.o Zf.o (by decide)) (by rw [← e_]; exact hs_)) (fun hs_ => gM hs_ (fun hs_ => fun e_ => (gJ Ze.o Zf.o (by decide)) (by rw [← e_]; exact hs_)) (fun hs_ => hs_.2.2.2.2.2)))) (fun hn_ => (iB (g := d) (o := .cells #[.slice none 0 0, .slice none 0 0, .slice none 0 0, .slice none 0 0] 31 (0, 0)) (zg_3 Zf.o) k_ hn_))⟩)); have a7 := zm (eX (ok' := fun k_ => (w.heap.size ≤ k_) ∧ some k_ ≠ ob h9 ∧ some k_ ≠ ob i0) f2 (fun k_ hk_ => ⟨gM hk_.1 (fun hs_ => gM hs_ (fun hs_ => (Zc.o.1 k_ (hs_).symm).1) (fun hs_ => gM hs_ (fun hs_ => (Zd.o.1 k_ (hs_).symm).1) (fun hs_ => (Ze.o.1 k_ (hs_).symm).1))) (fun hn_ => (hU (eV (zg_5 HB.o Zh.o Zi.o)) hn_)), hk_.2.1, hk_.2.2⟩)); have a8 := zm (hb); clear Zb; clear Za; clear Zf; clear HB; clear Zc; clear Zd; clear Ze; clear Zj; clear Zq; have Zb := a0; have Za := a2; have Zf := a3; have ZF := a4; have ZG := a5; have ZH := a6; have ZI := a7; have HB := a8; clear a0 a2 a3 a4 a5 a6 a7 a8
    (try clear hb)
    (try clear hkp)
    (try clear e8)
    (try clear e9)
    (try clear f8)
    (try clear f2)
    obtain ⟨m5, m6, m7⟩ := fA ZF.o
    (first | subst m7 | (injection m7 with f1_ f2_ f3_; have f4_ := f1_.symm; have f5_ := f3_.symm; clear f1_ f2_ f3_; subst f4_; subst f5_))
    obtain ⟨m8, m9, n0⟩ := fA ZG.o
    (first | subst n0 | (injection n0 with f1_ f2_ f3_; have f4_ := f1_.symm; have f5_ := f3_.symm; clear f1_ f2_ f3_; subst f4_; subst f5_))
    obtain ⟨n1, n2, n3⟩ := Kd.V_slice ZH.o
    (first | subst n3 | (injection n3 with f1_ f2_ f3_; have f4_ := f1_.symm; have f5_ := f3_.symm; clear f1_ f2_ f3_; subst f4_; subst f5_))
    obtain ⟨n4, n5, n6⟩ := fA ZI.o
    (first | subst n6 | (injection n6 with f1_ f2_ f3_; have f4_ := f1_.symm; have f5_ := f3_.symm; clear f1_ f2_ f3_; subst f4_; subst f5_))
    refine hK.out _ _ ⟨(eY Za.o 0).trans rfl, (eY Za.o 1).trans rfl, (eY Za.o 2).trans rfl, (eY Za.o 3).trans rfl, q4, q5, q6⟩ (fun hHeld => ?_)
    clear hK K
    refine norm_ (a' := ?_) ?_ ?_
    rotate_left
    ·show gE _ (some 37) _ = _
     simp only [gE, zs, zz, zt, iQ, i32_w]
     rfl
    refine last_ (i := 11) (N := none) #[tt, tt, tt, tt, tt, tt, tt, tt, tt, tt, tt, tt] rfl rfl (iS HT_.o zk) (by decide) (fun K hK => ?_)
    have w4 : l3.cell? ⟨b, 0, none⟩ = some (.slice e0 j.length e1) := (eY Za.o 0).trans rfl
    have u2 := gL Za.o 0; have r7 := Zg.o; have r8 := Zk.o
    have w5 : l3.cell? ⟨b, 1, none⟩ = some (.slice e2 l.length e3) := (eY Za.o 1).trans rfl
    have u3 := gL Za.o 1; have r9 := Zg.o; have s0 := Zk.o
    have w8 : l3.cell? ⟨b, 2, none⟩ = some (.slice (some s) a.length h6) := (eY Za.o 2).trans rfl
    have u4 := gL Za.o 2; have s1 := Zg.o; have s2 := Zk.o
    have w9 : l3.cell? ⟨b, 3, none⟩ = some (.slice e4 q.length e5) := (eY Za.o 3).trans rfl
    have u5 := gL Za.o 3; have s3 := Zg.o; have s4 := Zk.o
    refine skip_ (w1 := ?_) (by rfl) rfl ?_ ?_
    rotate_left
    ·go_simp
     rfl
    refine hK.out _ _ ?_
    clear hK K
    refine done_ (done_of HT_.o zk) ?_
    try go_wp2
    go_roundg k1
    case measure => have := p4.o; omega
    case rel => exact ⟨(wrap64 (a9 + 1)), (h2), (h3), (h4), (h5), (.slice m5 h2.length m6), (.slice m8 h3.length m9), (.slice n1 h4.length n2), (.slice n4 h5.length n5), zr, H', ⟨by have := p4.o; omega⟩, ⟨eX (zR4 (fD ZF.o Za.o (by decide))) (fun _ hk => ⟨hk.1.1, ⟨hk.1.2.1, hk.1.2.2⟩⟩)⟩, ⟨eX (zR4 (fD ZG.o Za.o (by decide))) (fun _ hk => ⟨hk.1.1, ⟨hk.1.2.1, hk.1.2.2⟩⟩)⟩, ⟨by (with_reducible repeat (first | apply Kd.V_alloc | apply Kd.V_drewN | apply jN)); exact iE (kK (p := ⟨b, 3, none⟩) (kK (p := ⟨b, 2, none⟩) (kK (p := ⟨b, 1, none⟩) (kK (p := ⟨b, 0, none⟩) (iE ZH.o (fun k_ hk => (⟨hk, hk.2.2.2.2.1⟩ : _ ∧ k_ ≠ b))) (fun _ hk => hk.2) (.slice m5 h2.length m6)) (fun _ hk => hk.2) (.slice m8 h3.length m9)) (fun _ hk => hk.2) (.slice n1 h4.length n2)) (fun _ hk => hk.2) (.slice n4 h5.length n5)) (fun _ hk => ⟨hk.1.1, ⟨hk.1.2.1, ⟨hk.1.2.2.1, ⟨hk.1.2.2.2.1, ⟨hk.1.2.2.2.2.1, hk.1.2.2.2.2.2⟩⟩⟩⟩⟩)⟩, ⟨eX (zR4 (fD ZI.o Za.o (by decide))) (fun _ hk => ⟨hk.1.1, ⟨hk.1.2.1, hk.1.2.2⟩⟩)⟩, ⟨by exact zput4 Za.o⟩, ⟨by exact zfar4 Zf.o Zg.o⟩, ⟨zg_5 HB.o Zh.o Zi.o⟩⟩
   rw [if_neg g6] at H; have o4 := decide_eq_false g6; clear g6
   obtain ⟨f7, i2⟩ : ∃ y_ : List (S60), y_ = (([] : List (S60))) := ⟨_, rfl⟩
   replace H : (if r ≤ (a.length : Int) then ((some (a.take (r : Int).toNat : List (S60))).bind fun b0 => (if f7.length + b0.length < 3518437208883 then ((some (f7 ++ b0 : List (S60))).bind fun Z => (if 0 ≤ (wrap64 (r + 1)) then (if (wrap64 (r + 1)) ≤ (a.length : Int) then ((some (a.drop ((wrap64 (r + 1)) : Int).toNat : List (S60))).bind fun y => (if Z.length + y.length < 3518437208883 then (some (j, l, (Z ++ y), q, 0)) else (none))) else (none)) else (none))) else (none))) else (none)) = some (r1, r2, r3, r4, r5) := zy H i2
   have l4 := zm i2; clear i2; have u6 := eq_true (zd : 0 ≤ r)
   replace H := zif H; obtain ⟨n7, H⟩ := H; have u7 := eq_true n7; have u8 := decide_eq_true n7; clear n7
   obtain ⟨b0, i3⟩ : ∃ y_ : List (S60), y_ = (a.take (r : Int).toNat) := ⟨_, rfl⟩
   replace H : (if f7.length + b0.length < 3518437208883 then ((some (f7 ++ b0 : List (S60))).bind fun Z => (if 0 ≤ (wrap64 (r + 1)) then (if (wrap64 (r + 1)) ≤ (a.length : Int) then ((some (a.drop ((wrap64 (r + 1)) : Int).toNat : List (S60))).bind fun y => (if Z.length + y.length < 3518437208883 then (some (j, l, (Z ++ y), q, 0)) else (none))) else (none)) else (none))) else (none)) = some (r1, r2, r3, r4, r5) := zy H i3
   have l5 := zm i3; clear i3
   replace H := zif H; obtain ⟨p6, H⟩ := H; have o6 := zm p6; clear p6
   obtain ⟨Z, i4⟩ : ∃ y_ : List (S60), y_ = (f7 ++ b0) := ⟨_, rfl⟩
   replace H : (if 0 ≤ (wrap64 (r + 1)) then (if (wrap64 (r + 1)) ≤ (a.length : Int) then ((some (a.drop ((wrap64 (r + 1)) : Int).toNat : List (S60))).bind fun y => (if Z.length + y.length < 3518437208883 then (some (j, l, (Z ++ y), q, 0)) else (none))) else (none)) else (none)) = some (r1, r2, r3, r4, r5) := zy H i4
   have o7 := zm i4; clear i4
   obtain ⟨ji58, hji58⟩ : ∃ j_ : Int, (wrap64 (r + 1)) = j_ := ⟨_, rfl⟩
   replace H : (if 0 ≤ (ji58) then (if (ji58) ≤ (a.length : Int) then ((some (a.drop ((ji58) : Int).toNat : List (S60))).bind fun y => (if Z.length + y.length < 3518437208883 then (some (j, l, (Z ++ y), q, 0)) else (none))) else (none)) else (none)) = some (r1, r2, r3, r4, r5) := by first | (rw [hji58] at H; exact H) | (simp only [hji58] at H ⊢; exact H)
   have hji58w : (nK.wrap (r + 1)) = ji58 := (iQ _).trans hji58
   replace H := zif H; obtain ⟨n8, H⟩ := H; have u9 := eq_true n8; have v0 := decide_eq_true n8; clear n8
   replace H := zif H; obtain ⟨n9, H⟩ := H; have v1 := eq_true n9; have v2 := decide_eq_true n9; clear n9
   obtain ⟨y, i5⟩ : ∃ y_ : List (S60), y_ = (a.drop ((ji58) : Int).toNat) := ⟨_, rfl⟩
   replace H : (if Z.length + y.length < 3518437208883 then (some (j, l, (Z ++ y), q, 0)) else (none)) = some (r1, r2, r3, r4, r5) := zy H i5
   have l6 := zm i5; clear i5
   replace H := zif H; obtain ⟨p7, H⟩ := H; have o8 := zm p7; clear p7
   obtain ⟨b1, i6⟩ : ∃ y_ : List (S60), y_ = (Z ++ y) := ⟨_, rfl⟩
   replace H : (some (j, l, b1, q, 0)) = some (r1, r2, r3, r4, r5) := zy H i6
   have o9 := zm i6; clear i6
   simp only [gC, gP] at H
   obtain ⟨rfl, rfl, rfl, rfl, rfl⟩ := H
   have v3 := Zk.o; have v4 := Zg.o
   obtain ⟨_, _, _, _, _, _, _, _⟩ := zb4 Za.o
   obtain ⟨x0, G, q7⟩ := Kd.V_slice Zb.o
   subst q7
   have d4 : 0 ≤ (r : Int) := zd
   have d5 : r < (a.length : Int) := zd
   obtain ⟨s, l9, m0, j5, hx367_0, hx367_1, hl367_1, hi367_1⟩ := at_T60 (lN Zb.o).2.2 r d4 d5
   cases j5
   obtain ⟨ce367, hce367, hMe367, hcc367⟩ := Kd.V_get Zb.o z60 r d4 (by first | exact d5 | exact zd | (have e_ := (lN Zb.o).1; omega))
   obtain ⟨ua367_1, uc367_1, rfl, ul367_1, ge367_1⟩ := k60_openF hMe367
   have hv367_1 := hcc367 1 _ rfl
   rw [add_field _ _ 1 (by omega)] at hv367_1
   replace hv367_1 := fF (hv367_1.symm.trans hx367_1)
   injection hv367_1 with hva_ hvn_ hvc_
   rw [hva_] at ge367_1
   rw [hvc_] at ul367_1
   have Zj := zm (show Kd.V (fG .i64) 3 _ w.heap.size _ _ ((aH a r).f1) from nF ul367_1 ge367_1); clear hva_ hvn_ hvc_ ge367_1 ul367_1; clear hcc367 hce367; have Zl := zm hi367_1; have Zw := zm hl367_1; clear hi367_1 hl367_1; replace d4 := eq_true d4; replace d5 := eq_true d5
   try go_wp2
   have a0 := zm (fK Zc.o); have a2 := zm (fK Zd.o); have a3 := zm (jN Zb.o); have a4 := zm (fK Ze.o); have a5 := zm (jN Zj.o); have a6 := zm (fU Za.o); have a7 := zm (fU Zf.o); have a8 := zm (mH Zl.o); have b2 := zm (gA HB.o); clear Zc; clear Zd; clear Zb; clear Ze; clear Zj; clear Za; clear Zf; clear Zl; clear HB; have Zc := a0; have Zd := a2; have Zb := a3; have Ze := a4; have Zj := a5; have Za := a6; have Zf := a7; have Zl := a8; have HB := b2; clear a0 a2 a3 a4 a5 a6 a7 a8 b2
   have o0 : (r : Int) ≤ ((a.length : Int) : Int) := zd
   obtain ⟨i066, hi066, _, hsz66, _⟩ := info_parts info60
   have hroom66 : a.length ≤ G := (lN Zb.o).2.1
   have hC66 : Kd.F k60 _ _ (some s) a.length a := (Kd.V_at (base := w.heap.size) Zb.o).2.2
   have hcut66 := cut_to (P := fM) 29 60 .i64 mL hi066 (some s) a.length G r (zd) o0 hroom66; have j8 := Kd.F_take (m := (r : Int).toNat) hC66 (by omega)
   have j9 : b0.length = (r : Int).toNat := (by rw [l5.o, List.length_take]; omega)
   rw [← l5.o] at j8
   rw [← j9] at hcut66
   have Zr := zm (show Kd.V k60 60 _ w.heap.size _ (.slice (some s) b0.length G) b0 from nF (by omega) j8); have ZN := zm (show b0.length ≤ G from by omega); clear j8 hC66 hroom66 hi066 hsz66; have KY66 := zm j9; clear j9; replace o0 := eq_true o0
   have o1 : ((ji58) : Int) ≤ ((a.length : Int) : Int) := zd
   obtain ⟨i067, hi067, _, hsz67, _⟩ := info_parts info60
   have hroom67 : a.length ≤ G := (lN Zb.o).2.1
   have hC67 : Kd.F k60 _ _ (some s) a.length a := (Kd.V_at (base := w.heap.size) Zb.o).2.2
   have q8 : (0 : Int) ≤ ((ji58) : Int) := zd
   have hcut67 := cut_from (P := fM) 29 60 .i64 mL hi067 2 hsz67 (some s) a.length G (ji58) q8 o1; have g2 := Kd.F_cut (m := ((ji58) : Int).toNat) (c := G) hC67 (by omega) hroom67
   obtain ⟨p8, hA67⟩ : ∃ A1, A1 = (if G = ((ji58) : Int).toNat then (some s) else ((some s) : Option Addr).map (·.add (((ji58) : Int).toNat * 2))) := ⟨_, rfl⟩
   obtain ⟨p9, i7⟩ : ∃ c1, c1 = G - ((ji58) : Int).toNat := ⟨_, rfl⟩
   have g3 : y.length = a.length - ((ji58) : Int).toNat := (by rw [l6.o, List.length_drop] <;> omega)
   rw [show (a).drop ((ji58) : Int).toNat = y from l6.o.symm] at g2
   replace g2 : Kd.F k60 _ _ p8 y.length y := (by rw [hA67]; exact g2)
   rw [← g3, ← hA67, ← i7] at hcut67
   have Zs := zm (show Kd.V k60 60 _ w.heap.size _ (.slice p8 y.length p9) y from nF (by rw [g3, i7]; exact Nat.sub_le_sub_right hroom67 _) g2); have ZO := zm (show y.length ≤ p9 from by rw [g3, i7]; exact Nat.sub_le_sub_right hroom67 _); clear g2 hC67 hroom67 hi067 hsz67 i7; have KY67 := zm g3; have KA67 := zm hA67; clear g3 hA67; replace o1 := eq_true o1
   refine start_ (n := 14) (S := fun w' => w'.cell? ⟨b, 0, none⟩ = some (u353000) ∧ w'.cell? ⟨b, 1, none⟩ = some (u353001) ∧ w'.cell? ⟨b, 2, none⟩ = some (.slice (some s) a.length G) ∧ w'.cell? ⟨b, 3, none⟩ = some (u353003)) (ds := [13]) #[ff, ff, ff, ff, ff, ff, ff, ff, ff, ff, ff, ff, ff, ff] (by kernel_rfl) rfl rfl ⟨(eY Za.o 0).trans rfl, (eY Za.o 1).trans rfl, (eY Za.o 2).trans rfl, (eY Za.o 3).trans rfl⟩ (fun hHeld => ?_); refine kJ aK.tab9 aK.bits9 (fun HT_ HW_ => ?_)
   generalize wr.drew = t3 at Zc Zd Zb Ze Zj Za Zf Zl HB Zr Zs hHeld ⊢
   refine gR (i := 1) (N := some 39) #[ff, tt, ff, ff, ff, ff, ff, ff, ff, ff, ff, ff, ff, ff] rfl rfl (gD HT_.o zk) (fun _ _ _ h => h) (.inl ⟨by rfl, zi⟩) zu ?_
   refine gR (i := 3) (N := some 41) #[ff, tt, ff, tt, ff, ff, ff, ff, ff, ff, ff, ff, ff, ff] rfl rfl (gD HT_.o zk) (fun _ _ _ h => h) (.inl ⟨by rfl, zi⟩) zu ?_
   refine gR (i := 6) (N := some 44) #[ff, tt, ff, tt, ff, ff, tt, ff, ff, ff, ff, ff, ff, ff] rfl rfl (gD HT_.o zk) (fun _ _ _ h => h) (.inl ⟨by rfl, zi⟩) zu ?_
   refine gR (i := 8) (N := some 46) #[ff, tt, ff, tt, ff, ff, tt, ff, tt, ff, ff, ff, ff, ff] rfl rfl (gD HT_.o zk) (fun _ _ _ h => h) (.inl ⟨by rfl, zi⟩) zu ?_
   refine gR (i := 9) (N := some 47) #[ff, tt, ff, tt, ff, ff, tt, ff, tt, tt, ff, ff, ff, ff] rfl rfl (gD HT_.o zk) (fun _ _ _ h => h) (.inl ⟨by rfl, zi⟩) zu ?_
   refine kA (i := 2) (N := some 40) #[ff, tt, tt, tt, ff, ff, tt, ff, tt, tt, ff, ff, ff, ff] rfl rfl (hZ HT_.o HW_.o zk) (fun _ _ _ h => h) (.inl ⟨by rfl, zi4⟩) hHeld zu ?_
   refine gR (i := 4) (N := some 42) #[ff, tt, tt, tt, tt, ff, tt, ff, tt, tt, ff, ff, ff, ff] rfl rfl (gD HT_.o zk) (fun _ _ _ h => h) (.inl ⟨by rfl, zi⟩) zu ?_
   refine kA (i := 7) (N := some 45) #[ff, tt, tt, tt, tt, ff, tt, tt, tt, tt, ff, ff, ff, ff] rfl rfl (hZ HT_.o HW_.o zk) (fun _ _ _ h => h) (.inl ⟨by rfl, zi4⟩) hHeld zu ?_
   refine gR (i := 10) (N := some 48) #[ff, tt, tt, tt, tt, ff, tt, tt, tt, tt, tt, ff, ff, ff] rfl rfl (gD HT_.o zk) (fun _ _ _ h => h) (.inl ⟨by rfl, zi⟩) zu ?_
   refine one_ (i := 0) (N := some 38) #[tt, tt, tt, tt, tt, ff, tt, tt, tt, tt, tt, ff, ff, ff] rfl rfl (iS HT_.o zk) (by decide) (fun K hK => ?_)
   refine Kd.N_lit_step k60 _ 60 ?hg (N' := 38) ?hd (xs := ([] : List (S60))) (inner := []) (ok := (fun k_ => (w.heap.size ≤ k_) ∧ some k_ ≠ ob u353000 ∧ some k_ ≠ ob u353001 ∧ some k_ ≠ ob u353003 ∧ k_ ≠ b ∧ k_ ≠ d)) (okp := (fun k_ => (w.heap.size ≤ k_) ∧ some k_ ≠ ob u353000 ∧ some k_ ≠ ob u353001 ∧ some k_ ≠ ob u353003 ∧ k_ ≠ b ∧ k_ ≠ d)) ?hr ?hp (fun _ hk => hk) ((show ∀ k_, t3.heap.size ≤ k_ → (fun k_ => (w.heap.size ≤ k_) ∧ some k_ ≠ ob u353000 ∧ some k_ ≠ ob u353001 ∧ some k_ ≠ ob u353003 ∧ k_ ≠ b ∧ k_ ≠ d) k_ from fun k_ hk => ⟨(hU (eV (zg_5 HB.o Zh.o Zi.o)) hk), gF (fO (zg_6 Zc.o)) k_ hk, gF (fO (zg_6 Zd.o)) k_ hk, gF (fO (zg_6 Ze.o)) k_ hk, iB (g := b) (o := .cells #[u353000, u353001, .slice (some s) a.length G, u353003] 31 (0, 0)) (zg_3 Za.o) k_ hk, iB (g := d) (o := .cells #[.slice none 0 0, .slice none 0 0, .slice none 0 0, .slice none 0 0] 31 (0, 0)) (zg_3 Zf.o) k_ hk⟩) _ (fQ _)) (fX _ _) (fQ _) (by simp) ?_; (case hd => rfl); (case hg => rfl); (case hr => first | (go_simp; done) | (go_simp; rfl)); (case hp => exact (jD _ _))
   intro k0 y3 d6 hb hg_ hnew_
   clear hg_ hnew_
   (first | rw [← l4.o] at d6 | (simp only [gX] at d6; rw [← l4.o] at d6))
   have a0 := zm (fI (zg_6 Zc.o) hb); have a2 := zm (fI (zg_6 Zd.o) hb); have a3 := zm (oE (zg_0 Zb.o) (lA d6) hb); have a4 := zm (fI (zg_6 Ze.o) hb); have a5 := zm (oE (zg_0 Zj.o) (lA d6) hb); have a6 := zm (oE (zg_0 Zr.o) (lA d6) hb); have a7 := zm (oE (zg_0 Zs.o) (lA d6) hb); have a8 := zm (jK d6 (eV (zg_5 HB.o Zh.o Zi.o))); have b2 := zm (fB (g := b) (o := .cells #[u353000, u353001, .slice (some s) a.length G, u353003] 31 (0, 0)) (zg_3 Za.o) hb); have f9 := zm (fB (g := d) (o := .cells #[.slice none 0 0, .slice none 0 0, .slice none 0 0, .slice none 0 0] 31 (0, 0)) (zg_3 Zf.o) hb); have d7 := zm (fE (by repeat (first | (with_reducible exact Zl.o) | (with_reducible refine Kd.C_alloc ?_ _) | (with_reducible refine Kd.C_drewN ?_ _) | (with_reducible refine mH ?_) | exact Zl.o)) hb); have o2 := zm (eZ (zg_5 HB.o Zh.o Zi.o) hb); clear Zc; clear Zd; clear Zb; clear Ze; clear Zj; clear Zr; clear Zs; clear Za; clear Zf; clear Zl; clear HB; have Zc := a0; have Zd := a2; have Zb := a3; have Ze := a4; have Zj := a5; have Zr := a6; have Zs := a7; have Zt := a8; have Za := b2; have Zf := f9; have Zl := d7; have HB := o2; clear a0 a2 a3 a4 a5 a6 a7 a8 b2 f9 d7 o2; clear hb d6
   refine hK.out _ _ ⟨(eY Za.o 0).trans rfl, (eY Za.o 1).trans rfl, (eY Za.o 2).trans rfl, (eY Za.o 3).trans rfl⟩ (fun hHeld => ?_)
   clear hK K
   refine norm_ (a' := ?_) ?_ ?_
   rotate_left
   ·show gE _ (some 38) _ = _
    simp only [gE, zs, zz, zt, iQ, i32_w]
    rfl
   refine one_ (i := 5) (N := some 43) #[tt, tt, tt, tt, tt, tt, tt, tt, tt, tt, tt, ff, ff, ff] rfl rfl (iS HT_.o zk) (by decide) (fun K hK => ?_)
   refine Kd.N_append_rows_step k60 (w0 := w) w.heap.size (by rfl) (.tmp 38) (.tmp 42) 29 60 (.agg #[(.string ⟨#[]⟩), (.slice none 0 0)]) 40 rfl mL info60 rfl (by decide) (by omega) k0 f7 b0 _ _ _ (fun k_ => (w.heap.size ≤ k_) ∧ some k_ ≠ ob u353000 ∧ some k_ ≠ ob u353001 ∧ some k_ ≠ ob u353003 ∧ k_ ≠ b ∧ k_ ≠ d) (fun k_ => ((fun k_ => (w.heap.size ≤ k_) ∧ some k_ ≠ ob u353000 ∧ some k_ ≠ ob u353001 ∧ some k_ ≠ ob u353003 ∧ k_ ≠ b ∧ k_ ≠ d)) k_ ∧ some k_ ≠ ob k0) rfl rfl ?aO ?aR (fun _ hk => hk) ?aF ?aB ?aS ?aL ?_
   (case aR => exact (by skip; exact Kd.V_F (iE (ok' := (fun k_ => ((fun k_ => (w.heap.size ≤ k_) ∧ some k_ ≠ ob u353000 ∧ some k_ ≠ ob u353001 ∧ some k_ ≠ ob u353003 ∧ k_ ≠ b ∧ k_ ≠ d)) k_ ∧ some k_ ≠ ob k0)) (Zr.o) (fun k_ hk => ⟨⟨hk.1.1, ⟨hk.1.2.1, ⟨hk.1.2.2.1, ⟨hk.1.2.2.2.1, ⟨hk.1.2.2.2.2.1, hk.1.2.2.2.2.2⟩⟩⟩⟩⟩, hk.2⟩))))
   (case aB => exact (zg_5 HB.o Zh.o Zi.o))
   (case aF => exact (fun k_ hk => ⟨(hU (eV (zg_5 HB.o Zh.o Zi.o)) hk), gF (fO (zg_6 Zc.o)) k_ hk, gF (fO (zg_6 Zd.o)) k_ hk, gF (fO (zg_6 Ze.o)) k_ hk, iB (g := b) (o := .cells #[u353000, u353001, .slice (some s) a.length G, u353003] 31 (0, 0)) (zg_3 Za.o) k_ hk, iB (g := d) (o := .cells #[.slice none 0 0, .slice none 0 0, .slice none 0 0, .slice none 0 0] 31 (0, 0)) (zg_3 Zf.o) k_ hk⟩))
   (case aO => exact (zg_4 Zt.o))
   (case aS => exact (eV (zg_5 HB.o Zh.o Zi.o)))
   (case aL => have := o6.o; omega)
   intro k2 y4 ho hb hg hat
   rw [← o7.o] at ho
   have a0 := zm (lL (zg_6 Zc.o) (Kd.N_typed (zg_4 Zt.o)) (by decide) hg); have a2 := zm (lL (zg_6 Zd.o) (Kd.N_typed (zg_4 Zt.o)) (by decide) hg); have a3 := zm (kV (ok := (fun k_ => (w.heap.size ≤ k_) ∧ some k_ ≠ ob u353000 ∧ some k_ ≠ ob u353001 ∧ some k_ ≠ ob u353003 ∧ k_ ≠ b ∧ k_ ≠ d)) (zg_0 Zb.o) hg hat); have a4 := zm (lL (zg_6 Ze.o) (Kd.N_typed (zg_4 Zt.o)) (by decide) hg); have a5 := zm (gW (g := b) (o := .cells #[u353000, u353001, .slice (some s) a.length G, u353003] 31 (0, 0)) (zg_3 Za.o) hg (Kd.N_ne Zt.o Za.o (by decide))); have a6 := zm (gW (g := d) (o := .cells #[.slice none 0 0, .slice none 0 0, .slice none 0 0, .slice none 0 0] 31 (0, 0)) (zg_3 Zf.o) hg (Kd.N_ne Zt.o Zf.o (by decide))); have a7 := zm (kV (ok := (fun k_ => (w.heap.size ≤ k_) ∧ some k_ ≠ ob u353000 ∧ some k_ ≠ ob u353001 ∧ some k_ ≠ ob u353003 ∧ k_ ≠ b ∧ k_ ≠ d)) (zg_0 Zj.o) hg hat); have a8 := zm (kV (ok := (fun k_ => (w.heap.size ≤ k_) ∧ some k_ ≠ ob u353000 ∧ some k_ ≠ ob u353001 ∧ some k_ ≠ ob u353003 ∧ k_ ≠ b ∧ k_ ≠ d)) (zg_0 Zr.o) hg hat); have b2 := zm (kV (ok := (fun k_ => (w.heap.size ≤ k_) ∧ some k_ ≠ ob u353000 ∧ some k_ ≠ ob u353001 ∧ some k_ ≠ ob u353003 ∧ k_ ≠ b ∧ k_ ≠ d)) (zg_0 Zs.o) hg hat); have f9 := zm (hb); have d7 := zm (ho); clear Zc; clear Zd; clear Zb; clear Ze; clear Za; clear Zf; clear Zj; clear Zr; clear Zs; clear HB; clear Zt; have Zc := a0; have Zd := a2; have Zb := a3; have Ze := a4; have Za := a5; have Zf := a6; have Zj := a7; have Zr := a8; have Zs := b2; have HB := f9; have Zu := d7; clear a0 a2 a3 a4 a5 a6 a7 a8 b2 f9 d7; clear ho hb hg hat
   refine hK.out _ _ ⟨(eY Za.o 0).trans rfl, (eY Za.o 1).trans rfl, (eY Za.o 2).trans rfl, (eY Za.o 3).trans rfl⟩ (fun hHeld => ?_)
   clear hK K
   refine norm_ (a' := ?_) ?_ ?_
   rotate_left
   ·show gE _ (some 43) _ = _
    simp only [gE, zs, zz, zt, iQ, i32_w]
    rfl
   refine one_ (i := 11) (N := some 49) #[tt, tt, tt, tt, tt, tt, tt, tt, tt, tt, tt, tt, ff, ff] rfl rfl (iS HT_.o zk) (by decide) (fun K hK => ?_)
   refine Kd.N_append_rows_step k60 (w0 := w) w.heap.size (by rfl) (.tmp 43) (.tmp 48) 29 60 (.agg #[(.string ⟨#[]⟩), (.slice none 0 0)]) 40 rfl mL info60 rfl (by decide) (by omega) k2 Z y _ _ _ (fun k_ => (w.heap.size ≤ k_) ∧ some k_ ≠ ob u353000 ∧ some k_ ≠ ob u353001 ∧ some k_ ≠ ob u353003 ∧ k_ ≠ b ∧ k_ ≠ d) (fun k_ => ((fun k_ => (w.heap.size ≤ k_) ∧ some k_ ≠ ob u353000 ∧ some k_ ≠ ob u353001 ∧ some k_ ≠ ob u353003 ∧ k_ ≠ b ∧ k_ ≠ d)) k_ ∧ some k_ ≠ ob k2) rfl rfl ?aO ?aR (fun _ hk => hk) ?aF ?aB ?aS ?aL ?_
   (case aR => exact (by skip; exact Kd.V_F (iE (ok' := (fun k_ => ((fun k_ => (w.heap.size ≤ k_) ∧ some k_ ≠ ob u353000 ∧ some k_ ≠ ob u353001 ∧ some k_ ≠ ob u353003 ∧ k_ ≠ b ∧ k_ ≠ d)) k_ ∧ some k_ ≠ ob k2)) (Zs.o) (fun k_ hk => ⟨⟨hk.1.1, ⟨hk.1.2.1, ⟨hk.1.2.2.1, ⟨hk.1.2.2.2.1, ⟨hk.1.2.2.2.2.1, hk.1.2.2.2.2.2⟩⟩⟩⟩⟩, hk.2⟩))))
   (case aB => exact (zg_5 HB.o Zh.o Zi.o))
   (case aF => exact (fun k_ hk => ⟨(hU (eV (zg_5 HB.o Zh.o Zi.o)) hk), gF (fO (zg_6 Zc.o)) k_ hk, gF (fO (zg_6 Zd.o)) k_ hk, gF (fO (zg_6 Ze.o)) k_ hk, iB (g := b) (o := .cells #[u353000, u353001, .slice (some s) a.length G, u353003] 31 (0, 0)) (zg_3 Za.o) k_ hk, iB (g := d) (o := .cells #[.slice none 0 0, .slice none 0 0, .slice none 0 0, .slice none 0 0] 31 (0, 0)) (zg_3 Zf.o) k_ hk⟩))
   (case aO => exact (zg_4 Zu.o))
   (case aS => exact (eV (zg_5 HB.o Zh.o Zi.o)))
   (case aL => have := o8.o; omega)
   intro x3 t4 ho hb hg hat
   rw [← o9.o] at ho
   have a0 := zm (lL (zg_6 Zc.o) (Kd.N_typed (zg_4 Zu.o)) (by decide) hg); have a2 := zm (lL (zg_6 Zd.o) (Kd.N_typed (zg_4 Zu.o)) (by decide) hg); have a3 := zm (kV (ok := (fun k_ => (w.heap.size ≤ k_) ∧ some k_ ≠ ob u353000 ∧ some k_ ≠ ob u353001 ∧ some k_ ≠ ob u353003 ∧ k_ ≠ b ∧ k_ ≠ d)) (zg_0 Zb.o) hg hat); have a4 := zm (lL (zg_6 Ze.o) (Kd.N_typed (zg_4 Zu.o)) (by decide) hg); have a5 := zm (gW (g := b) (o := .cells #[u353000, u353001, .slice (some s) a.length G, u353003] 31 (0, 0)) (zg_3 Za.o) hg (Kd.N_ne Zu.o Za.o (by decide))); have a6 := zm (gW (g := d) (o := .cells #[.slice none 0 0, .slice none 0 0, .slice none 0 0, .slice none 0 0] 31 (0, 0)) (zg_3 Zf.o) hg (Kd.N_ne Zu.o Zf.o (by decide))); have a7 := zm (kV (ok := (fun k_ => (w.heap.size ≤ k_) ∧ some k_ ≠ ob u353000 ∧ some k_ ≠ ob u353001 ∧ some k_ ≠ ob u353003 ∧ k_ ≠ b ∧ k_ ≠ d)) (zg_0 Zj.o) hg hat); have a8 := zm (kV (ok := (fun k_ => (w.heap.size ≤ k_) ∧ some k_ ≠ ob u353000 ∧ some k_ ≠ ob u353001 ∧ some k_ ≠ ob u353003 ∧ k_ ≠ b ∧ k_ ≠ d)) (zg_0 Zr.o) hg hat); have b2 := zm (kV (ok := (fun k_ => (w.heap.size ≤ k_) ∧ some k_ ≠ ob u353000 ∧ some k_ ≠ ob u353001 ∧ some k_ ≠ ob u353003 ∧ k_ ≠ b ∧ k_ ≠ d)) (zg_0 Zs.o) hg hat); have f9 := zm (hb); have d7 := zm (ho); clear Zc; clear Zd; clear Zb; clear Ze; clear Za; clear Zf; clear Zj; clear Zr; clear Zs; clear HB; clear Zu; have Zc := a0; have Zd := a2; have Zb := a3; have Ze := a4; have Za := a5; have Zf := a6; have Zj := a7; have Zr := a8; have Zs := b2; have HB := f9; have ZJ := d7; clear a0 a2 a3 a4 a5 a6 a7 a8 b2 f9 d7; clear ho hb hg hat
   obtain ⟨b3, b4, o3⟩ := iR ZJ.o
   (first | subst o3 | (injection o3 with f1_ f2_ f3_; have f4_ := f1_.symm; have f5_ := f3_.symm; clear f1_ f2_ f3_; subst f4_; subst f5_))
   refine hK.out _ _ ⟨(eY Za.o 0).trans rfl, (eY Za.o 1).trans rfl, (eY Za.o 2).trans rfl, (eY Za.o 3).trans rfl⟩ (fun hHeld => ?_)
   clear hK K
   refine norm_ (a' := ?_) ?_ ?_
   rotate_left
   ·show gE _ (some 49) _ = _
    simp only [gE, zs, zz, zt, iQ, i32_w]
    rfl
   refine gR (i := 12) (N := some 50) #[tt, tt, tt, tt, tt, tt, tt, tt, tt, tt, tt, tt, tt, ff] rfl rfl (gD HT_.o zk) (fun _ _ _ h => h) (.inl ⟨by rfl, zi⟩) zu ?_
   refine last_ (i := 13) (N := none) #[tt, tt, tt, tt, tt, tt, tt, tt, tt, tt, tt, tt, tt, tt] rfl rfl (iS HT_.o zk) (by decide) (fun K hK => ?_)
   have x4 : t4.cell? ⟨b, 2, none⟩ = some (.slice (some s) a.length G) := (eY Za.o 2).trans rfl
   have v5 := gL Za.o 2; have s5 := Zg.o; have s6 := Zk.o
   refine skip_ (w1 := ?_) (by rfl) rfl ?_ ?_
   rotate_left
   ·go_simp
    rfl
   refine hK.out _ _ ?_
   clear hK K
   refine done_ (done_of HT_.o zk) ?_
   obtain ⟨_, _, _, _, _, _, _, _⟩ := zb4 Za.o
   obtain ⟨d8, d9, q9⟩ := fA Zc.o
   subst q9
   obtain ⟨_, _, _, _, _, _, _, _⟩ := zb4 Zf.o
   obtain ⟨e6, e7, r0⟩ := fA Zd.o
   subst r0
   obtain ⟨g4, g5, r6⟩ := fA Ze.o
   subst r6
   try go_wp2
   refine iD (results_ct rfl _ _ d 31 #[.slice d8 j.length d9, .slice e6 l.length e7, .slice b3 b1.length b4, .slice g4 q.length g5] (0, 0) _ rfl (by (with_reducible repeat (first | refine gG ?_ _ | refine fU ?_ | refine fV ?_ _)); refine jS (cs := #[.slice d8 j.length d9, .slice e6 l.length e7, .slice b3 b1.length b4, .slice none 0 0]) ?_ 3 _ rfl; (with_reducible repeat (first | refine gG ?_ _ | refine fU ?_ | refine fV ?_ _)); refine jS (cs := #[.slice d8 j.length d9, .slice e6 l.length e7, .slice none 0 0, .slice none 0 0]) ?_ 2 _ rfl; (with_reducible repeat (first | refine gG ?_ _ | refine fU ?_ | refine fV ?_ _)); refine jS (cs := #[.slice d8 j.length d9, .slice none 0 0, .slice none 0 0, .slice none 0 0]) ?_ 1 _ rfl; (with_reducible repeat (first | refine gG ?_ _ | refine fU ?_ | refine fV ?_ _)); refine jS (cs := #[.slice none 0 0, .slice none 0 0, .slice none 0 0, .slice none 0 0]) ?_ 0 _ rfl; (with_reducible repeat (first | refine gG ?_ _ | refine fU ?_ | refine fV ?_ _)); refine blk_far ?_ Zg.o _; (with_reducible repeat (first | refine gG ?_ _ | refine fU ?_ | refine fV ?_ _)); exact Zf.o) fW rfl (by kernel_rfl)) rfl ?_
   exact ⟨_, _, _, _, by first | rfl | (simp [errW_none, errW_some] <;> rfl) | (simp only [← hji58]; first | rfl | (simp [errW_none, errW_some] <;> rfl)) | (simp [*, errW_none, errW_some] <;> rfl), by (with_reducible repeat (first | apply fY | apply fZ | apply fK)); exact eX (fR (p := ⟨d, 3, none⟩) (fR (p := ⟨d, 2, none⟩) (fR (p := ⟨d, 1, none⟩) (fR (p := ⟨d, 0, none⟩) (fR (p := ⟨b, 2, none⟩) (fD (fD Zc.o Za.o (by decide)) Zf.o (by decide)) (fun _ hk => hk.1.2) (.slice b3 b1.length b4)) (fun _ hk => hk.2) (.slice d8 j.length d9)) (fun _ hk => hk.2) (.slice e6 l.length e7)) (fun _ hk => hk.2) (.slice b3 b1.length b4)) (fun _ hk => hk.2) (.slice g4 q.length g5)) (fun _ hk => ⟨hk.1.1.1, ⟨hk.1.1.2.1, hk.1.1.2.2⟩⟩), by (with_reducible repeat (first | apply fY | apply fZ | apply fK)); exact eX (fR (p := ⟨d, 3, none⟩) (fR (p := ⟨d, 2, none⟩) (fR (p := ⟨d, 1, none⟩) (fR (p := ⟨d, 0, none⟩) (fR (p := ⟨b, 2, none⟩) (fD (fD Zd.o Za.o (by decide)) Zf.o (by decide)) (fun _ hk => hk.1.2) (.slice b3 b1.length b4)) (fun _ hk => hk.2) (.slice d8 j.length d9)) (fun _ hk => hk.2) (.slice e6 l.length e7)) (fun _ hk => hk.2) (.slice b3 b1.length b4)) (fun _ hk => hk.2) (.slice g4 q.length g5)) (fun _ hk => ⟨hk.1.1.1, ⟨hk.1.1.2.1, hk.1.1.2.2⟩⟩), by (with_reducible repeat (first | apply Kd.N_alloc | apply Kd.N_drewN | apply Kd.N_drew)); exact fN (kQ (p := ⟨d, 3, none⟩) (kQ (p := ⟨d, 2, none⟩) (kQ (p := ⟨d, 1, none⟩) (kQ (p := ⟨d, 0, none⟩) (kQ (p := ⟨b, 2, none⟩) (fN (fN ZJ.o (fun k_ hk => (⟨hk, hk.2.2.2.2.1⟩ : _ ∧ k_ ≠ b))) (fun k_ hk => (⟨hk, hk.1.2.2.2.2.2⟩ : _ ∧ k_ ≠ d))) (fun _ hk => hk.1.2) (.slice b3 b1.length b4)) (fun _ hk => hk.2) (.slice d8 j.length d9)) (fun _ hk => hk.2) (.slice e6 l.length e7)) (fun _ hk => hk.2) (.slice b3 b1.length b4)) (fun _ hk => hk.2) (.slice g4 q.length g5)) (fun _ hk => ⟨hk.1.1.1, ⟨hk.1.1.2.1, ⟨hk.1.1.2.2.1, hk.1.1.2.2.2.1⟩⟩⟩), by (with_reducible repeat (first | apply fY | apply fZ | apply fK)); exact eX (fR (p := ⟨d, 3, none⟩) (fR (p := ⟨d, 2, none⟩) (fR (p := ⟨d, 1, none⟩) (fR (p := ⟨d, 0, none⟩) (fR (p := ⟨b, 2, none⟩) (fD (fD Ze.o Za.o (by decide)) Zf.o (by decide)) (fun _ hk => hk.1.2) (.slice b3 b1.length b4)) (fun _ hk => hk.2) (.slice d8 j.length d9)) (fun _ hk => hk.2) (.slice e6 l.length e7)) (fun _ hk => hk.2) (.slice b3 b1.length b4)) (fun _ hk => hk.2) (.slice g4 q.length g5)) (fun _ hk => ⟨hk.1.1.1, ⟨hk.1.1.2.1, hk.1.1.2.2⟩⟩), zg_5 HB.o Zh.o Zi.o⟩
def bY.f (a0 : Int) : Option (List Int × List Int × (List (S60)) × List Int) := if 24 ≤ 35184372088832 then (if 0 ≤ a0 then (if (a0 : Int).toNat ≤ 35184372088832 then (some ((iJ 24 0), (iJ (a0 : Int).toNat 0), (([] : List (S60))), (iJ 24 0))) else (none)) else (none)) else (none)
def bY.T1 : Bool × List (List Nat × List Nat) := (true, [([], []), ([], []), ([1, 1], [1]), ([], []), ([], []), ([0, 2, 3, 4], [0, 2, 3, 4]), ([5, 0, 1, 2, 3, 4, 5], [5])])
def bY.B1 : List Nat := [0, 0, 2, 0, 0, 31, 63]
theorem bY.tab1 : rtab .any (opsOf Tryz.f28 1) = bY.T1 := by kernel_rfl
theorem bY.bits1 : waitsOk bY.T1.2 bY.B1 = true := by kernel_rfl
set_option maxHeartbeats 8000000 in
set_option maxRecDepth 100000 in
theorem bY.calls (a0 : Int) (r1 : List Int) (r2 : List Int) (r3 : List (S60)) (r4 : List Int) (w : World) (h : bY.f a0 = some (r1, r2, r3, r4)) :
    Calls fM 28 #[.int .i64 a0] w fun e w' => ∃ a4 a5 c6 a6 : Value, e = .returned (.agg #[a4, a5, c6, a6]) ∧ Kd.R (fG .i64) 3 w' w.heap.size (fun k_ => some k_ ≠ ob a5 ∧ some k_ ≠ ob a6) a4 r1 ∧ Kd.R (fG .i64) 3 w' w.heap.size (fun k_ => some k_ ≠ ob a4 ∧ some k_ ≠ ob a6) a5 r2 ∧ Kd.S k60 60 w' w.heap.size (fun k_ => some k_ ≠ ob a4 ∧ some k_ ≠ ob a5 ∧ some k_ ≠ ob a6) c6 r3 ∧ Kd.R (fG .i64) 3 w' w.heap.size (fun k_ => some k_ ≠ ob a4 ∧ some k_ ≠ ob a5) a6 r4 ∧ Below w.heap.size w w' := by
 have hu31 := fW; have HB := zm (fX w.heap.size w); have H := h
 unfold bY.f at H
 clear h
 replace H := zif H; obtain ⟨c2, H⟩ := H; have f5 := eq_true c2; have f6 := decide_eq_true c2; clear c2
 obtain ⟨x, D⟩ : ∃ y_ : List Int, y_ = (iJ 24 0) := ⟨_, rfl⟩
 replace H : (if 0 ≤ a0 then (if (a0 : Int).toNat ≤ 35184372088832 then (some (x, (iJ (a0 : Int).toNat 0), (([] : List (S60))), (iJ 24 0))) else (none)) else (none)) = some (r1, r2, r3, r4) := zy H D
 have a7 := zm D; clear D
 replace H := zif H; obtain ⟨c3, H⟩ := H; have f7 := eq_true c3; have f8 := decide_eq_true c3; clear c3
 replace H := zif H; obtain ⟨c4, H⟩ := H; have f9 := eq_true c4; have g0 := decide_eq_true c4; clear c4
 obtain ⟨z, E⟩ : ∃ y_ : List Int, y_ = (iJ (a0 : Int).toNat 0) := ⟨_, rfl⟩
 replace H : (some (x, z, (([] : List (S60))), (iJ 24 0))) = some (r1, r2, r3, r4) := zy H E
 have a8 := zm E; clear E
 obtain ⟨C, F⟩ : ∃ y_ : List (S60), y_ = (([] : List (S60))) := ⟨_, rfl⟩
 replace H : (some (x, z, C, (iJ 24 0))) = some (r1, r2, r3, r4) := zy H F
 have a9 := zm F; clear F
 obtain ⟨B, G⟩ : ∃ y_ : List Int, y_ = (iJ 24 0) := ⟨_, rfl⟩
 replace H : (some (x, z, C, B)) = some (r1, r2, r3, r4) := zy H G
 have b0 := zm G; clear G
 simp only [gC, gP] at H
 obtain ⟨rfl, rfl, rfl, rfl⟩ := H
 go_enter Tryz.func28, Tryz.ntmps28
 try go_wp2_with (first | ((with_reducible refine fP (N := 2) rfl ?_); refine fS zo (N := 2) zo (cs := #[.slice none 0 0, .slice none 0 0, .slice none 0 0, .slice none 0 0]) (t := 31) zh ?_; intro y hg w5 hbox hb; refine zG4 (eZ (zg_1 HB.o) hb) (hbox) ((by rw [hg]; exact (eV (zg_1 HB.o)) : w.heap.size ≤ y)) ((by rw [hg]; exact (eV (zg_1 HB.o)) : w.heap.size ≤ y)) ?_; clear HB; intro HB Za Zg Zf; clear hb hbox hg))
 have c7 := zm (fU Za.o); have c8 := zm (gA HB.o); clear Za; clear HB; have Za := c7; have HB := c8; clear c7 c8
 refine start_ (n := 7) (S := fun w' => True) (ds := []) #[ff, ff, ff, ff, ff, ff, ff] (by kernel_rfl) rfl rfl trivial (fun hHeld => ?_); refine kJ bY.tab1 bY.bits1 (fun HT_ HW_ => ?_)
 generalize w5.drew = w6 at Za HB hHeld ⊢
 refine gR (i := 1) (N := some 4) #[ff, tt, ff, ff, ff, ff, ff] rfl rfl (gD HT_.o zk) (fun _ _ _ h => h) (.inl ⟨by rfl, zi⟩) zu ?_
 refine inv_at [0, 2, 3, 4, 5, 6] (fun a0_ b a w' => ∃ (o : Value) (p : Value) (q : Value) (r : Value) (own_ : Nat → Nat) (m5_ : Value), a = putSel a0_ b [(0, 3, o), (2, 5, p), (3, 6, q), (4, 7, r), (5, 8, m5_)] ∧ (b 6 = false → w'.heap[y]? = some (.cells #[.slice none 0 0, .slice none 0 0, .slice none 0 0, .slice none 0 0] 31 (0, 0))) ∧ (Below w.heap.size w w') ∧ (b 0 = true → Kd.R (fG .i64) 3 w' w.heap.size (fun k_ => own_ k_ = 0) o x) ∧ (b 2 = true → Kd.R (fG .i64) 3 w' w.heap.size (fun k_ => own_ k_ = 2) p z) ∧ (b 3 = true → Kd.S k60 60 w' w.heap.size (fun k_ => own_ k_ = 3) q C) ∧ (b 4 = true → Kd.R (fG .i64) 3 w' w.heap.size (fun k_ => own_ k_ = 4) r B) ∧ (b 6 = true → w'.heap[y]? = some (.cells #[o, p, q, r] 31 (0, 0))) ∧ (b 5 = true → (m5_ : Value) = .agg #[o, p, q, r])) HT_.o HW_.o (by kernel_rfl) (by kernel_rfl) ?_ ?_ ?_
 ·exact ⟨.bool false, .bool false, .bool false, .bool false, fun _ => 0, .bool false, by simp only [putSel, Bool.false_eq_true, if_false], fun _ => Za.o, HB.o, fun h_ => absurd h_ (by decide), fun h_ => absurd h_ (by decide), fun h_ => absurd h_ (by decide), fun h_ => absurd h_ (by decide), fun h_ => absurd h_ (by decide), fun h_ => absurd h_ (by decide)⟩
 ·skip
  clear Za HB
  refine kC ?_ ?_
  ·rintro b a w' ⟨o, p, q, r, own_, m5_, ha, l, s, c, d, g, j, m, A⟩ hb_ hon hoff
   refine ⟨_, rfl, fun K hK => ?_⟩
   replace ha := zm ha
   refine Kd.R_make_step (fG .i64) _ 3 (by rfl) (N := 3) rfl 23 _ _ rfl 24 rfl rfl iP (.int .i64 0) 8 info3 rfl (by decide) (by omega) 0 (ok := fun _ => True) (okp := fun _ => True) rfl (fun _ hk => hk) trivial (by omega) (by omega) (fX _ _) (fQ _) ?_
   intro o w7 u hb hg_ hnew_
   (first | rw [← a7.o] at u | (simp only [gX] at u; rw [← a7.o] at u))
   refine hK.out _ _ ⟨o, p, q, r, (fun k_ => if k_ < w'.heap.size then own_ k_ else 0), m5_, (by rw [ha.o]; exact kT 0 hb_ rfl rfl rfl), fun h0_ => fB (l h0_) hb, eZ s hb, fun _ => Kd.R_ownN u (eV s), fun h0_ => iY (d h0_) hb, fun h0_ => Kd.S_ownB (g h0_) hb, fun h0_ => iY (j h0_) hb, fun h0_ => absurd ((hoff 6 (by kernel_rfl)).symm.trans h0_) (by decide), fun h0_ => absurd ((hoff 5 (by kernel_rfl)).symm.trans h0_) (by decide)⟩
  refine kC ?_ ?_
  ·rintro b a w' ⟨o, p, q, r, own_, m5_, ha, l, s, c, d, g, j, m, A⟩ hb_ hon hoff
   refine ⟨_, rfl, fun K hK => ?_⟩
   have e4 : a.tmps[4]? = some (.int .i64 a0) := by rw [ha]; exact (putSel_off rfl).trans rfl
   replace ha := zm ha
   refine Kd.R_make_step (fG .i64) _ 3 (by rfl) (N := 5) rfl 23 _ _ rfl a0 (by first | exact eval_of e4 | rfl) (by first | exact eval_of e4 | rfl) iP (.int .i64 0) 8 info3 rfl (by decide) (by omega) 0 (ok := fun _ => True) (okp := fun _ => True) rfl (fun _ hk => hk) trivial (zd) (hU (Nat.mul_le_mul_right _ (zd : a0.toNat ≤ 35184372088832)) (by omega)) (fX _ _) (fQ _) ?_
   intro p w7 u hb hg_ hnew_
   (first | rw [← a8.o] at u | (simp only [gX] at u; rw [← a8.o] at u))
   refine hK.out _ _ ⟨o, p, q, r, (fun k_ => if k_ < w'.heap.size then own_ k_ else 2), m5_, (by rw [ha.o]; exact kT 1 hb_ rfl rfl rfl), fun h0_ => fB (l h0_) hb, eZ s hb, fun h0_ => iY (c h0_) hb, fun _ => Kd.R_ownN u (eV s), fun h0_ => Kd.S_ownB (g h0_) hb, fun h0_ => iY (j h0_) hb, fun h0_ => absurd ((hoff 6 (by kernel_rfl)).symm.trans h0_) (by decide), fun h0_ => absurd ((hoff 5 (by kernel_rfl)).symm.trans h0_) (by decide)⟩
  refine kC ?_ ?_
  ·rintro b a w' ⟨o, p, q, r, own_, m5_, ha, l, s, c, d, g, j, m, A⟩ hb_ hon hoff
   refine ⟨_, rfl, fun K hK => ?_⟩
   replace ha := zm ha
   refine Kd.S_lit_step k60 _ 60 ?hg (N := 6) ?hd (xs := ([] : List (S60))) (inner := []) (ok := fun _ => True) (okp := fun _ => True) ?hr ?hp (fun _ hk => hk) trivial (fX _ _) (fQ _) (by simp) ?_; (case hd => rfl); (case hg => rfl); (case hr => first | (go_simp; done) | (go_simp; rfl)); (case hp => exact (jD _ _))
   intro q w7 u hb hg_ hnew_
   (first | rw [← a9.o] at u | (simp only [gX] at u; rw [← a9.o] at u))
   refine hK.out _ _ ⟨o, p, q, r, (fun k_ => if k_ < w'.heap.size then own_ k_ else 3), m5_, (by rw [ha.o]; exact kT 2 hb_ rfl rfl rfl), fun h0_ => fB (l h0_) hb, eZ s hb, fun h0_ => iY (c h0_) hb, fun h0_ => iY (d h0_) hb, fun _ => Kd.S_ownN u (eV s), fun h0_ => iY (j h0_) hb, fun h0_ => absurd ((hoff 6 (by kernel_rfl)).symm.trans h0_) (by decide), fun h0_ => absurd ((hoff 5 (by kernel_rfl)).symm.trans h0_) (by decide)⟩
  refine kC ?_ ?_
  ·rintro b a w' ⟨o, p, q, r, own_, m5_, ha, l, s, c, d, g, j, m, A⟩ hb_ hon hoff
   refine ⟨_, rfl, fun K hK => ?_⟩
   replace ha := zm ha
   refine Kd.R_make_step (fG .i64) _ 3 (by rfl) (N := 7) rfl 23 _ _ rfl 24 rfl rfl iP (.int .i64 0) 8 info3 rfl (by decide) (by omega) 0 (ok := fun _ => True) (okp := fun _ => True) rfl (fun _ hk => hk) trivial (by omega) (by omega) (fX _ _) (fQ _) ?_
   intro r w7 u hb hg_ hnew_
   (first | rw [← b0.o] at u | (simp only [gX] at u; rw [← b0.o] at u))
   refine hK.out _ _ ⟨o, p, q, r, (fun k_ => if k_ < w'.heap.size then own_ k_ else 4), m5_, (by rw [ha.o]; exact kT 3 hb_ rfl rfl rfl), fun h0_ => fB (l h0_) hb, eZ s hb, fun h0_ => iY (c h0_) hb, fun h0_ => iY (d h0_) hb, fun h0_ => Kd.S_ownB (g h0_) hb, fun _ => Kd.R_ownN u (eV s), fun h0_ => absurd ((hoff 6 (by kernel_rfl)).symm.trans h0_) (by decide), fun h0_ => absurd ((hoff 5 (by kernel_rfl)).symm.trans h0_) (by decide)⟩
  refine kC ?_ ?_
  ·rintro b a w' ⟨o, p, q, r, own_, m5_, ha, l, s, c, d, g, j, m, A⟩ hb_ hon hoff
   refine ⟨_, rfl, fun K hK => ?_⟩
   have e3 : a.tmps[3]? = some (o) := by rw [ha]; exact lI (e := (0, 3, o)) 0 rfl rfl (hon 0 (by kernel_rfl)) rfl
   have e5 : a.tmps[5]? = some (p) := by rw [ha]; exact lI (e := (2, 5, p)) 1 rfl rfl (hon 2 (by kernel_rfl)) rfl
   have e6 : a.tmps[6]? = some (q) := by rw [ha]; exact lI (e := (3, 6, q)) 2 rfl rfl (hon 3 (by kernel_rfl)) rfl
   have e7 : a.tmps[7]? = some (r) := by rw [ha]; exact lI (e := (4, 7, r)) 3 rfl rfl (hon 4 (by kernel_rfl)) rfl
   replace ha := zm ha; have Zb := zm (c (hon 0 (by kernel_rfl))); have Zc := zm (d (hon 2 (by kernel_rfl))); have Ze := zm (g (hon 3 (by kernel_rfl))); have Zd := zm (j (hon 4 (by kernel_rfl)))
   obtain ⟨I, J, eo_⟩ := fA Zb.o
   subst eo_
   obtain ⟨L, M, eo_⟩ := fA Zc.o
   subst eo_
   obtain ⟨O, T, eo_⟩ := iF Ze.o
   subst eo_
   obtain ⟨U, V, eo_⟩ := fA Zd.o
   subst eo_
   refine value_ (w1 := w') (v := .agg #[.slice I x.length J, .slice L z.length M, .slice O C.length T, .slice U B.length V]) (by rfl) rfl ?_ ?_
   ·go_simp
    (try simp only [iQ])
    try rfl
   refine hK.out _ _ ⟨.slice I x.length J, .slice L z.length M, .slice O C.length T, .slice U B.length V, own_, (.agg #[.slice I x.length J, .slice L z.length M, .slice O C.length T, .slice U B.length V]), (by rw [ha.o]; exact kT 4 hb_ rfl rfl rfl), l, s, c, d, g, j, fun h0_ => absurd ((hoff 6 (by kernel_rfl)).symm.trans h0_) (by decide), fun _ => rfl⟩
  refine kC ?_ ?_
  ·rintro b a w' ⟨o, p, q, r, own_, m5_, ha, l, s, c, d, g, j, m, A⟩ hb_ hon hoff
   refine ⟨_, rfl, fun K hK => ?_⟩
   have e2 : a.tmps[2]? = some (.pointer (some ⟨y, 0, none⟩)) := by rw [ha]; exact (putSel_off rfl).trans rfl
   have e8 : a.tmps[8]? = some (m5_) := by rw [ha]; exact lI (e := (5, 8, m5_)) 4 rfl rfl (hon 5 (by kernel_rfl)) rfl
   rw [A (hon 5 (by kernel_rfl))] at e8
   replace ha := zm ha; have Za := zm (l hb_); have HB := zm s; have Zb := zm (c (hon 0 (by kernel_rfl))); have Zc := zm (d (hon 2 (by kernel_rfl))); have Ze := zm (g (hon 3 (by kernel_rfl))); have Zd := zm (j (hon 4 (by kernel_rfl)))
   obtain ⟨d3, d4, b5⟩ := fA Zd.o
   (first | subst b5 | (injection b5 with f1_ f2_ f3_; have f4_ := f1_.symm; have f5_ := f3_.symm; clear f1_ f2_ f3_; subst f4_; subst f5_))
   obtain ⟨d5, d6, b6⟩ := iF Ze.o
   (first | subst b6 | (injection b6 with f1_ f2_ f3_; have f4_ := f1_.symm; have f5_ := f3_.symm; clear f1_ f2_ f3_; subst f4_; subst f5_))
   obtain ⟨d7, d8, b7⟩ := fA Zc.o
   (first | subst b7 | (injection b7 with f1_ f2_ f3_; have f4_ := f1_.symm; have f5_ := f3_.symm; clear f1_ f2_ f3_; subst f4_; subst f5_))
   obtain ⟨d9, e0, b8⟩ := fA Zb.o
   (first | subst b8 | (injection b8 with f1_ f2_ f3_; have f4_ := f1_.symm; have f5_ := f3_.symm; clear f1_ f2_ f3_; subst f4_; subst f5_))
   have g3 : w'.cell? ⟨y, 0, none⟩ = some (.slice none 0 0) := (eY Za.o 0).trans rfl
   have f1 := gL Za.o 0
   have g4 : w'.cell? ⟨y, 1, none⟩ = some (.slice none 0 0) := (eY Za.o 1).trans rfl
   have f2 := gL Za.o 1
   have g5 : w'.cell? ⟨y, 2, none⟩ = some (.slice none 0 0) := (eY Za.o 2).trans rfl
   have f3 := gL Za.o 2
   have g6 : w'.cell? ⟨y, 3, none⟩ = some (.slice none 0 0) := (eY Za.o 3).trans rfl
   have f4 := gL Za.o 3
   refine skip_ (w1 := ?_) (by rfl) rfl ?_ ?_
   rotate_left
   ·go_simp
    rfl
   refine hK.out _ _ ⟨.slice d9 x.length e0, .slice d7 z.length d8, .slice d5 C.length d6, .slice d3 B.length d4, own_, m5_, (by rw [ha.o]; exact putSel_none (v := undef) rfl), fun h0_ => absurd ((up_self b 6).symm.trans h0_) (by decide), (zg_2 HB.o Zf.o), fun _ => (eX (zR4 (fD Zb.o Za.o (by decide))) (fun _ hk => hk.1)), fun _ => (eX (zR4 (fD Zc.o Za.o (by decide))) (fun _ hk => hk.1)), fun _ => (gQ (zS4 (hX Ze.o Za.o (by decide))) (fun _ hk => hk.1)), fun _ => (eX (zR4 (fD Zd.o Za.o (by decide))) (fun _ hk => hk.1)), fun _ => (by exact zput4 Za.o), A⟩
  exact steps_nil
 rintro b a g7 hall ⟨o, p, q, r, own_, m5_, ha, l, s, c, d, g, j, m, A⟩
 clear Za HB; have hb0_ := hall 0 (by kernel_rfl); have hb2_ := hall 2 (by kernel_rfl); have hb3_ := hall 3 (by kernel_rfl); have hb4_ := hall 4 (by kernel_rfl); have hb5_ := hall 5 (by kernel_rfl); have hb6_ := hall 6 (by kernel_rfl); subst ha; obtain rfl := A hb5_
 simp only [putSel, hb0_, hb2_, hb3_, hb4_, hb5_, hb6_, if_true, gE, zs, zz, zt]
 clear l; have HB := zm s; clear s; have Zb := zm (c hb0_); clear c; have Zc := zm (d hb2_); clear d; have Ze := zm (g hb3_); clear g; have Zd := zm (j hb4_); clear j; have Za := zm (m hb6_); clear m; clear hall hb0_ hb2_ hb3_ hb4_ hb5_ hb6_
 obtain ⟨X, Y, b9⟩ := fA Zd.o
 (first | subst b9 | (injection b9 with f1_ f2_ f3_; have f4_ := f1_.symm; have f5_ := f3_.symm; clear f1_ f2_ f3_; subst f4_; subst f5_))
 obtain ⟨e1, e9, c0⟩ := iF Ze.o
 (first | subst c0 | (injection c0 with f1_ f2_ f3_; have f4_ := f1_.symm; have f5_ := f3_.symm; clear f1_ f2_ f3_; subst f4_; subst f5_))
 obtain ⟨Z, a1, c1⟩ := fA Zc.o
 (first | subst c1 | (injection c1 with f1_ f2_ f3_; have f4_ := f1_.symm; have f5_ := f3_.symm; clear f1_ f2_ f3_; subst f4_; subst f5_))
 obtain ⟨a2, a3, c5⟩ := fA Zb.o
 (first | subst c5 | (injection c5 with f1_ f2_ f3_; have f4_ := f1_.symm; have f5_ := f3_.symm; clear f1_ f2_ f3_; subst f4_; subst f5_))
 have m0_ := zm (eX (ok' := fun k_ => some k_ ≠ ob (.slice Z z.length a1) ∧ some k_ ≠ ob (.slice X B.length Y)) Zb.o (fun k_ hk_ => ⟨own_ne hk_ Zc.o.1 (by decide), own_ne hk_ Zd.o.1 (by decide)⟩)); have m1_ := zm (eX (ok' := fun k_ => some k_ ≠ ob (.slice a2 x.length a3) ∧ some k_ ≠ ob (.slice X B.length Y)) Zc.o (fun k_ hk_ => ⟨own_ne hk_ Zb.o.1 (by decide), own_ne hk_ Zd.o.1 (by decide)⟩)); have m2_ := zm (gQ (ok' := fun k_ => some k_ ≠ ob (.slice a2 x.length a3) ∧ some k_ ≠ ob (.slice Z z.length a1) ∧ some k_ ≠ ob (.slice X B.length Y)) Ze.o (fun k_ hk_ => ⟨own_ne hk_ Zb.o.1 (by decide), own_ne hk_ Zc.o.1 (by decide), own_ne hk_ Zd.o.1 (by decide)⟩)); have m3_ := zm (eX (ok' := fun k_ => some k_ ≠ ob (.slice a2 x.length a3) ∧ some k_ ≠ ob (.slice Z z.length a1)) Zd.o (fun k_ hk_ => ⟨own_ne hk_ Zb.o.1 (by decide), own_ne hk_ Zc.o.1 (by decide)⟩)); clear Zb Zc Ze Zd; have Zb := m0_; have Zc := m1_; have Ze := m2_; have Zd := m3_; clear m0_ m1_ m2_ m3_
 try go_wp2
 refine iD (jE rfl _ _ y 31 #[.slice a2 x.length a3, .slice Z z.length a1, .slice e1 C.length e9, .slice X B.length Y] (0, 0) _ rfl (zg_3 Za.o) fW rfl (by kernel_rfl)) rfl ?_
 exact ⟨_, _, _, _, ze, by (with_reducible repeat (first | apply fY | apply fZ | apply fK)); exact Zb.o, by (with_reducible repeat (first | apply fY | apply fZ | apply fK)); exact Zc.o, by (with_reducible repeat (first | apply jA | apply jB | apply iU)); exact Ze.o, by (with_reducible repeat (first | apply fY | apply fZ | apply fK)); exact Zd.o, zg_2 HB.o Zf.o⟩
def bI.l0 : Nat → List Int → Int → List Int → Int → Option (List Int)
  | 0, _, _, _, _ => none
  | k + 1, x0, x1, x5, x6 => if x6 < x1 then (if x6 < (x0.length : Int) then (if 0 ≤ x6 then (if x5.length < 17592186044416 then (bI.l0 k x0 x1 (x5 ++ [rd x0 x6]) (wrap64 (x6 + 1))) else (none)) else (none)) else (if x5.length < 17592186044416 then (bI.l0 k x0 x1 (x5 ++ [0]) (wrap64 (x6 + 1))) else (none))) else (some x5)
def bI.f (k : Nat) (l0 : List Int) (a1 : Int) : Option (List Int) := bI.l0 k l0 a1 (([] : List Int)) 0
set_option maxHeartbeats 8000000 in
set_option maxRecDepth 100000 in
theorem bI.calls (k : Nat) (L : Option Addr) (M : Nat) (c : List Int) (a1 : Int) (r : List Int) (w : World) (A : Kd.C (fG .i64) w L c.length c) (B : c.length ≤ M) (h : bI.f k c a1 = some r) :
    Calls fM 66 #[.slice L c.length M, .int .i64 a1] w fun e w' => ∃ D : Value, e = .returned (D) ∧ Kd.R (fG .i64) 3 w' w.heap.size (fun _ => True) D r ∧ Below w.heap.size w w' := by
 have O := zm A; have a2 := zm B; clear A B; have HB := zm (fX w.heap.size w)
 have H : (bI.l0 k c a1 (([] : List Int)) 0) = some r := h
 clear h
 obtain ⟨t, g⟩ : ∃ y_ : List Int, y_ = (([] : List Int)) := ⟨_, rfl⟩
 replace H : (bI.l0 k c a1 t 0) = some r := zy H g
 have o := zm g; clear g
 have H' := zm H
 clear H
 go_enter Tryz.func66, Tryz.ntmps66
 go_wp2_with (first | ((with_reducible refine fP (N := 7) rfl ?_); refine Kd.R_lit (fG .i64) _ 3 ?hg (N := 7) ?hd (xs := ([] : List Int)) (inner := []) (ok := fun _ => True) (okp := fun _ => True) ?hr ?hp (fun _ hk => hk) trivial (fX _ _) (fQ _) (by simp) ?_; (case hd => rfl); (case hg => rfl); (case hr => first | (go_simp; done) | (go_simp; rfl)); (case hp => exact (jD _ _)); intro U w3 l hb hg_ hnew_; clear hg_ hnew_; (first | rw [← o.o] at l | (simp only [gX] at l; rw [← o.o] at l)); refine zG2 (fL l (eV (zg_1 HB.o))) (eZ (zg_1 HB.o) hb) ?_; clear HB; intro Zb HB; clear hb l))
 go_loopg [5, 6] k (fun kq V X w' => ∃ (d : List Int) (a : Int), X = .int .i64 a ∧ Aside0 (bI.l0 kq c a1 d a = some r) ∧ Aside0 (kq ≤ k) ∧ Aside0 (Kd.R (fG .i64) 3 w' w.heap.size (fun _ => True) V d) ∧ Aside0 (Below w.heap.size w w'))
 case atStart => exact ⟨(t), (0), zr, H', ⟨fQ _⟩, ⟨zlR Zb.o⟩, ⟨zg_1 HB.o⟩⟩
 case round =>
  clear H'
  try clear p2
  obtain ⟨d, a, rfl, HA, p, Za, HB⟩ := hrel
  cases gk with
  | zero => exact absurd HA.o (by simp [bI.l0])
  | succ k1 =>
   have H := HA.o; clear HA
   simp only [bI.l0] at H
   by_cases q : a < a1
   rotate_left
   ·rw [if_neg q] at H
    have F := decide_eq_false q; clear q; obtain rfl := fF H
    go_wp2
    go_ret
    exact ⟨_, ze, by (with_reducible repeat (first | apply fY | apply fZ | apply fK)); exact Za.o, zg_1 HB.o⟩
   rw [if_pos q] at H; have F := decide_eq_true q; clear q
   by_cases s : a < (c.length : Int)
   rotate_left
   ·rw [if_neg s] at H
    have G := decide_eq_false s; clear s
    replace H := zif H; obtain ⟨E, H⟩ := H; have x := zm E; clear E
    obtain ⟨u, i⟩ : ∃ y_ : List Int, y_ = (d ++ [0]) := ⟨_, rfl⟩
    replace H : (bI.l0 k1 c a1 u (wrap64 (a + 1))) = some r := zy H i
    have y := zm i; clear i
    have H' := zm H
    clear H
    go_wp2_with (first | ((with_reducible refine gate_builtin (b := .append) (xs := #[.tmp 24, .tmp 25]) rfl ?_); at_builtin; refine Kd.R_append (fG .i64) (w0 := w) w.heap.size rfl (.tmp 24) (.tmp 25) 23 3 (.int .i64 0) 8 rfl iP info3 rfl (by decide) (by omega) u5 d 0 [.int .i64 0] (fun _ => True) (fun _ => False) rfl rfl ?aP (fun _ hk => hk.elim) ?aF ?aO ?aB ?aS ?aL ?_; (case aP => exact rfl); (case aB => exact (zg_1 HB.o)); (case aF => exact (fun _ _ => trivial)); (case aO => exact (zg_6 Za.o)); (case aS => exact (eV (zg_1 HB.o))); (case aL => have := x.o; omega); intro Y a3 ho hb hg hat; rw [← y.o] at ho; refine zG2 (hb) (ho) ?_; clear Za HB; intro HB Zd; clear ho hb hg hat))
    go_roundg k1
    case measure => have := p.o; omega
    case rel => exact ⟨(u), (wrap64 (a + 1)), zr, H', ⟨by have := p.o; omega⟩, ⟨zlR Zd.o⟩, ⟨zg_1 HB.o⟩⟩
   rw [if_pos s] at H; have G := decide_eq_true s; clear s
   replace H := zid H; obtain ⟨Z, H⟩ := H
   replace H := zif H; obtain ⟨S, H⟩ := H; have I := zm S; clear S
   obtain ⟨v, j⟩ : ∃ y_ : List Int, y_ = (d ++ [rd c a]) := ⟨_, rfl⟩
   replace H : (bI.l0 k1 c a1 v (wrap64 (a + 1))) = some r := zy H j
   have z := zm j; clear j
   have H' := zm H
   clear H
   have m : 0 ≤ (a : Int) := zd
   have n : a < (c.length : Int) := zd
   obtain ⟨T, J, hx452_0⟩ := gY O.o a m n
   cases J; replace hx452_0 := (HB.o.cell (World.block_lt_of_cell? w _ hx452_0)).trans hx452_0; replace m := eq_true m; replace n := eq_true n
   go_wp2_with (first | ((with_reducible refine gate_builtin (b := .append) (xs := #[.tmp 17, .tmp 22]) rfl ?_); at_builtin; refine Kd.R_append (fG .i64) (w0 := w) w.heap.size rfl (.tmp 17) (.tmp 22) 23 3 (.int .i64 0) 8 rfl iP info3 rfl (by decide) (by omega) u5 d (rd c a) [.int .i64 (rd c a)] (fun _ => True) (fun _ => False) rfl rfl ?aP (fun _ hk => hk.elim) ?aF ?aO ?aB ?aS ?aL ?_; (case aP => exact rfl); (case aB => exact (zg_1 HB.o)); (case aF => exact (fun _ _ => trivial)); (case aO => exact (zg_6 Za.o)); (case aS => exact (eV (zg_1 HB.o))); (case aL => have := I.o; omega); intro a0 w9 ho hb hg hat; rw [← z.o] at ho; refine zG2 (hb) (ho) ?_; clear Za HB; intro HB Zc; clear ho hb hg hat))
   go_roundg k1
   case measure => have := p.o; omega
   case rel => exact ⟨(v), (wrap64 (a + 1)), zr, H', ⟨by have := p.o; omega⟩, ⟨zlR Zc.o⟩, ⟨zg_1 HB.o⟩⟩
def cC.f (l0_0 : List Int) (l0_1 : List Int) (l0_2 : List (S60)) (l0_3 : List Int) (a1 : Int) : Option (List Int × List Int × (List (S60)) × List Int) := if a1 < 2 then (some (l0_0, l0_1, l0_2, l0_3)) else (if 0 ≤ (wrap64 (a1 - 2)) then (if (wrap64 (a1 - 2)) < (l0_0.length : Int) then ((some (l0_0.set ((wrap64 (a1 - 2)) : Int).toNat (wrap64 ((rd l0_0 (wrap64 (a1 - 2))) - 1)) : List Int)).bind fun y343 => (if (rd y343 (wrap64 (a1 - 2))) = 0 then (if (wrap64 (a1 - 2)) < (l0_3.length : Int) then (some (y343, l0_1, l0_2, (l0_3.set ((wrap64 (a1 - 2)) : Int).toNat 0))) else (none)) else (some (y343, l0_1, l0_2, l0_3)))) else (none)) else (none))
set_option maxHeartbeats 8000000 in
set_option maxRecDepth 100000 in
theorem cC.calls (a : Nat → Prop) (D : Value) (i : List Int) (b : Nat → Prop) (E : Value) (m : List Int) (c : Nat → Prop) (a6 : Value) (q : List (S60)) (d : Nat → Prop) (F : Value) (j : List Int) (a1 : Int) (r1 : List Int) (r2 : List Int) (r3 : List (S60)) (r4 : List Int) (z w : World) (hB : Below z.heap.size z w) (a2 : Kd.R (fG .i64) 3 w z.heap.size a D i) (b7 : ∀ k_, a k_ → ¬ b k_) (f8 : ∀ k_, a k_ → ¬ c k_) (b8 : ∀ k_, a k_ → ¬ d k_) (a3 : Kd.R (fG .i64) 3 w z.heap.size b E m) (b9 : ∀ k_, b k_ → ¬ a k_) (f9 : ∀ k_, b k_ → ¬ c k_) (c0 : ∀ k_, b k_ → ¬ d k_) (f3 : Kd.S k60 60 w z.heap.size c a6 q) (c1 : ∀ k_, c k_ → ¬ a k_) (c2 : ∀ k_, c k_ → ¬ b k_) (c4 : ∀ k_, c k_ → ¬ d k_) (a4 : Kd.R (fG .i64) 3 w z.heap.size d F j) (c5 : ∀ k_, d k_ → ¬ a k_) (c6 : ∀ k_, d k_ → ¬ b k_) (g0 : ∀ k_, d k_ → ¬ c k_) (h : cC.f i m q j a1 = some (r1, r2, r3, r4)) :
    Calls fM 65 #[.agg #[D, E, a6, F], .int .i64 a1] w fun e w' => ∃ c7 c8 g1 c9 : Value, e = .returned (.agg #[c7, c8, g1, c9]) ∧ Kd.R (fG .i64) 3 w' z.heap.size (fun k_ => ((a k_ ∨ b k_ ∨ c k_ ∨ d k_) ∨ w.heap.size ≤ k_) ∧ some k_ ≠ ob c8 ∧ some k_ ≠ ob c9) c7 r1 ∧ Kd.R (fG .i64) 3 w' z.heap.size (fun k_ => ((a k_ ∨ b k_ ∨ c k_ ∨ d k_) ∨ w.heap.size ≤ k_) ∧ some k_ ≠ ob c7 ∧ some k_ ≠ ob c9) c8 r2 ∧ Kd.S k60 60 w' z.heap.size (fun k_ => ((a k_ ∨ b k_ ∨ c k_ ∨ d k_) ∨ w.heap.size ≤ k_) ∧ some k_ ≠ ob c7 ∧ some k_ ≠ ob c8 ∧ some k_ ≠ ob c9) g1 r3 ∧ Kd.R (fG .i64) 3 w' z.heap.size (fun k_ => ((a k_ ∨ b k_ ∨ c k_ ∨ d k_) ∨ w.heap.size ≤ k_) ∧ some k_ ≠ ob c7 ∧ some k_ ≠ ob c8) c9 r4 ∧ Below z.heap.size z w' ∧ Kept w w' (fun k_ => a k_ ∨ b k_ ∨ c k_ ∨ d k_) := by
 have hu31 := fW; have Zb := zm (show Kd.R (fG .i64) 3 w z.heap.size (fun k_ => ((a k_ ∨ b k_ ∨ c k_ ∨ d k_) ∨ w.heap.size ≤ k_) ∧ some k_ ≠ ob E ∧ some k_ ≠ ob F) D i from eX a2 (fun k_ hk => ⟨(.inl (.inl hk)), fun e_ => b7 k_ hk (a3.1 k_ e_.symm), fun e_ => b8 k_ hk (a4.1 k_ e_.symm)⟩)); have Ze := zm (show Kd.R (fG .i64) 3 w z.heap.size (fun k_ => ((a k_ ∨ b k_ ∨ c k_ ∨ d k_) ∨ w.heap.size ≤ k_) ∧ some k_ ≠ ob D ∧ some k_ ≠ ob F) E m from eX a3 (fun k_ hk => ⟨(.inl (.inr (.inl hk))), fun e_ => b9 k_ hk (a2.1 k_ e_.symm), fun e_ => c0 k_ hk (a4.1 k_ e_.symm)⟩)); have Zf := zm (show Kd.S k60 60 w z.heap.size (fun k_ => ((a k_ ∨ b k_ ∨ c k_ ∨ d k_) ∨ w.heap.size ≤ k_) ∧ some k_ ≠ ob D ∧ some k_ ≠ ob E ∧ some k_ ≠ ob F) a6 q from gQ f3 (fun k_ hk => ⟨(.inl (.inr (.inr (.inl hk)))), fun e_ => c1 k_ hk (a2.1 k_ e_.symm), fun e_ => c2 k_ hk (a3.1 k_ e_.symm), fun e_ => c4 k_ hk (a4.1 k_ e_.symm)⟩)); have Zd := zm (show Kd.R (fG .i64) 3 w z.heap.size (fun k_ => ((a k_ ∨ b k_ ∨ c k_ ∨ d k_) ∨ w.heap.size ≤ k_) ∧ some k_ ≠ ob D ∧ some k_ ≠ ob E) F j from eX a4 (fun k_ hk => ⟨(.inl (.inr (.inr (.inr hk)))), fun e_ => c5 k_ hk (a2.1 k_ e_.symm), fun e_ => c6 k_ hk (a3.1 k_ e_.symm)⟩)); have HK := zm (Kept.refl w (fun k_ => a k_ ∨ b k_ ∨ c k_ ∨ d k_)); have i8 := zm hB.size; have HB := zm hB; clear hB; have H := h
 unfold cC.f at H
 clear h
 by_cases c3 : a1 < 2
 ·rw [if_pos c3] at H
  have g4 := decide_eq_true c3; clear c3
  simp only [gC, gP] at H
  obtain ⟨rfl, rfl, rfl, rfl⟩ := H
  obtain ⟨d0, d1, h4⟩ := fA Zb.o
  subst h4
  obtain ⟨d2, d3, h5⟩ := fA Ze.o
  subst h5
  obtain ⟨d4, d5, h6⟩ := iF Zf.o
  subst h6
  obtain ⟨d6, d7, h7⟩ := fA Zd.o
  subst h7
  go_enter lV, oT
  go_wp2_with (first | ((with_reducible refine fP (N := 2) rfl ?_); refine fS zo (N := 2) zo (cs := #[.slice d0 i.length d1, .slice d2 m.length d3, .slice d4 q.length d5, .slice d6 j.length d7]) (t := 31) zh ?_; intro n hg w8 hbox hb; refine zG9 (fI (zg_6 Zb.o) hb) (fI (zg_6 Ze.o) hb) (lK (zg_7 Zf.o) hb) (fI (zg_6 Zd.o) hb) (kU (S := (fun k_ => a k_ ∨ b k_ ∨ c k_ ∨ d k_)) (zg_13 HK.o) hb) (eZ (zg_1 HB.o) hb) (hbox) ((by rw [hg]; exact (by first | exact HK.o.1 | exact (show Kept w _ (fun k_ => a k_ ∨ b k_ ∨ c k_ ∨ d k_) from zg_13 HK.o).1) : w.heap.size ≤ n)) ((by rw [hg]; exact (eV (zg_1 HB.o)) : z.heap.size ≤ n)) ?_; clear Zb Ze Zf Zd HK HB; intro Zb Ze Zf Zd HK HB Za Zg Zj; clear hb hbox hg) | ((with_reducible refine fP (N := 4) rfl ?_); refine fS zo (N := 4) zo (cs := #[.slice none 0 0, .slice none 0 0, .slice none 0 0, .slice none 0 0]) (t := 31) zh ?_; intro r hg w9 hbox hb; refine zG12 (fI (zg_6 Zb.o) hb) (fI (zg_6 Ze.o) hb) (lK (zg_7 Zf.o) hb) (fI (zg_6 Zd.o) hb) (fB (g := n) (o := .cells #[.slice d0 i.length d1, .slice d2 m.length d3, .slice d4 q.length d5, .slice d6 j.length d7] 31 (0, 0)) (zg_3 Za.o) hb) (kU (S := (fun k_ => a k_ ∨ b k_ ∨ c k_ ∨ d k_)) (zg_14 HK.o Zg.o) hb) (eZ (zg_2 HB.o Zj.o) hb) (hbox) ((by rw [hg]; exact (by first | exact HK.o.1 | exact (show Kept w _ (fun k_ => a k_ ∨ b k_ ∨ c k_ ∨ d k_) from zg_14 HK.o Zg.o).1) : w.heap.size ≤ r)) ((by rw [hg]; exact (eV (zg_2 HB.o Zj.o)) : z.heap.size ≤ r)) ((by rw [hg]; exact gN (hO (g := n) (o := .cells #[.slice d0 i.length d1, .slice d2 m.length d3, .slice d4 q.length d5, .slice d6 j.length d7] 31 (0, 0)) (zg_3 Za.o)) : n ≠ r)) ((by rw [hg]; exact gT (hO (g := n) (o := .cells #[.slice d0 i.length d1, .slice d2 m.length d3, .slice d4 q.length d5, .slice d6 j.length d7] 31 (0, 0)) (zg_3 Za.o)) : r ≠ n)) ?_; clear Zb Ze Zf Zd Za HK HB; intro Zb Ze Zf Zd Za HK HB Zc Zk Zl Zh Zi; clear hb hbox hg; have h8 := Zh.o; have h9 := Zi.o; obtain ⟨_, _, _, _, _, _, _, _⟩ := zb4 Za.o; obtain ⟨_, _, _, _, _, _, _, _⟩ := zb4 Zc.o))
  refine iD (jE rfl _ _ r 31 #[.slice d0 i.length d1, .slice d2 m.length d3, .slice d4 q.length d5, .slice d6 j.length d7] (0, 0) _ rfl (by exact zput4 Zc.o) fW rfl (by kernel_rfl)) rfl ?_
  exact ⟨_, _, _, _, ze, eX (zR4 (fD Zb.o Zc.o (by decide))) (fun _ hk => ⟨hk.1.1, ⟨hk.1.2.1, hk.1.2.2⟩⟩), eX (zR4 (fD Ze.o Zc.o (by decide))) (fun _ hk => ⟨hk.1.1, ⟨hk.1.2.1, hk.1.2.2⟩⟩), gQ (zS4 (hX Zf.o Zc.o (by decide))) (fun _ hk => ⟨hk.1.1, ⟨hk.1.2.1, ⟨hk.1.2.2.1, hk.1.2.2.2⟩⟩⟩), eX (zR4 (fD Zd.o Zc.o (by decide))) (fun _ hk => ⟨hk.1.1, ⟨hk.1.2.1, hk.1.2.2⟩⟩), zg_5 HB.o Zj.o Zl.o, zg_15 HK.o Zg.o Zk.o⟩
 rw [if_neg c3] at H; have g4 := decide_eq_false c3; clear c3
 obtain ⟨ji13, hji13⟩ : ∃ j_ : Int, (wrap64 (a1 - 2)) = j_ := ⟨_, rfl⟩
 replace H : (if 0 ≤ (ji13) then (if (ji13) < (i.length : Int) then ((some (i.set ((ji13) : Int).toNat (wrap64 ((rd i (ji13)) - 1)) : List Int)).bind fun u => (if (rd u (ji13)) = 0 then (if (ji13) < (j.length : Int) then (some (u, m, q, (j.set ((ji13) : Int).toNat 0))) else (none)) else (some (u, m, q, j)))) else (none)) else (none)) = some (r1, r2, r3, r4) := by first | (rw [hji13] at H; exact H) | (simp only [hji13] at H ⊢; exact H)
 have hji13w : (nK.wrap (a1 - 2)) = ji13 := (iQ _).trans hji13
 replace H := zid H; obtain ⟨i0, H⟩ := H
 replace H := zid H; obtain ⟨i1, H⟩ := H
 obtain ⟨u, b2⟩ : ∃ y_ : List Int, y_ = (i.set ((ji13) : Int).toNat (wrap64 ((rd i (ji13)) - 1))) := ⟨_, rfl⟩
 replace H : (if (rd u (ji13)) = 0 then (if (ji13) < (j.length : Int) then (some (u, m, q, (j.set ((ji13) : Int).toNat 0))) else (none)) else (some (u, m, q, j))) = some (r1, r2, r3, r4) := zy H b2
 have a5 := zm b2; clear b2
 by_cases a7 : (rd u (ji13)) = 0
 rotate_left
 ·rw [if_neg a7] at H
  have f4 : ((rd u (ji13)) == 0) = false := beq_eq_false_iff_ne.mpr a7
  have f5 : ((rd u (ji13)) != 0) = true := bne_iff_ne.mpr a7
  simp only [gC, gP] at H
  obtain ⟨rfl, rfl, rfl, rfl⟩ := H
  obtain ⟨b3, C, g5⟩ := fA Zb.o
  subst g5
  obtain ⟨G, I, g6⟩ := fA Ze.o
  subst g6
  obtain ⟨Z, a0, g7⟩ := iF Zf.o
  subst g7
  obtain ⟨J, L, g8⟩ := fA Zd.o
  subst g8
  go_enter lV, oT
  go_wp2_with (first | ((with_reducible refine fP (N := 2) rfl ?_); refine fS zo (N := 2) zo (cs := #[.slice b3 i.length C, .slice G m.length I, .slice Z q.length a0, .slice J j.length L]) (t := 31) zh ?_; intro n hg i9 hbox hb; refine zG9 (fI (zg_6 Zb.o) hb) (fI (zg_6 Ze.o) hb) (lK (zg_7 Zf.o) hb) (fI (zg_6 Zd.o) hb) (kU (S := (fun k_ => a k_ ∨ b k_ ∨ c k_ ∨ d k_)) (zg_13 HK.o) hb) (eZ (zg_1 HB.o) hb) (hbox) ((by rw [hg]; exact (by first | exact HK.o.1 | exact (show Kept w _ (fun k_ => a k_ ∨ b k_ ∨ c k_ ∨ d k_) from zg_13 HK.o).1) : w.heap.size ≤ n)) ((by rw [hg]; exact (eV (zg_1 HB.o)) : z.heap.size ≤ n)) ?_; clear Zb Ze Zf Zd HK HB; intro Zb Ze Zf Zd HK HB Za Zg Zj; clear hb hbox hg) | ((with_reducible refine fP (N := 4) rfl ?_); refine fS zo (N := 4) zo (cs := #[.slice none 0 0, .slice none 0 0, .slice none 0 0, .slice none 0 0]) (t := 31) zh ?_; intro r hg g2 hbox hb; refine zG12 (fI (zg_6 Zb.o) hb) (fI (zg_6 Ze.o) hb) (lK (zg_7 Zf.o) hb) (fI (zg_6 Zd.o) hb) (fB (g := n) (o := .cells #[.slice b3 i.length C, .slice G m.length I, .slice Z q.length a0, .slice J j.length L] 31 (0, 0)) (zg_3 Za.o) hb) (kU (S := (fun k_ => a k_ ∨ b k_ ∨ c k_ ∨ d k_)) (zg_14 HK.o Zg.o) hb) (eZ (zg_2 HB.o Zj.o) hb) (hbox) ((by rw [hg]; exact (by first | exact HK.o.1 | exact (show Kept w _ (fun k_ => a k_ ∨ b k_ ∨ c k_ ∨ d k_) from zg_14 HK.o Zg.o).1) : w.heap.size ≤ r)) ((by rw [hg]; exact (eV (zg_2 HB.o Zj.o)) : z.heap.size ≤ r)) ((by rw [hg]; exact gN (hO (g := n) (o := .cells #[.slice b3 i.length C, .slice G m.length I, .slice Z q.length a0, .slice J j.length L] 31 (0, 0)) (zg_3 Za.o)) : n ≠ r)) ((by rw [hg]; exact gT (hO (g := n) (o := .cells #[.slice b3 i.length C, .slice G m.length I, .slice Z q.length a0, .slice J j.length L] 31 (0, 0)) (zg_3 Za.o)) : r ≠ n)) ?_; clear Zb Ze Zf Zd Za HK HB; intro Zb Ze Zf Zd Za HK HB Zc Zk Zl Zh Zi; clear hb hbox hg; have i2 := Zh.o; have i3 := Zi.o; obtain ⟨_, _, _, _, _, _, _, _⟩ := zb4 Za.o; have O : 0 ≤ ((ji13) : Int) := zd; have T : (ji13) < (i.length : Int) := zd; obtain ⟨f6, d9, hx342_0⟩ := gY (fC Zb.o).2.2 (ji13) O T; cases d9; replace O := eq_true O; replace T := eq_true T; have a8 : 0 ≤ ((ji13) : Int) := zd; have a9 : ((ji13) : Int) < ((i.length : Int) : Int) := zd; obtain ⟨l, g9, b0, b1, gl16, cl16, HG16⟩ := mI Zb.o (by omega); (first | cases b0 | (injection b0 with ea_ en_ ec_; (first | subst ea_ | (injection ea_ with ea_; subst ea_)); subst ec_; clear en_)); have GB16 := zm b1; have Zp := zm HG16; clear b1 gl16 HG16; have HMgo16 := zm (show ((a l ∨ b l ∨ c l ∨ d l) ∨ w.heap.size ≤ l) from (Zb.o.1 _ rfl).1); (first | simp only [nS] at hx342_0 | skip); obtain ⟨hx16_0, hf16_0⟩ := jL 0 Zb.o ((ji13) : Int) a8 a9; replace a8 := eq_true a8; replace a9 := eq_true a9; obtain ⟨hy43_, hz43_⟩ := jL 0 Zb.o ((ji13) : Int) (zd) (zd); have Zo := mT Zb.o ((ji13) : Int) (wrap64 ((rd i (ji13)) - 1))) | ((with_reducible refine jG (t := 3) (p := 17) rfl ?_); refine zst (w1 := (g2.setCell ⟨l, ((ji13) : Int).toNat, none⟩ (.int .i64 (wrap64 ((rd i (ji13)) - 1))))) rfl rfl rfl zh ?_; intro e6 hw; have hg : g2.grownBy e6 (some l) := (by rw [hw]; exact Zo.2); have hp_ : Kd.R (fG .i64) 3 e6 z.heap.size (fun k_ => ((a k_ ∨ b k_ ∨ c k_ ∨ d k_) ∨ w.heap.size ≤ k_) ∧ some k_ ≠ ob (.slice G m.length I) ∧ some k_ ≠ ob (.slice J j.length L)) (.slice (some ⟨l, 0, none⟩) i.length C) u := (by rw [hw, a5.o]; exact Zo.1); clear Zo; refine zG8 (hp_) (iK (v := (.slice (some ⟨l, 0, none⟩) i.length C)) (v1 := (.slice (some ⟨l, 0, none⟩) i.length C)) (ok := (fun k_ => ((a k_ ∨ b k_ ∨ c k_ ∨ d k_) ∨ w.heap.size ≤ k_) ∧ some k_ ≠ ob (.slice J j.length L))) (by (with_reducible repeat (first | apply fY | apply fZ | apply fK)); exact eX Ze.o (fun _ hk => ⟨⟨hk.1, hk.2.2⟩, hk.2.1⟩)) hg (.inl rfl)) (mQ (v := (.slice (some ⟨l, 0, none⟩) i.length C)) (v1 := (.slice (some ⟨l, 0, none⟩) i.length C)) (ok := (fun k_ => ((a k_ ∨ b k_ ∨ c k_ ∨ d k_) ∨ w.heap.size ≤ k_) ∧ some k_ ≠ ob (.slice G m.length I) ∧ some k_ ≠ ob (.slice J j.length L))) (by (with_reducible repeat (first | apply jA | apply jB | apply iU)); exact gQ Zf.o (fun _ hk => ⟨⟨hk.1, ⟨hk.2.2.1, hk.2.2.2⟩⟩, hk.2.1⟩)) hg (.inl rfl)) (iK (v := (.slice (some ⟨l, 0, none⟩) i.length C)) (v1 := (.slice (some ⟨l, 0, none⟩) i.length C)) (ok := (fun k_ => ((a k_ ∨ b k_ ∨ c k_ ∨ d k_) ∨ w.heap.size ≤ k_) ∧ some k_ ≠ ob (.slice G m.length I))) (by (with_reducible repeat (first | apply fY | apply fZ | apply fK)); exact eX Zd.o (fun _ hk => ⟨⟨hk.1, hk.2.2⟩, hk.2.1⟩)) hg (.inl rfl)) (gW (g := n) (o := .cells #[.slice (some ⟨l, 0, none⟩) i.length C, .slice G m.length I, .slice Z q.length a0, .slice J j.length L] 31 (0, 0)) (zg_3 Za.o) hg (gJ Zb.o Za.o (by decide))) (gW (g := r) (o := .cells #[.slice none 0 0, .slice none 0 0, .slice none 0 0, .slice none 0 0] 31 (0, 0)) (zg_3 Zc.o) hg (gJ Zb.o Zc.o (by decide))) ((by rw [hw]; exact iG (HB.o) GB16.o : Below z.heap.size z e6)) (nW (S := (fun k_ => a k_ ∨ b k_ ∨ c k_ ∨ d k_)) hg (zg_15 HK.o Zg.o Zk.o) (fun k_ e_ => (Zb.o.1 k_ e_).1)) ?_; clear Zb Ze Zf Zd Za Zc HB HK; intro Zb Ze Zf Zd Za Zc HB HK; clear hg hw hp_; obtain ⟨_, _, _, _, _, _, _, _⟩ := zb4 Za.o; have U : 0 ≤ ((ji13) : Int) := zd; have V : (ji13) < (u.length : Int) := (by have h_ : ((ji13) : Int) < ((i.length : Int) : Int) := zd; first | (have e_ := (fC Zb.o).1; omega) | simpa only [a5.o, List.length_set] using h_); have ql344 : (((ji13) : Int) < ((i.length : Int) : Int)) = True := eq_true (zd); obtain ⟨b4, e0, hx344_0⟩ := gY (fC Zb.o).2.2 (ji13) U V; obtain rfl : (⟨l, 0, none⟩ : Addr) = b4 := (by injection e0); (first | simp only [nS] at hx344_0 | simp only [add_at] at hx344_0 | simp only [Addr.add, Nat.zero_add] at hx344_0 | skip); replace U := eq_true U; replace V := eq_true V; obtain ⟨_, _, _, _, _, _, _, _⟩ := zb4 Zc.o))
  refine iD (jE rfl _ _ r 31 #[.slice (some ⟨l, 0, none⟩) i.length C, .slice G m.length I, .slice Z q.length a0, .slice J j.length L] (0, 0) _ rfl (by exact zput4 Zc.o) fW rfl (by kernel_rfl)) rfl ?_
  exact ⟨_, _, _, _, by first | rfl | (simp [errW_none, errW_some] <;> rfl) | (simp only [← hji13]; first | rfl | (simp [errW_none, errW_some] <;> rfl)) | (simp [*, errW_none, errW_some] <;> rfl), eX (zR4 (fD Zb.o Zc.o (by decide))) (fun _ hk => ⟨hk.1.1, ⟨hk.1.2.1, hk.1.2.2⟩⟩), eX (zR4 (fD Ze.o Zc.o (by decide))) (fun _ hk => ⟨hk.1.1.1, ⟨hk.1.2, hk.1.1.2⟩⟩), gQ (zS4 (hX Zf.o Zc.o (by decide))) (fun _ hk => ⟨hk.1.1.1, ⟨hk.1.2, ⟨hk.1.1.2.1, hk.1.1.2.2⟩⟩⟩), eX (zR4 (fD Zd.o Zc.o (by decide))) (fun _ hk => ⟨hk.1.1.1, ⟨hk.1.2, hk.1.1.2⟩⟩), zg_5 HB.o Zj.o Zl.o, zg_15 HK.o Zg.o Zk.o⟩
 rw [if_pos a7] at H
 have f4 : ((rd u (ji13)) == 0) = true := beq_iff_eq.mpr a7
 have f5 : ((rd u (ji13)) != 0) = false := bne_eq_false_iff_eq.mpr a7
 clear a7
 replace H := zid H; obtain ⟨i4, H⟩ := H
 obtain ⟨e7, b5⟩ : ∃ y_ : List Int, y_ = (j.set ((ji13) : Int).toNat 0) := ⟨_, rfl⟩
 replace H : (some (u, m, q, e7)) = some (r1, r2, r3, r4) := zy H b5
 have f7 := zm b5; clear b5
 simp only [gC, gP] at H
 obtain ⟨rfl, rfl, rfl, rfl⟩ := H
 obtain ⟨b6, s, h0⟩ := fA Zb.o
 subst h0
 obtain ⟨A, B, h1⟩ := fA Ze.o
 subst h1
 obtain ⟨X, Y, h2⟩ := iF Zf.o
 subst h2
 obtain ⟨M, x, h3⟩ := fA Zd.o
 subst h3
 go_enter lV, oT
 go_wp2_with (first | ((with_reducible refine fP (N := 2) rfl ?_); refine fS zo (N := 2) zo (cs := #[.slice b6 i.length s, .slice A m.length B, .slice X q.length Y, .slice M j.length x]) (t := 31) zh ?_; intro n hg j0 hbox hb; refine zG9 (fI (zg_6 Zb.o) hb) (fI (zg_6 Ze.o) hb) (lK (zg_7 Zf.o) hb) (fI (zg_6 Zd.o) hb) (kU (S := (fun k_ => a k_ ∨ b k_ ∨ c k_ ∨ d k_)) (zg_13 HK.o) hb) (eZ (zg_1 HB.o) hb) (hbox) ((by rw [hg]; exact (by first | exact HK.o.1 | exact (show Kept w _ (fun k_ => a k_ ∨ b k_ ∨ c k_ ∨ d k_) from zg_13 HK.o).1) : w.heap.size ≤ n)) ((by rw [hg]; exact (eV (zg_1 HB.o)) : z.heap.size ≤ n)) ?_; clear Zb Ze Zf Zd HK HB; intro Zb Ze Zf Zd HK HB Za Zg Zj; clear hb hbox hg) | ((with_reducible refine fP (N := 4) rfl ?_); refine fS zo (N := 4) zo (cs := #[.slice none 0 0, .slice none 0 0, .slice none 0 0, .slice none 0 0]) (t := 31) zh ?_; intro r hg g3 hbox hb; refine zG12 (fI (zg_6 Zb.o) hb) (fI (zg_6 Ze.o) hb) (lK (zg_7 Zf.o) hb) (fI (zg_6 Zd.o) hb) (fB (g := n) (o := .cells #[.slice b6 i.length s, .slice A m.length B, .slice X q.length Y, .slice M j.length x] 31 (0, 0)) (zg_3 Za.o) hb) (kU (S := (fun k_ => a k_ ∨ b k_ ∨ c k_ ∨ d k_)) (zg_14 HK.o Zg.o) hb) (eZ (zg_2 HB.o Zj.o) hb) (hbox) ((by rw [hg]; exact (by first | exact HK.o.1 | exact (show Kept w _ (fun k_ => a k_ ∨ b k_ ∨ c k_ ∨ d k_) from zg_14 HK.o Zg.o).1) : w.heap.size ≤ r)) ((by rw [hg]; exact (eV (zg_2 HB.o Zj.o)) : z.heap.size ≤ r)) ((by rw [hg]; exact gN (hO (g := n) (o := .cells #[.slice b6 i.length s, .slice A m.length B, .slice X q.length Y, .slice M j.length x] 31 (0, 0)) (zg_3 Za.o)) : n ≠ r)) ((by rw [hg]; exact gT (hO (g := n) (o := .cells #[.slice b6 i.length s, .slice A m.length B, .slice X q.length Y, .slice M j.length x] 31 (0, 0)) (zg_3 Za.o)) : r ≠ n)) ?_; clear Zb Ze Zf Zd Za HK HB; intro Zb Ze Zf Zd Za HK HB Zc Zk Zl Zh Zi; clear hb hbox hg; have i5 := Zh.o; have i6 := Zi.o; obtain ⟨_, _, _, _, _, _, _, _⟩ := zb4 Za.o; have O : 0 ≤ ((ji13) : Int) := zd; have T : (ji13) < (i.length : Int) := zd; obtain ⟨f6, d9, hx342_0⟩ := gY (fC Zb.o).2.2 (ji13) O T; cases d9; replace O := eq_true O; replace T := eq_true T; have a8 : 0 ≤ ((ji13) : Int) := zd; have a9 : ((ji13) : Int) < ((i.length : Int) : Int) := zd; obtain ⟨l, g9, b0, b1, gl16, cl16, HG16⟩ := mI Zb.o (by omega); (first | cases b0 | (injection b0 with ea_ en_ ec_; (first | subst ea_ | (injection ea_ with ea_; subst ea_)); subst ec_; clear en_)); have GB16 := zm b1; have Zp := zm HG16; clear b1 gl16 HG16; have HMgo16 := zm (show ((a l ∨ b l ∨ c l ∨ d l) ∨ w.heap.size ≤ l) from (Zb.o.1 _ rfl).1); (first | simp only [nS] at hx342_0 | skip); obtain ⟨hx16_0, hf16_0⟩ := jL 0 Zb.o ((ji13) : Int) a8 a9; replace a8 := eq_true a8; replace a9 := eq_true a9; obtain ⟨hy28_, hz28_⟩ := jL 0 Zb.o ((ji13) : Int) (zd) (zd); have Zm := mT Zb.o ((ji13) : Int) (wrap64 ((rd i (ji13)) - 1))) | ((with_reducible refine jG (t := 3) (p := 17) rfl ?_); refine zst (w1 := (g3.setCell ⟨l, ((ji13) : Int).toNat, none⟩ (.int .i64 (wrap64 ((rd i (ji13)) - 1))))) rfl rfl rfl zh ?_; intro d8 hw; have hg : g3.grownBy d8 (some l) := (by rw [hw]; exact Zm.2); have hp_ : Kd.R (fG .i64) 3 d8 z.heap.size (fun k_ => ((a k_ ∨ b k_ ∨ c k_ ∨ d k_) ∨ w.heap.size ≤ k_) ∧ some k_ ≠ ob (.slice A m.length B) ∧ some k_ ≠ ob (.slice M j.length x)) (.slice (some ⟨l, 0, none⟩) i.length s) u := (by rw [hw, a5.o]; exact Zm.1); clear Zm; refine zG8 (hp_) (iK (v := (.slice (some ⟨l, 0, none⟩) i.length s)) (v1 := (.slice (some ⟨l, 0, none⟩) i.length s)) (ok := (fun k_ => ((a k_ ∨ b k_ ∨ c k_ ∨ d k_) ∨ w.heap.size ≤ k_) ∧ some k_ ≠ ob (.slice M j.length x))) (by (with_reducible repeat (first | apply fY | apply fZ | apply fK)); exact eX Ze.o (fun _ hk => ⟨⟨hk.1, hk.2.2⟩, hk.2.1⟩)) hg (.inl rfl)) (mQ (v := (.slice (some ⟨l, 0, none⟩) i.length s)) (v1 := (.slice (some ⟨l, 0, none⟩) i.length s)) (ok := (fun k_ => ((a k_ ∨ b k_ ∨ c k_ ∨ d k_) ∨ w.heap.size ≤ k_) ∧ some k_ ≠ ob (.slice A m.length B) ∧ some k_ ≠ ob (.slice M j.length x))) (by (with_reducible repeat (first | apply jA | apply jB | apply iU)); exact gQ Zf.o (fun _ hk => ⟨⟨hk.1, ⟨hk.2.2.1, hk.2.2.2⟩⟩, hk.2.1⟩)) hg (.inl rfl)) (iK (v := (.slice (some ⟨l, 0, none⟩) i.length s)) (v1 := (.slice (some ⟨l, 0, none⟩) i.length s)) (ok := (fun k_ => ((a k_ ∨ b k_ ∨ c k_ ∨ d k_) ∨ w.heap.size ≤ k_) ∧ some k_ ≠ ob (.slice A m.length B))) (by (with_reducible repeat (first | apply fY | apply fZ | apply fK)); exact eX Zd.o (fun _ hk => ⟨⟨hk.1, hk.2.2⟩, hk.2.1⟩)) hg (.inl rfl)) (gW (g := n) (o := .cells #[.slice (some ⟨l, 0, none⟩) i.length s, .slice A m.length B, .slice X q.length Y, .slice M j.length x] 31 (0, 0)) (zg_3 Za.o) hg (gJ Zb.o Za.o (by decide))) (gW (g := r) (o := .cells #[.slice none 0 0, .slice none 0 0, .slice none 0 0, .slice none 0 0] 31 (0, 0)) (zg_3 Zc.o) hg (gJ Zb.o Zc.o (by decide))) ((by rw [hw]; exact iG (HB.o) GB16.o : Below z.heap.size z d8)) (nW (S := (fun k_ => a k_ ∨ b k_ ∨ c k_ ∨ d k_)) hg (zg_15 HK.o Zg.o Zk.o) (fun k_ e_ => (Zb.o.1 k_ e_).1)) ?_; clear Zb Ze Zf Zd Za Zc HB HK; intro Zb Ze Zf Zd Za Zc HB HK; clear hg hw hp_; obtain ⟨_, _, _, _, _, _, _, _⟩ := zb4 Za.o; have U : 0 ≤ ((ji13) : Int) := zd; have V : (ji13) < (u.length : Int) := (by have h_ : ((ji13) : Int) < ((i.length : Int) : Int) := zd; first | (have e_ := (fC Zb.o).1; omega) | simpa only [a5.o, List.length_set] using h_); have ql344 : (((ji13) : Int) < ((i.length : Int) : Int)) = True := eq_true (zd); obtain ⟨b4, e0, hx344_0⟩ := gY (fC Zb.o).2.2 (ji13) U V; obtain rfl : (⟨l, 0, none⟩ : Addr) = b4 := (by injection e0); (first | simp only [nS] at hx344_0 | simp only [add_at] at hx344_0 | simp only [Addr.add, Nat.zero_add] at hx344_0 | skip); replace U := eq_true U; replace V := eq_true V; have e8 : 0 ≤ ((ji13) : Int) := zd; have e9 : ((ji13) : Int) < ((j.length : Int) : Int) := zd; obtain ⟨y, i7, f0, f1, gl19, cl19, HG19⟩ := mI Zd.o (by omega); (first | cases f0 | (injection f0 with ea_ en_ ec_; (first | subst ea_ | (injection ea_ with ea_; subst ea_)); subst ec_; clear en_)); have GB19 := zm f1; have Zq := zm HG19; clear f1 gl19 HG19; have HMgo19 := zm (show ((a y ∨ b y ∨ c y ∨ d y) ∨ w.heap.size ≤ y) from (Zd.o.1 _ rfl).1.1); obtain ⟨hx19_0, hf19_0⟩ := jL 0 Zd.o ((ji13) : Int) e8 e9; replace e8 := eq_true e8; replace e9 := eq_true e9; refine zG1 (eX (ok' := (fun k_ => ((a k_ ∨ b k_ ∨ c k_ ∨ d k_) ∨ w.heap.size ≤ k_) ∧ some k_ ≠ ob (.slice (some ⟨l, 0, none⟩) i.length s) ∧ some k_ ≠ ob (.slice A m.length B))) Zd.o (fun k_ hk => ⟨hk.1.1, ⟨hk.2, hk.1.2⟩⟩)) ?_; clear Zd; intro Zd; obtain ⟨hy31_, hz31_⟩ := jL 0 Zd.o ((ji13) : Int) (zd) (zd); have Zn := mT Zd.o ((ji13) : Int) 0) | ((with_reducible refine jG (t := 3) (p := 27) rfl ?_); refine zst (w1 := (d8.setCell ⟨y, ((ji13) : Int).toNat, none⟩ (.int .i64 0))) rfl rfl rfl zh ?_; intro f2 hw; have hg : d8.grownBy f2 (some y) := (by rw [hw]; exact Zn.2); have hp_ : Kd.R (fG .i64) 3 f2 z.heap.size (fun k_ => ((a k_ ∨ b k_ ∨ c k_ ∨ d k_) ∨ w.heap.size ≤ k_) ∧ some k_ ≠ ob (.slice (some ⟨l, 0, none⟩) i.length s) ∧ some k_ ≠ ob (.slice A m.length B)) (.slice (some ⟨y, 0, none⟩) j.length x) e7 := (by rw [hw, f7.o]; exact Zn.1); clear Zn; refine zG8 (iK (v := (.slice (some ⟨y, 0, none⟩) j.length x)) (v1 := (.slice (some ⟨y, 0, none⟩) j.length x)) (ok := (fun k_ => ((a k_ ∨ b k_ ∨ c k_ ∨ d k_) ∨ w.heap.size ≤ k_) ∧ some k_ ≠ ob (.slice A m.length B))) (by (with_reducible repeat (first | apply fY | apply fZ | apply fK)); exact eX Zb.o (fun _ hk => ⟨⟨hk.1, hk.2.1⟩, hk.2.2⟩)) hg (.inl rfl)) (iK (v := (.slice (some ⟨y, 0, none⟩) j.length x)) (v1 := (.slice (some ⟨y, 0, none⟩) j.length x)) (ok := (fun k_ => ((a k_ ∨ b k_ ∨ c k_ ∨ d k_) ∨ w.heap.size ≤ k_) ∧ some k_ ≠ ob (.slice (some ⟨l, 0, none⟩) i.length s))) (by (with_reducible repeat (first | apply fY | apply fZ | apply fK)); exact eX Ze.o (fun _ hk => ⟨⟨hk.1.1, hk.2⟩, hk.1.2⟩)) hg (.inl rfl)) (mQ (v := (.slice (some ⟨y, 0, none⟩) j.length x)) (v1 := (.slice (some ⟨y, 0, none⟩) j.length x)) (ok := (fun k_ => ((a k_ ∨ b k_ ∨ c k_ ∨ d k_) ∨ w.heap.size ≤ k_) ∧ some k_ ≠ ob (.slice (some ⟨l, 0, none⟩) i.length s) ∧ some k_ ≠ ob (.slice A m.length B))) (by (with_reducible repeat (first | apply jA | apply jB | apply iU)); exact gQ Zf.o (fun _ hk => ⟨⟨hk.1.1, ⟨hk.2, hk.1.2.1⟩⟩, hk.1.2.2⟩)) hg (.inl rfl)) (hp_) (gW (g := n) (o := .cells #[.slice (some ⟨l, 0, none⟩) i.length s, .slice A m.length B, .slice X q.length Y, .slice (some ⟨y, 0, none⟩) j.length x] 31 (0, 0)) (zg_3 Za.o) hg (gJ Zd.o Za.o (by decide))) (gW (g := r) (o := .cells #[.slice none 0 0, .slice none 0 0, .slice none 0 0, .slice none 0 0] 31 (0, 0)) (zg_3 Zc.o) hg (gJ Zd.o Zc.o (by decide))) ((by rw [hw]; exact iG (HB.o) GB19.o : Below z.heap.size z f2)) (nW (S := (fun k_ => a k_ ∨ b k_ ∨ c k_ ∨ d k_)) hg (zg_15 HK.o Zg.o Zk.o) (fun k_ e_ => (Zd.o.1 k_ e_).1)) ?_; clear Zb Ze Zf Zd Za Zc HB HK; intro Zb Ze Zf Zd Za Zc HB HK; clear hg hw hp_; obtain ⟨_, _, _, _, _, _, _, _⟩ := zb4 Za.o; obtain ⟨_, _, _, _, _, _, _, _⟩ := zb4 Zc.o))
 refine iD (jE rfl _ _ r 31 #[.slice (some ⟨l, 0, none⟩) i.length s, .slice A m.length B, .slice X q.length Y, .slice (some ⟨y, 0, none⟩) j.length x] (0, 0) _ rfl (by exact zput4 Zc.o) fW rfl (by kernel_rfl)) rfl ?_
 exact ⟨_, _, _, _, by first | rfl | (simp [errW_none, errW_some] <;> rfl) | (simp only [← hji13]; first | rfl | (simp [errW_none, errW_some] <;> rfl)) | (simp [*, errW_none, errW_some] <;> rfl), eX (zR4 (fD Zb.o Zc.o (by decide))) (fun _ hk => ⟨hk.1.1.1, ⟨hk.1.1.2, hk.1.2⟩⟩), eX (zR4 (fD Ze.o Zc.o (by decide))) (fun _ hk => ⟨hk.1.1.1, ⟨hk.1.1.2, hk.1.2⟩⟩), gQ (zS4 (hX Zf.o Zc.o (by decide))) (fun _ hk => ⟨hk.1.1.1, ⟨hk.1.1.2.1, ⟨hk.1.1.2.2, hk.1.2⟩⟩⟩), eX (zR4 (fD Zd.o Zc.o (by decide))) (fun _ hk => ⟨hk.1.1, ⟨hk.1.2.1, hk.1.2.2⟩⟩), zg_5 HB.o Zj.o Zl.o, zg_15 HK.o Zg.o Zk.o⟩
def aU.l0 : Nat → Int → Int → List Int → List Int → List (S60) → List Int → Option (List Int × List Int × (List (S60)) × List Int)
  | 0, _, _, _, _, _, _ => none
  | k + 1, x1, x5, x460000, x460001, x460002, x460003 => if x5 < (x460001.length : Int) then (if 0 ≤ x5 then ((cC.f x460000 x460001 x460002 x460003 (rd x460001 x5)).bind fun bt474 => (aU.l0 k x1 (wrap64 (x5 + 1)) bt474.1 bt474.2.1 bt474.2.2.1 bt474.2.2.2)) else (none)) else ((bI.f k x460001 x1).bind fun t486 => (some (x460000, t486, x460002, x460003)))
def aU.f (k : Nat) (l0_0 : List Int) (l0_1 : List Int) (l0_2 : List (S60)) (l0_3 : List Int) (a1 : Int) : Option (List Int × List Int × (List (S60)) × List Int) := (aE.f k l0_0 l0_1 l0_2 l0_3).bind fun bt461 => (aU.l0 k a1 a1 bt461.1 bt461.2.1 bt461.2.2.1 bt461.2.2.2)
def aU.T5 : Bool × List (List Nat × List Nat) := (true, [([], []), ([], []), ([1], [1]), ([], []), ([2, 3], [2, 3]), ([4], [4]), ([0, 5], [0, 5]), ([6, 6, 0, 1, 2, 3, 4, 5, 6], [6])])
def aU.B5 : List Nat := [0, 0, 2, 0, 14, 30, 63, 127]
theorem aU.tab5 : rtab .any (opsOf Tryz.f36 5) = aU.T5 := by kernel_rfl
theorem aU.bits5 : waitsOk aU.T5.2 aU.B5 = true := by kernel_rfl
set_option maxHeartbeats 8000000 in
set_option maxRecDepth 100000 in
theorem aU.calls (k : Nat) (B : Option Addr) (D : Nat) (m : List Int) (F : Option Addr) (G : Nat) (q : List Int) (I : Option Addr) (J : Nat) (r : List (S60)) (L : Option Addr) (M : Nat) (s : List Int) (a1 : Int) (r1 : List Int) (r2 : List Int) (r3 : List (S60)) (r4 : List Int) (w : World) (d7 : Kd.C (fG .i64) w B m.length m) (d8 : m.length ≤ D) (d9 : Kd.C (fG .i64) w F q.length q) (e0 : q.length ≤ G) (e1 : Kd.C k60 w I r.length r) (e2 : r.length ≤ J) (e3 : Kd.C (fG .i64) w L s.length s) (e4 : s.length ≤ M) (h : aU.f k m q r s a1 = some (r1, r2, r3, r4)) :
    Calls fM 36 #[.agg #[.slice B m.length D, .slice F q.length G, .slice I r.length J, .slice L s.length M], .int .i64 a1] w fun e w' => ∃ a8 a9 f8 b0 : Value, e = .returned (.agg #[a8, a9, f8, b0]) ∧ Kd.R (fG .i64) 3 w' w.heap.size (fun k_ => some k_ ≠ ob a9 ∧ some k_ ≠ ob b0) a8 r1 ∧ Kd.R (fG .i64) 3 w' w.heap.size (fun k_ => some k_ ≠ ob a8 ∧ some k_ ≠ ob b0) a9 r2 ∧ Kd.S k60 60 w' w.heap.size (fun k_ => some k_ ≠ ob a8 ∧ some k_ ≠ ob a9 ∧ some k_ ≠ ob b0) f8 r3 ∧ Kd.R (fG .i64) 3 w' w.heap.size (fun k_ => some k_ ≠ ob a8 ∧ some k_ ≠ ob a9) b0 r4 ∧ Below w.heap.size w w' := by
 have hu31 := fW; have Zt := zm d7; have Zu := zm d8; clear d7 d8; have Zv := zm d9; have Zw := zm e0; clear d9 e0; have Zx := zm e1; have Zy := zm e2; clear e1 e2; have Zz := zm e3; have ZA := zm e4; clear e3 e4; have HB := zm (fX w.heap.size w); have H := h
 unfold aU.f at H
 clear h; replace H := eW.mp H
 obtain ⟨⟨c1, c2, c5, c7⟩, f9, H⟩ := H
 try dsimp only at H
 have A3 := zm f9; clear f9
 have H' := zm H
 clear H
 go_enter Tryz.func36, Tryz.ntmps36
 go_wp2_with (first | ((with_reducible refine fP (N := 2) rfl ?_); refine fS zo (N := 2) zo (cs := #[.slice B m.length D, .slice F q.length G, .slice I r.length J, .slice L s.length M]) (t := 31) zh ?_; intro l hg w4 hbox hb; refine zG4 (eZ (zg_1 HB.o) hb) (hbox) ((by rw [hg]; exact (eV (zg_1 HB.o)) : w.heap.size ≤ l)) ((by rw [hg]; exact (eV (zg_1 HB.o)) : w.heap.size ≤ l)) ?_; clear HB; intro HB Za ZB Zi; clear hb hbox hg) | ((with_reducible refine fP (N := 4) rfl ?_); refine fS zo (N := 4) zo (cs := #[.slice none 0 0, .slice none 0 0, .slice none 0 0, .slice none 0 0]) (t := 31) zh ?_; intro j hg w5 hbox hb; refine zG7 (fB (g := l) (o := .cells #[.slice B m.length D, .slice F q.length G, .slice I r.length J, .slice L s.length M] 31 (0, 0)) (zg_3 Za.o) hb) (eZ (zg_2 HB.o Zi.o) hb) (hbox) ((by rw [hg]; exact (eV (zg_2 HB.o Zi.o)) : w.heap.size ≤ j)) ((by rw [hg]; exact (eV (zg_2 HB.o Zi.o)) : w.heap.size ≤ j)) ((by rw [hg]; exact gN (hO (g := l) (o := .cells #[.slice B m.length D, .slice F q.length G, .slice I r.length J, .slice L s.length M] 31 (0, 0)) (zg_3 Za.o)) : l ≠ j)) ((by rw [hg]; exact gT (hO (g := l) (o := .cells #[.slice B m.length D, .slice F q.length G, .slice I r.length J, .slice L s.length M] 31 (0, 0)) (zg_3 Za.o)) : j ≠ l)) ?_; clear Za HB; intro Za HB Zf ZC Zj Zh Ze; clear hb hbox hg; have k7 := Zh.o; have k8 := Ze.o; obtain ⟨_, _, _, _, _, _, _, _⟩ := zb4 Za.o) | ((with_reducible refine fJ (f := 40) rfl ?_); refine gU (some 7) rfl rfl lJ (by kernel_rfl) rfl #[.agg #[.slice B m.length D, .slice F q.length G, .slice I r.length J, .slice L s.length M]] rfl zq ?_; (with_reducible refine (aE.calls k _ _ m _ _ q _ _ r _ _ s c1 c2 c5 c7 _ ?_ ?_ ?_ ?_ ?_ ?_ ?_ ?_ A3.o).mono ?_); exact zC (fE Zt.o HB.o); exact Zu.o; exact zC (fE Zv.o HB.o); exact Zw.o; exact zC (fE Zx.o HB.o); exact Zy.o; exact zC (fE Zz.o HB.o); exact ZA.o; rintro e w8 ⟨k9, l1, l2, l3, rfl, A, b1, b2, b3, hb⟩; refine ⟨_, rfl, ?_⟩; refine zG7 (fL A (eV (zg_5 HB.o Zi.o Zj.o))) (fL b1 (eV (zg_5 HB.o Zi.o Zj.o))) (Kd.S_lower b2 (eV (zg_5 HB.o Zi.o Zj.o))) (fL b3 (eV (zg_5 HB.o Zi.o Zj.o))) (fB (g := l) (o := .cells #[.slice B m.length D, .slice F q.length G, .slice I r.length J, .slice L s.length M] 31 (0, 0)) (zg_3 Za.o) hb) (fB (g := j) (o := .cells #[.slice none 0 0, .slice none 0 0, .slice none 0 0, .slice none 0 0] 31 (0, 0)) (zg_3 Zf.o) hb) (eZ (zg_5 HB.o Zi.o Zj.o) hb) ?_; clear Za Zf HB; intro Zk Zl Zm Zn Za Zf HB; (try clear hb); (try clear hb2); (try clear hk); (try clear hi); (try clear A); (try clear b1); (try clear b2); (try clear b3); obtain ⟨j1, j2, rfl⟩ := fA Zk.o; obtain ⟨_, _, _, _, _, _, _, _⟩ := zb4 Za.o; obtain ⟨g6, g7, rfl⟩ := fA Zl.o; obtain ⟨g8, g9, rfl⟩ := iF Zm.o; obtain ⟨h0, h1, rfl⟩ := fA Zn.o))
 go_loopg [5] k (fun kq v5 w' => ∃ (u : Int) (a : List Int) (b : List Int) (d : List (S60)) (c : List Int) (u460000 : Value) (u460001 : Value) (u460002 : Value) (u460003 : Value), v5 = .int .i64 u ∧ Aside0 (aU.l0 kq a1 u a b d c = some (r1, r2, r3, r4)) ∧ Aside0 (kq ≤ k) ∧ Aside0 (Kd.R (fG .i64) 3 w' w.heap.size (fun k_ => some k_ ≠ ob u460001 ∧ some k_ ≠ ob u460003) u460000 a) ∧ Aside0 (Kd.R (fG .i64) 3 w' w.heap.size (fun k_ => some k_ ≠ ob u460000 ∧ some k_ ≠ ob u460003) u460001 b) ∧ Aside0 (Kd.S k60 60 w' w.heap.size (fun k_ => some k_ ≠ ob u460000 ∧ some k_ ≠ ob u460001 ∧ some k_ ≠ ob u460003) u460002 d) ∧ Aside0 (Kd.R (fG .i64) 3 w' w.heap.size (fun k_ => some k_ ≠ ob u460000 ∧ some k_ ≠ ob u460001) u460003 c) ∧ Aside0 (w'.heap[l]? = some (.cells #[u460000, u460001, u460002, u460003] 31 (0, 0))) ∧ Aside0 (w'.heap[j]? = some (.cells #[(.slice none 0 0), (.slice none 0 0), (.slice none 0 0), (.slice none 0 0)] 31 (0, 0))) ∧ Aside0 (Below w.heap.size w w'))
 case atStart => exact ⟨(a1), (c1), (c2), (c5), (c7), (.slice j1 c1.length j2), (.slice g6 c2.length g7), (.slice g8 c5.length g9), (.slice h0 c7.length h1), zr, H', ⟨fQ _⟩, ⟨eX (zR4 (fD Zk.o Za.o (by decide))) (fun _ hk => ⟨hk.1.1, hk.1.2⟩)⟩, ⟨eX (zR4 (fD Zl.o Za.o (by decide))) (fun _ hk => ⟨hk.1.1, hk.1.2⟩)⟩, ⟨gQ (zS4 (hX Zm.o Za.o (by decide))) (fun _ hk => ⟨hk.1.1, ⟨hk.1.2.1, hk.1.2.2⟩⟩)⟩, ⟨eX (zR4 (fD Zn.o Za.o (by decide))) (fun _ hk => ⟨hk.1.1, hk.1.2⟩)⟩, ⟨by exact zput4 Za.o⟩, ⟨by exact zfar4 Zf.o Ze.o⟩, ⟨zg_5 HB.o Zi.o Zj.o⟩⟩
 case round =>
  clear H'
  try clear p2
  try clear c3
  try clear c4
  try clear c6
  obtain ⟨u, a, b, d, c, u460000, u460001, u460002, u460003, rfl, HA, g0, Zc, Zb, Zg, Zd, Za, Zf, HB⟩ := hrel
  cases gk with
  | zero => exact absurd HA.o (by simp [aU.l0])
  | succ k1 =>
   have H := HA.o; clear HA
   simp only [aU.l0] at H
   by_cases a5 : u < (b.length : Int)
   rotate_left
   ·rw [if_neg a5] at H
    have f7 := decide_eq_false a5; clear a5; replace H := eW.mp H
    obtain ⟨v, e6, H⟩ := H
    try dsimp only at H
    have j3 := zm e6; clear e6
    simp only [gC, gP] at H
    obtain ⟨rfl, rfl, rfl, rfl⟩ := H
    have j6 := Zh.o; have j7 := Ze.o
    obtain ⟨_, _, _, _, _, _, _, _⟩ := zb4 Za.o
    obtain ⟨e7, e8, h2⟩ := fA Zb.o
    subst h2
    go_wp2_with (first | ((with_reducible refine fJ (f := 66) rfl ?_); refine gU (some 26) rfl rfl Tryz.func66 (by kernel_rfl) rfl #[.slice e7 b.length e8, .int .i64 a1] rfl zq ?_; (with_reducible refine (bI.calls k1 _ _ b a1 v _ ?_ ?_ j3.o).mono ?_); exact zC ((fC Zb.o).2.2); exact (fC Zb.o).2.1; rintro e m2 ⟨l5, rfl, A, hb⟩; refine ⟨_, rfl, ?_⟩; refine zG8 (iZ (zg_6 Zc.o) (fH A) hb) (iZ (zg_6 Zb.o) (fH A) hb) (Kd.S_elder' (zg_7 Zg.o) (fH A) hb) (iZ (zg_6 Zd.o) (fH A) hb) (fL (fT (fT (fT A (fO (zg_6 Zc.o))) (fO (zg_6 Zb.o))) (fO (zg_6 Zd.o))) (eV (zg_5 HB.o Zi.o Zj.o))) (fB (g := l) (o := .cells #[u460000, .slice e7 b.length e8, u460002, u460003] 31 (0, 0)) (zg_3 Za.o) hb) (fB (g := j) (o := .cells #[.slice none 0 0, .slice none 0 0, .slice none 0 0, .slice none 0 0] 31 (0, 0)) (zg_3 Zf.o) hb) (eZ (zg_5 HB.o Zi.o Zj.o) hb) ?_; clear Zc Zb Zg Zd Za Zf HB; intro Zc Zb Zg Zd Zs Za Zf HB; (try clear hb); (try clear hb2); (try clear hk); (try clear hi); (try clear A); obtain ⟨x, y, rfl⟩ := fA Zs.o; obtain ⟨_, _, _, _, _, _, _, _⟩ := zb4 Za.o; obtain ⟨O, T, rfl⟩ := fA Zc.o; obtain ⟨_, _, _, _, _, _, _, _⟩ := zb4 Zf.o; obtain ⟨U, V, rfl⟩ := iF Zg.o; obtain ⟨a3, a4, rfl⟩ := fA Zd.o))
    refine iD (jE rfl _ _ j 31 #[.slice O a.length T, .slice x v.length y, .slice U d.length V, .slice a3 c.length a4] (0, 0) _ rfl (by (with_reducible repeat (first | refine gG ?_ _ | refine fU ?_ | refine fV ?_ _)); refine jS (cs := #[.slice O a.length T, .slice x v.length y, .slice U d.length V, .slice none 0 0]) ?_ 3 _ rfl; (with_reducible repeat (first | refine gG ?_ _ | refine fU ?_ | refine fV ?_ _)); refine jS (cs := #[.slice O a.length T, .slice x v.length y, .slice none 0 0, .slice none 0 0]) ?_ 2 _ rfl; (with_reducible repeat (first | refine gG ?_ _ | refine fU ?_ | refine fV ?_ _)); refine jS (cs := #[.slice O a.length T, .slice none 0 0, .slice none 0 0, .slice none 0 0]) ?_ 1 _ rfl; (with_reducible repeat (first | refine gG ?_ _ | refine fU ?_ | refine fV ?_ _)); refine jS (cs := #[.slice none 0 0, .slice none 0 0, .slice none 0 0, .slice none 0 0]) ?_ 0 _ rfl; (with_reducible repeat (first | refine gG ?_ _ | refine fU ?_ | refine fV ?_ _)); refine blk_far ?_ Ze.o _; (with_reducible repeat (first | refine gG ?_ _ | refine fU ?_ | refine fV ?_ _)); exact Zf.o) fW rfl (by kernel_rfl)) rfl ?_
    exact ⟨_, _, _, _, ze, by (with_reducible repeat (first | apply fY | apply fZ | apply fK)); exact eX (fR (p := ⟨j, 3, none⟩) (fR (p := ⟨j, 2, none⟩) (fR (p := ⟨j, 1, none⟩) (fR (p := ⟨j, 0, none⟩) (fR (p := ⟨l, 1, none⟩) (fD (fD Zc.o Za.o (by decide)) Zf.o (by decide)) (fun _ hk => hk.1.2) (.slice x v.length y)) (fun _ hk => hk.2) (.slice O a.length T)) (fun _ hk => hk.2) (.slice x v.length y)) (fun _ hk => hk.2) (.slice U d.length V)) (fun _ hk => hk.2) (.slice a3 c.length a4)) (fun _ hk => ⟨hk.1.1.2, hk.1.1.1.2⟩), by (with_reducible repeat (first | apply fY | apply fZ | apply fK)); exact eX (fR (p := ⟨j, 3, none⟩) (fR (p := ⟨j, 2, none⟩) (fR (p := ⟨j, 1, none⟩) (fR (p := ⟨j, 0, none⟩) (fR (p := ⟨l, 1, none⟩) (fD (fD Zs.o Za.o (by decide)) Zf.o (by decide)) (fun _ hk => hk.1.2) (.slice x v.length y)) (fun _ hk => hk.2) (.slice O a.length T)) (fun _ hk => hk.2) (.slice x v.length y)) (fun _ hk => hk.2) (.slice U d.length V)) (fun _ hk => hk.2) (.slice a3 c.length a4)) (fun _ hk => ⟨hk.1.1.1.1.2, hk.1.1.2⟩), by (with_reducible repeat (first | apply jA | apply jB | apply iU)); exact gQ (iW (p := ⟨j, 3, none⟩) (iW (p := ⟨j, 2, none⟩) (iW (p := ⟨j, 1, none⟩) (iW (p := ⟨j, 0, none⟩) (iW (p := ⟨l, 1, none⟩) (hX (hX Zg.o Za.o (by decide)) Zf.o (by decide)) (fun _ hk => hk.1.2) (.slice x v.length y)) (fun _ hk => hk.2) (.slice O a.length T)) (fun _ hk => hk.2) (.slice x v.length y)) (fun _ hk => hk.2) (.slice U d.length V)) (fun _ hk => hk.2) (.slice a3 c.length a4)) (fun _ hk => ⟨hk.1.1.1.1, ⟨hk.1.1.2, hk.1.1.1.2.2⟩⟩), by (with_reducible repeat (first | apply fY | apply fZ | apply fK)); exact eX (fR (p := ⟨j, 3, none⟩) (fR (p := ⟨j, 2, none⟩) (fR (p := ⟨j, 1, none⟩) (fR (p := ⟨j, 0, none⟩) (fR (p := ⟨l, 1, none⟩) (fD (fD Zd.o Za.o (by decide)) Zf.o (by decide)) (fun _ hk => hk.1.2) (.slice x v.length y)) (fun _ hk => hk.2) (.slice O a.length T)) (fun _ hk => hk.2) (.slice x v.length y)) (fun _ hk => hk.2) (.slice U d.length V)) (fun _ hk => hk.2) (.slice a3 c.length a4)) (fun _ hk => ⟨hk.1.1.1.1, hk.1.1.2⟩), zg_5 HB.o Zi.o Zj.o⟩
   rw [if_pos a5] at H; have f7 := decide_eq_true a5; clear a5
   replace H := zif H; obtain ⟨g1, H⟩ := H; have j8 := decide_eq_true g1; clear g1; replace H := eW.mp H
   obtain ⟨⟨c8, c9, d0, d1⟩, e9, H⟩ := H
   try dsimp only at H
   have j4 := zm e9; clear e9
   have H' := zm H
   clear H; have j9 := Zh.o; have k0 := Ze.o
   obtain ⟨_, _, _, _, _, _, _, _⟩ := zb4 Za.o
   obtain ⟨l6, X, h3⟩ := fA Zb.o
   subst h3
   try go_wp2
   have b4 := zm (fK Zc.o); have b5 := zm (fK Zb.o); have b6 := zm (iU Zg.o); have b7 := zm (fK Zd.o); have b8 := zm (fU Za.o); have b9 := zm (fU Zf.o); have c0 := zm (gA HB.o); clear Zc; clear Zb; clear Zg; clear Zd; clear Za; clear Zf; clear HB; have Zc := b4; have Zb := b5; have Zg := b6; have Zd := b7; have Za := b8; have Zf := b9; have HB := c0; clear b4 b5 b6 b7 b8 b9 c0
   have d2 : 0 ≤ (u : Int) := zd
   have d3 : u < (b.length : Int) := zd
   obtain ⟨z, h4, hx473_0⟩ := gY (fC Zb.o).2.2 u d2 d3
   cases h4; replace d2 := eq_true d2; replace d3 := eq_true d3
   obtain ⟨Y, Z, f0⟩ := fA Zc.o
   (first | subst f0 | (injection f0 with f1_ f2_ f3_; have f4_ := f1_.symm; have f5_ := f3_.symm; clear f1_ f2_ f3_; subst f4_; subst f5_))
   obtain ⟨a6, a7, f1⟩ := iF Zg.o
   (first | subst f1 | (injection f1 with f1_ f2_ f3_; have f4_ := f1_.symm; have f5_ := f3_.symm; clear f1_ f2_ f3_; subst f4_; subst f5_))
   obtain ⟨a0, a2, f2⟩ := fA Zd.o
   (first | subst f2 | (injection f2 with f1_ f2_ f3_; have f4_ := f1_.symm; have f5_ := f3_.symm; clear f1_ f2_ f3_; subst f4_; subst f5_))
   refine start_ (n := 8) (S := fun w' => w'.cell? ⟨l, 0, none⟩ = some (.slice Y a.length Z) ∧ w'.cell? ⟨l, 1, none⟩ = some (.slice (some z) b.length X) ∧ w'.cell? ⟨l, 2, none⟩ = some (.slice a6 d.length a7) ∧ w'.cell? ⟨l, 3, none⟩ = some (.slice a0 c.length a2) ∧ w'.cell? (z.add (u).toNat) = some (.int .i64 (rd b u))) (ds := [6, 7]) #[ff, ff, ff, ff, ff, ff, ff, ff] (by kernel_rfl) rfl rfl ⟨(eY Za.o 0).trans rfl, (eY Za.o 1).trans rfl, (eY Za.o 2).trans rfl, (eY Za.o 3).trans rfl, hx473_0⟩ (fun hHeld => ?_); refine kJ aU.tab5 aU.bits5 (fun HT_ HW_ => ?_)
   generalize wr.drew = j5 at Zc Zb Zg Zd Za Zf HB hx473_0 hHeld ⊢
   refine gR (i := 1) (N := some 17) #[ff, tt, ff, ff, ff, ff, ff, ff] rfl rfl (gD HT_.o zk) (fun _ _ _ h => h) (.inl ⟨by rfl, zi⟩) zu ?_
   refine gR (i := 3) (N := some 19) #[ff, tt, ff, tt, ff, ff, ff, ff] rfl rfl (gD HT_.o zk) (fun _ _ _ h => h) (.inl ⟨by rfl, zi⟩) zu ?_
   refine kA (i := 0) (N := some 16) #[tt, tt, ff, tt, ff, ff, ff, ff] rfl rfl (hZ HT_.o HW_.o zk) (fun _ _ _ h => h) (.inl ⟨by rfl, zi5⟩) hHeld zu ?_
   refine kA (i := 2) (N := some 18) #[tt, tt, tt, tt, ff, ff, ff, ff] rfl rfl (hZ HT_.o HW_.o zk) (fun _ _ _ h => h) (.inl ⟨by rfl, zi5⟩) hHeld zu ?_
   refine gR (i := 4) (N := some 20) #[tt, tt, tt, tt, tt, ff, ff, ff] rfl rfl (gD HT_.o zk) (fun _ _ _ h => h) (.inl ⟨by rfl, zi⟩) zu ?_
   refine kA (i := 5) (N := some 21) #[tt, tt, tt, tt, tt, tt, ff, ff] rfl rfl (hZ HT_.o HW_.o zk) (fun _ _ _ h => h) (.inl ⟨by rfl, zi5⟩) hHeld zu ?_
   refine last_ (i := 6) (N := some 22) #[tt, tt, tt, tt, tt, tt, tt, ff] rfl rfl (iS HT_.o zk) (by decide) (fun K hK => ?_)
   refine goes_ lV (by kernel_rfl) rfl #[.agg #[.slice Y a.length Z, .slice (some z) b.length X, .slice a6 d.length a7, .slice a0 c.length a2], .int .i64 (rd b u)] (by rfl) rfl rfl zq ?_
   with_reducible refine (cC.calls (fun k_ => some k_ = ob (.slice Y a.length Z)) (.slice Y a.length Z) a (fun k_ => some k_ = ob (.slice (some z) b.length X)) (.slice (some z) b.length X) b (fun k_ => ((some k_ ≠ ob (.slice Y a.length Z) ∧ (some k_ ≠ ob (.slice (some z) b.length X) ∧ some k_ ≠ ob (.slice a0 c.length a2)))) ∧ ∃ q_, q_ ∈ (60 :: (k60).E) ∧ ∃ cs_, j5.heap[k_]? = some (.cells cs_ q_ (0, 0))) (.slice a6 d.length a7) d (fun k_ => some k_ = ob (.slice a0 c.length a2)) (.slice a0 c.length a2) c (rd b u) c8 c9 d0 d1 w _ ?side1 ?side2 ?side3 ?side4 ?side5 ?side6 ?side7 ?side8 ?side9 ?side10 ?side11 ?side12 ?side13 ?side14 ?side15 ?side16 ?side17 j4.o).mono ?_
   (case side1 => exact (zg_5 HB.o Zi.o Zj.o))
   (case side2 => exact jH rfl Zc.o)
   (case side3 => exact fun k_ e_ => (Zc.o.1 k_ e_.symm).1)
   (case side4 => exact fun k_ e_ hP_ => (hP_.1.1) e_)
   (case side5 => exact fun k_ e_ => (Zc.o.1 k_ e_.symm).2)
   (case side6 => exact jH rfl Zb.o)
   (case side7 => exact fun k_ e_ => (Zb.o.1 k_ e_.symm).1)
   (case side8 => exact fun k_ e_ hP_ => (hP_.1.2.1) e_)
   (case side9 => exact fun k_ e_ => (Zb.o.1 k_ e_.symm).2)
   (case side10 => exact gQ (kD (Zg.o)) (fun k_ h_ => ⟨h_.1, h_.2.2.2⟩))
   (case side11 => exact fun k_ hP_ e_ => (hP_.1.1) e_)
   (case side12 => exact fun k_ hP_ e_ => (hP_.1.2.1) e_)
   (case side13 => exact fun k_ hP_ e_ => (hP_.1.2.2) e_)
   (case side14 => exact jH rfl Zd.o)
   (case side15 => exact fun k_ e_ => (Zd.o.1 k_ e_.symm).1)
   (case side16 => exact fun k_ e_ => (Zd.o.1 k_ e_.symm).2)
   (case side17 => exact fun k_ e_ hP_ => (hP_.1.2.2) e_)
   rintro e e5 ⟨d4, d5, l7, d6, rfl, A, b1, b2, b3, hb, hkp⟩
   refine ⟨_, rfl, ?_⟩
   have b4 := zm (mU (zg_3 Za.o) hkp (fun hs_ => gM hs_ (fun e_ => (fun e_ => (gJ Zc.o Za.o (by decide)) e_) e_) (fun e_ => gM e_ (fun e_ => (fun e_ => (gJ Zb.o Za.o (by decide)) e_) e_) (fun e_ => gM e_ (fun e_ => (fun hP_ => (by obtain ⟨_, q_, hq_, cs_, hc_⟩ := hP_; have hb_ := Za.o; rw [hb_] at hc_; injection hc_ with hc_; injection hc_ with _ h2_; rw [← h2_] at hq_; exact absurd hq_ (by decide))) e_) (fun e_ => (fun e_ => (gJ Zd.o Za.o (by decide)) e_) e_))))); have b5 := zm (mU (zg_3 Zf.o) hkp (fun hs_ => gM hs_ (fun e_ => (fun e_ => (gJ Zc.o Zf.o (by decide)) e_) e_) (fun e_ => gM e_ (fun e_ => (fun e_ => (gJ Zb.o Zf.o (by decide)) e_) e_) (fun e_ => gM e_ (fun e_ => (fun hP_ => (by obtain ⟨_, q_, hq_, cs_, hc_⟩ := hP_; have hb_ := Zf.o; rw [hb_] at hc_; injection hc_ with hc_; injection hc_ with _ h2_; rw [← h2_] at hq_; exact absurd hq_ (by decide))) e_) (fun e_ => (fun e_ => (gJ Zd.o Zf.o (by decide)) e_) e_))))); have b6 := zm (eX (ok' := fun k_ => some k_ ≠ ob d5 ∧ some k_ ≠ ob d6) A (fun k_ hk_ => ⟨hk_.2.1, hk_.2.2⟩)); have b7 := zm (eX (ok' := fun k_ => some k_ ≠ ob d4 ∧ some k_ ≠ ob d6) b1 (fun k_ hk_ => ⟨hk_.2.1, hk_.2.2⟩)); have b8 := zm (gQ (ok' := fun k_ => some k_ ≠ ob d4 ∧ some k_ ≠ ob d5 ∧ some k_ ≠ ob d6) b2 (fun k_ hk_ => ⟨hk_.2.1, hk_.2.2.1, hk_.2.2.2⟩)); have b9 := zm (eX (ok' := fun k_ => some k_ ≠ ob d4 ∧ some k_ ≠ ob d5) b3 (fun k_ hk_ => ⟨hk_.2.1, hk_.2.2⟩)); have c0 := zm (hb); clear Za; clear Zf; clear HB; clear Zc; clear Zb; clear Zg; clear Zd; have Za := b4; have Zf := b5; have Zo := b6; have Zp := b7; have Zq := b8; have Zr := b9; have HB := c0; clear b4 b5 b6 b7 b8 b9 c0
   (try clear hb)
   (try clear hkp)
   (try clear A)
   (try clear b1)
   (try clear b2)
   (try clear b3)
   obtain ⟨h5, h6, f3⟩ := fA Zo.o
   (first | subst f3 | (injection f3 with f1_ f2_ f3_; have f4_ := f1_.symm; have f5_ := f3_.symm; clear f1_ f2_ f3_; subst f4_; subst f5_))
   obtain ⟨h7, h8, f4⟩ := fA Zp.o
   (first | subst f4 | (injection f4 with f1_ f2_ f3_; have f4_ := f1_.symm; have f5_ := f3_.symm; clear f1_ f2_ f3_; subst f4_; subst f5_))
   obtain ⟨h9, i0, f5⟩ := iF Zq.o
   (first | subst f5 | (injection f5 with f1_ f2_ f3_; have f4_ := f1_.symm; have f5_ := f3_.symm; clear f1_ f2_ f3_; subst f4_; subst f5_))
   obtain ⟨i1, i2, f6⟩ := fA Zr.o
   (first | subst f6 | (injection f6 with f1_ f2_ f3_; have f4_ := f1_.symm; have f5_ := f3_.symm; clear f1_ f2_ f3_; subst f4_; subst f5_))
   refine hK.out _ _ ?_
   clear hK K
   refine norm_ (a' := ?_) ?_ ?_
   rotate_left
   ·show gE _ (some 22) _ = _
    simp only [gE, zs, zz, zt, iQ, i32_w]
    rfl
   refine last_ (i := 7) (N := none) #[tt, tt, tt, tt, tt, tt, tt, tt] rfl rfl (iS HT_.o zk) (by decide) (fun K hK => ?_)
   have l8 : e5.cell? ⟨l, 0, none⟩ = some (.slice Y a.length Z) := (eY Za.o 0).trans rfl
   have k2 := gL Za.o 0; have i3 := Ze.o; have i4 := Zh.o
   have l9 : e5.cell? ⟨l, 1, none⟩ = some (.slice (some z) b.length X) := (eY Za.o 1).trans rfl
   have k3 := gL Za.o 1; have i5 := Ze.o; have i6 := Zh.o
   have m0 : e5.cell? ⟨l, 2, none⟩ = some (.slice a6 d.length a7) := (eY Za.o 2).trans rfl
   have k4 := gL Za.o 2; have i7 := Ze.o; have i8 := Zh.o
   have m1 : e5.cell? ⟨l, 3, none⟩ = some (.slice a0 c.length a2) := (eY Za.o 3).trans rfl
   have k5 := gL Za.o 3; have i9 := Ze.o; have j0 := Zh.o
   refine skip_ (w1 := ?_) (by rfl) rfl ?_ ?_
   rotate_left
   ·go_simp
    rfl
   refine hK.out _ _ ?_
   clear hK K
   refine done_ (done_of HT_.o zk) ?_
   try go_wp2
   go_roundg k1
   case measure => have := g0.o; omega
   case rel => exact ⟨(wrap64 (u + 1)), (c8), (c9), (d0), (d1), (.slice h5 c8.length h6), (.slice h7 c9.length h8), (.slice h9 d0.length i0), (.slice i1 d1.length i2), zr, H', ⟨by have := g0.o; omega⟩, ⟨eX (zR4 (fD Zo.o Za.o (by decide))) (fun _ hk => ⟨hk.1.1, hk.1.2⟩)⟩, ⟨eX (zR4 (fD Zp.o Za.o (by decide))) (fun _ hk => ⟨hk.1.1, hk.1.2⟩)⟩, ⟨gQ (zS4 (hX Zq.o Za.o (by decide))) (fun _ hk => ⟨hk.1.1, ⟨hk.1.2.1, hk.1.2.2⟩⟩)⟩, ⟨eX (zR4 (fD Zr.o Za.o (by decide))) (fun _ hk => ⟨hk.1.1, hk.1.2⟩)⟩, ⟨by exact zput4 Za.o⟩, ⟨by exact zfar4 Zf.o Ze.o⟩, ⟨zg_5 HB.o Zi.o Zj.o⟩⟩
end Go.Proofs.YtniceoohmhjjlaaGreatDoor.Q
