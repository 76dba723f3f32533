/- What laws.FnShots reaches, part 8: the functions as Lean functions, the proofs that the program's functions answer so, and plain laws about them. -/
import Derived.Test.YtniceoohmhjjlaaGreatDoorKFnShots1
import Derived.Test.YtniceoohmhjjlaaGreatDoorKFnShots2
import Derived.Test.YtniceoohmhjjlaaGreatDoorKFnShots4
import Derived.Test.YtniceoohmhjjlaaGreatDoorKFnShots5
import Derived.Test.YtniceoohmhjjlaaGreatDoorKFnShots6
import Derived.Test.YtniceoohmhjjlaaGreatDoorKFnShots7
namespace Go.Proofs.YtniceoohmhjjlaaGreatDoor.Q
open Go.RowKit Go.Proofs.YtniceoohmhjjlaaGreatDoor.Ext Go.Proofs.YtniceoohmhjjlaaGreatDoorW.PrintWords Go.Proofs.YtniceoohmhjjlaaGreatDoorW.PrintLast Go.Proofs.YtniceoohmhjjlaaGreatDoorW.PrintMore
attribute [local go_sem] max2_int min2_int max_two min_two max_three min_three max_four min_four   -- for this text's walks alone
open Bool renaming true → tt, false → ff
open Go.Value renaming ownBlock → ob
open Go renaming results_cell_row → jE
open Go.Act renaming put → gE
open Go.Proofs.Tryz renaming func29 → jI, underlying31 → fW
open Go.Proofs.YtniceoohmhjjlaaGreatDoorW.PrintLast renaming any_of → gD, done_of → mE, goesL_ → gU, goes_ → mR, i32_w → jF, i64_w → iQ, norm_ → jV, one_of → iS, pure_ → gR, start_ → mP, take_ofW → hZ, with_tabW → kJ
open Go.Proofs.YtniceoohmhjjlaaGreatDoorW.PrintMore.Kd renaming R_old → kH, R_told → gK
open Go.Proofs.YtniceoohmhjjlaaGreatDoorW.PrintWords renaming below_drew1 → gA, below_size → eV, below_step → eZ, blk_below → fB, blk_cell → eY, blk_drew → fU, blk_frozen → gL, box_event → fS, gate_callee → fJ, keep_drew → nR, keep_size → gI
open Go.Proofs.YtniceoohmhjjlaaGreatDoorW.PrintWords.Kd renaming N_base → lA, N_drew → jR, N_keep → lD, N_lower → jK, N_lt → nV, N_mono → fN, N_old → nM, N_reads' → gZ, N_slice → iR, N_told → iC, R_base → fH, R_below → fI, R_drew → fK, R_keep → hG, R_lower → fL, R_lt → fO, R_mono → eX, R_new' → fT, R_newM → iM, R_reads' → fC, R_slice → fA, R_types → fD, S_N → mG, S_bound → kD, fresh' → gF, freshB → iB, int → fG
open Go.Proofs.YtniceoohmhjjlaaGreatDoorW.PrintWords.KeepBut renaming blk → hQ, of_below → jO, trans → gS
open _root_.Nat renaming le_refl → fQ, le_trans → hU, ne_of_gt → gT, ne_of_lt → gN
open _root_.Option renaming bind_eq_some_iff → eW
open _root_.Option.some renaming injEq → gC
open _root_.Prod.mk renaming injEq → gP
set_option linter.unusedVariables false
set_option linter.unusedSimpArgs false

set_option linter.unusedVariables false
set_option linter.unusedSimpArgs false
mutual
def aA.j0 : Nat → List Int → Int → Int → List Int → List Int → List (S60) → List Int → Option (List Int × List Int × (List (S60)) × List Int × Int × Int)
  | 0, _, _, _, _, _, _, _ => none
  | k + 1, x1000, x1001, x1002, x581000, x581001, x581002, x581003 => (cZ.f x1000 x1001 x1002 20).bind fun bt599 => ((aD.f x1000 bt599.2.1 bt599.2.2 (wrap64 (bt599.1 + 12))).bind fun bt602 => (aA.l0 k bt602.1 x1000 bt602.2.1 bt602.2.2 x581000 x581001 x581002 x581003))
def aA.l0 : Nat → Int → List Int → Int → Int → List Int → List Int → List (S60) → List Int → Option (List Int × List Int × (List (S60)) × List Int × Int × Int)
  | 0, _, _, _, _, _, _, _, _ => none
  | k + 1, x4, x1000, x1001, x1002, x581000, x581001, x581002, x581003 => if x4 > 0 then (if (x581001.length : Int) > 0 then ((aD.f x1000 x1001 x1002 (x581001.length : Int)).bind fun bt617 => (aA.j2 k x4 bt617.1 x1000 bt617.2.1 bt617.2.2 x581000 x581001 x581002 x581003)) else (aA.j2 k x4 0 x1000 x1001 x1002 x581000 x581001 x581002 x581003)) else ((aE.f k x581000 x581001 x581002 x581003).bind fun bt605 => (some (bt605.1, bt605.2.1, bt605.2.2.1, bt605.2.2.2, x1001, x1002)))
def aA.j2 : Nat → Int → Int → List Int → Int → Int → List Int → List Int → List (S60) → List Int → Option (List Int × List Int × (List (S60)) × List Int × Int × Int)
  | 0, _, _, _, _, _, _, _, _, _ => none
  | k + 1, x4, x5, x1000, x1001, x1002, x581000, x581001, x581002, x581003 => (aD.f x1000 x1001 x1002 9).bind fun bt620 => (if bt620.1 = 0 then ((bO.f x1000 bt620.2.1 bt620.2.2).bind fun bt623 => ((bR.f k x581000 x581001 x581002 x581003 bt623.1).bind fun bt626 => (aA.l0 k (wrap64 (x4 - 1)) x1000 bt623.2.1 bt623.2.2 bt626.1 bt626.2.1 bt626.2.2.1 bt626.2.2.2.1))) else (if bt620.1 = 1 then ((bO.f x1000 bt620.2.1 bt620.2.2).bind fun bt639 => ((aK.f k x581000 x581001 x581002 x581003 bt639.1).bind fun bt642 => (aA.l0 k (wrap64 (x4 - 1)) x1000 bt639.2.1 bt639.2.2 bt642.1 bt642.2.1 bt642.2.2.1 bt642.2.2.2.1))) else (if bt620.1 = 2 then ((bO.f x1000 bt620.2.1 bt620.2.2).bind fun bt655 => ((aM.f k x581000 x581001 x581002 x581003 bt655.1).bind fun bt658 => (aA.l0 k (wrap64 (x4 - 1)) x1000 bt655.2.1 bt655.2.2 bt658.1 bt658.2.1 bt658.2.2.1 bt658.2.2.2.1))) else (if bt620.1 = 3 then ((aD.f x1000 bt620.2.1 bt620.2.2 13).bind fun bt671 => ((aU.f k x581000 x581001 x581002 x581003 bt671.1).bind fun bt674 => (aA.l0 k (wrap64 (x4 - 1)) x1000 bt671.2.1 bt671.2.2 bt674.1 bt674.2.1 bt674.2.2.1 bt674.2.2.2))) else (if bt620.1 = 4 then (if (x581001.length : Int) > 0 then ((cD.f k x581000 x581001 x581002 x581003 x5).bind fun bt686 => (aA.l0 k (wrap64 (x4 - 1)) x1000 bt620.2.1 bt620.2.2 bt686.1 bt686.2.1 bt686.2.2.1 bt686.2.2.2)) else (aA.l0 k (wrap64 (x4 - 1)) x1000 bt620.2.1 bt620.2.2 x581000 x581001 x581002 x581003)) else (if (x581001.length : Int) > 0 then ((cK.f x1000 bt620.2.1 bt620.2.2).bind fun bt698 => ((bQ.f k x581000 x581001 x581002 x581003 x5 bt698.1).bind fun bt701 => (aA.l0 k (wrap64 (x4 - 1)) x1000 bt698.2.1 bt698.2.2 bt701.1 bt701.2.1 bt701.2.2.1 bt701.2.2.2.1))) else (aA.l0 k (wrap64 (x4 - 1)) x1000 bt620.2.1 bt620.2.2 x581000 x581001 x581002 x581003)))))))
end
def aA.f (k : Nat) (s0_0 : List Int) (s0_1 : Int) (s0_2 : Int) : Option (List Int × List Int × (List (S60)) × List Int × Int × Int) := (aD.f s0_0 s0_1 s0_2 13).bind fun bt565 => ((bY.f bt565.1).bind fun bt568 => ((cO.f s0_0 bt565.2.1 bt565.2.2 2).bind fun bt581 => (if bt581.1 = true then ((aD.f s0_0 bt581.2.1 bt581.2.2 7).bind fun bt584 => ((bY.f (wrap64 (6 + bt584.1))).bind fun bt587 => (aA.j0 k s0_0 bt584.2.1 bt584.2.2 bt587.1 bt587.2.1 bt587.2.2.1 bt587.2.2.2))) else (aA.j0 k s0_0 bt581.2.1 bt581.2.2 bt568.1 bt568.2.1 bt568.2.2.1 bt568.2.2.2))))
def aA.T12 : Bool × List (List Nat × List Nat) := (true, [([], []), ([], []), ([], []), ([2], [2]), ([0, 1, 3, 3], [0, 1, 3]), ([4], [4]), ([5], [5]), ([5], [5]), ([6, 4, 0, 1, 2, 3, 4, 5, 6], [6])])
def aA.B12 : List Nat := [0, 0, 0, 4, 15, 31, 63, 63, 127]
theorem aA.tab12 : rtab .any (opsOf Tryz.f15 12) = aA.T12 := by kernel_rfl
theorem aA.bits12 : waitsOk aA.T12.2 aA.B12 = true := by kernel_rfl
def aA.T14 : Bool × List (List Nat × List Nat) := (true, [([], []), ([], []), ([1], [1]), ([0, 2, 2], [0, 2]), ([3], [3]), ([4], [4]), ([4], [4]), ([5, 3, 0, 1, 2, 3, 4, 5], [5])])
def aA.B14 : List Nat := [0, 0, 2, 7, 15, 31, 31, 63]
theorem aA.tab14 : rtab .any (opsOf Tryz.f15 14) = aA.T14 := by kernel_rfl
theorem aA.bits14 : waitsOk aA.T14.2 aA.B14 = true := by kernel_rfl
def aA.T16 : Bool × List (List Nat × List Nat) := (true, [([], []), ([], []), ([1], [1]), ([0, 2, 2], [0, 2]), ([3], [3]), ([4], [4]), ([4], [4]), ([5, 3, 0, 1, 2, 3, 4, 5], [5])])
def aA.B16 : List Nat := [0, 0, 2, 7, 15, 31, 31, 63]
theorem aA.tab16 : rtab .any (opsOf Tryz.f15 16) = aA.T16 := by kernel_rfl
theorem aA.bits16 : waitsOk aA.T16.2 aA.B16 = true := by kernel_rfl
def aA.T18 : Bool × List (List Nat × List Nat) := (true, [([], []), ([], []), ([1], [1]), ([0, 2, 2], [0, 2]), ([3], [3]), ([4], [4]), ([4], [4]), ([5, 3, 0, 1, 2, 3, 4, 5], [5])])
def aA.B18 : List Nat := [0, 0, 2, 7, 15, 31, 31, 63]
theorem aA.tab18 : rtab .any (opsOf Tryz.f15 18) = aA.T18 := by kernel_rfl
theorem aA.bits18 : waitsOk aA.T18.2 aA.B18 = true := by kernel_rfl
set_option maxHeartbeats 8000000 in
set_option maxRecDepth 100000 in
theorem aA.calls (k : Nat) (g : Nat) (q : List Int) (g9 : Int) (h0 : Int) (r1 : List Int) (r2 : List Int) (r3 : List (S60)) (r4 : List Int) (r5 : Int) (r6 : Int) (y w : World) (hI : IsS62 y w g q g9 h0) (hB : Below y.heap.size y w) (h : aA.f k q g9 h0 = some (r1, r2, r3, r4, r5, r6)) :
    Calls Tryz.prog 15 #[.pointer (some ⟨g, 0, none⟩)] w fun e w' => ∃ k3 k4 F3 k5 : Value, e = .returned (.agg #[k3, k4, F3, k5]) ∧ Kd.R (fG .i64) 3 w' w.heap.size (fun k_ => (w.heap.size ≤ k_) ∧ some k_ ≠ ob k4 ∧ some k_ ≠ ob k5) k3 r1 ∧ Kd.R (fG .i64) 3 w' w.heap.size (fun k_ => (w.heap.size ≤ k_) ∧ some k_ ≠ ob k3 ∧ some k_ ≠ ob k5) k4 r2 ∧ Kd.N k60 60 w' w.heap.size (fun k_ => (w.heap.size ≤ k_) ∧ some k_ ≠ ob k3 ∧ some k_ ≠ ob k4 ∧ some k_ ≠ ob k5) F3 r3 ∧ Kd.R (fG .i64) 3 w' w.heap.size (fun k_ => (w.heap.size ≤ k_) ∧ some k_ ≠ ob k3 ∧ some k_ ≠ ob k4) k5 r4 ∧ IsS62 y w' g q r5 r6 ∧ Below y.heap.size y w' ∧ KeepBut w w' g none := by
 have hu31 := fW; have b := zm hI; have HK := zm (KeepBut.refl w g none); have HL := zm hB.size; clear hI; have F4 := zm hB.size; have HB := zm hB; clear hB; have H := h
 unfold aA.f at H
 clear h; replace H := eW.mp H
 obtain ⟨⟨l3, d0, d1⟩, p3, H⟩ := H
 try dsimp only at H
 have A2 := zm p3; clear p3; replace H := eW.mp H
 obtain ⟨⟨Y, Z, b4, a0⟩, F5, H⟩ := H
 try dsimp only at H
 have A3 := zm F5; clear F5; replace H := eW.mp H
 obtain ⟨⟨t0, d2, d3⟩, F6, H⟩ := H
 try dsimp only at H
 have A4 := zm F6; clear F6; have t1 := zm H; clear H
 go_enter Tryz.func15, Tryz.ntmps15
 go_upto_if 10 with (first | ((with_reducible refine gate_dst (N := 2) rfl ?_); refine fS zo (N := 2) zo (cs := #[.slice none 0 0, .slice none 0 0, .slice none 0 0, .slice none 0 0]) (t := 31) zh ?_; intro m hg w6 hbox hb; refine zG8 (IsS62.below (zg_10 b.o) hb) (gS (zg_12 HK.o) (jO hb g none) (.inl rfl)) (eZ (zg_11 HB.o b.o) hb) (hbox) ((by rw [hg]; exact (gI (w := w) (g := g) (row := none) (zg_12 HK.o)) : w.heap.size ≤ m)) ((hU F4.o (by rw [hg]; exact (gI (w := w) (g := g) (row := none) (zg_12 HK.o)) : w.heap.size ≤ m) : y.heap.size ≤ m)) ((by rw [hg]; exact gN (IsS62.lt (show IsS62 y _ g q g9 h0 from zg_10 b.o)) : g ≠ m)) ((by rw [hg]; exact gT (IsS62.lt (show IsS62 y _ g q g9 h0 from zg_10 b.o)) : m ≠ g)) ?_; clear b HK HB; intro b HK HB Zh Zj Zn Zg Zp; clear hb hbox hg) | ((with_reducible refine fJ (f := 29) rfl ?_); refine gU (some 7) rfl rfl jI (by kernel_rfl) rfl #[.pointer (some ⟨g, 0, none⟩), .int .i64 13] rfl zq ?_; (with_reducible refine (aD.calls g q g9 h0 13 l3 d0 d1 y _ ?_ ?_ A2.o).mono ?_); exact (zg_17 b.o Zg.o); exact (zg_18 HB.o b.o Zn.o); rintro e w7 ⟨rfl, hi, hb, hk⟩; refine ⟨_, rfl, ?_⟩; refine zG4 (hQ hk (g' := m) (o := .cells #[.slice none 0 0, .slice none 0 0, .slice none 0 0, .slice none 0 0] 31 (0, 0)) (zg_3 Zh.o) Zp.o (by simp)) (gS (zg_19 HK.o Zj.o) hk (.inl rfl)) (hb) (hi) ?_; clear Zh HK HB b; intro Zh HK HB b; (try clear hb); (try clear hb2); (try clear hk); (try clear hi)) | ((with_reducible refine fJ (f := 28) rfl ?_); refine gU (some 8) rfl rfl Tryz.func28 (by kernel_rfl) rfl #[.int .i64 l3] rfl zq ?_; (with_reducible refine (bY.calls l3 Y Z b4 a0 _ A3.o).mono ?_); rintro e w8 ⟨G6, G7, AA, G8, rfl, z, A, X, B, hb⟩; refine ⟨_, rfl, ?_⟩; refine zG8 (fL (iM (M := fun k_ => (w.heap.size ≤ k_)) z (gI (w := w) (g := g) (row := none) (zg_19 HK.o Zj.o)) (fun k_ h_ => h_)) (gI (w := w) (g := g) (row := none) (zg_19 HK.o Zj.o))) (fL (iM (M := fun k_ => (w.heap.size ≤ k_)) A (gI (w := w) (g := g) (row := none) (zg_19 HK.o Zj.o)) (fun k_ h_ => h_)) (gI (w := w) (g := g) (row := none) (zg_19 HK.o Zj.o))) (jK (fN (ok' := fun k_ => (w.heap.size ≤ k_) ∧ some k_ ≠ ob G6 ∧ some k_ ≠ ob G7 ∧ some k_ ≠ ob G8 ∧ k_ ≠ m ∧ k_ ≠ g) (mG (kD X)) (fun k_ hk_ => ⟨(hU (gI (w := w) (g := g) (row := none) (zg_19 HK.o Zj.o)) hk_.2.1), hk_.1.1, hk_.1.2.1, hk_.1.2.2, (iB (g := m) (o := .cells #[.slice none 0 0, .slice none 0 0, .slice none 0 0, .slice none 0 0] 31 (0, 0)) (zg_3 Zh.o) k_ hk_.2.1), (IsS62.fresh (zg_17 b.o Zg.o) k_ hk_.2.1)⟩)) (gI (w := w) (g := g) (row := none) (zg_19 HK.o Zj.o))) (fL (iM (M := fun k_ => (w.heap.size ≤ k_)) B (gI (w := w) (g := g) (row := none) (zg_19 HK.o Zj.o)) (fun k_ h_ => h_)) (gI (w := w) (g := g) (row := none) (zg_19 HK.o Zj.o))) (IsS62.below (zg_17 b.o Zg.o) hb) (fB (g := m) (o := .cells #[.slice none 0 0, .slice none 0 0, .slice none 0 0, .slice none 0 0] 31 (0, 0)) (zg_3 Zh.o) hb) (gS (zg_19 HK.o Zj.o) (jO hb g none) (.inl rfl)) (eZ (zg_18 HB.o b.o Zn.o) hb) ?_; clear b Zh HK HB; intro Zq Zr Zt Zs b Zh HK HB; (try clear hb); (try clear hb2); (try clear hk); (try clear hi); (try clear z); (try clear A); (try clear X); (try clear B)) | ((with_reducible refine gate_dst (N := 3) rfl ?_); refine fS zo (N := 3) zo (cs := #[.slice none 0 0, .slice none 0 0, .slice none 0 0, .slice none 0 0]) (t := 31) zh ?_; intro c hg w9 hbox hb; refine zG15 (fI (zg_6 Zq.o) hb) (fI (zg_6 Zr.o) hb) (Kd.N_below (Kd.N_elderB (zg_4 Zt.o) c (Nat.le_of_eq hg.symm)) hb) (fI (zg_6 Zs.o) hb) (IsS62.below (zg_17 b.o Zg.o) hb) (fB (g := m) (o := .cells #[.slice none 0 0, .slice none 0 0, .slice none 0 0, .slice none 0 0] 31 (0, 0)) (zg_3 Zh.o) hb) (gS (zg_19 HK.o Zj.o) (jO hb g none) (.inl rfl)) (eZ (zg_18 HB.o b.o Zn.o) hb) (hbox) ((by rw [hg]; exact (gI (w := w) (g := g) (row := none) (zg_19 HK.o Zj.o)) : w.heap.size ≤ c)) ((hU F4.o (by rw [hg]; exact (gI (w := w) (g := g) (row := none) (zg_19 HK.o Zj.o)) : w.heap.size ≤ c) : y.heap.size ≤ c)) ((by rw [hg]; exact gN (blk_lt (g := m) (o := .cells #[.slice none 0 0, .slice none 0 0, .slice none 0 0, .slice none 0 0] 31 (0, 0)) (zg_3 Zh.o)) : m ≠ c)) ((by rw [hg]; exact gT (blk_lt (g := m) (o := .cells #[.slice none 0 0, .slice none 0 0, .slice none 0 0, .slice none 0 0] 31 (0, 0)) (zg_3 Zh.o)) : c ≠ m)) ((by rw [hg]; exact gN (IsS62.lt (show IsS62 y _ g q d0 d1 from zg_17 b.o Zg.o)) : g ≠ c)) ((by rw [hg]; exact gT (IsS62.lt (show IsS62 y _ g q d0 d1 from zg_17 b.o Zg.o)) : c ≠ g)) ?_; clear Zq Zr Zt Zs b Zh HK HB; intro Zq Zr Zt Zs b Zh HK HB Zc Zk Zo Zi Zl Zf Zm; clear hb hbox hg; obtain ⟨a3, a4, rfl⟩ := fA Zq.o; have W1 := Zl.o; have W2 := Zi.o; have W3 := Zm.o; have W4 := Zf.o; obtain ⟨_, _, _, _, _, _, _, _⟩ := zb4 Zc.o; obtain ⟨a5, a6, rfl⟩ := fA Zr.o; obtain ⟨c7, c8, rfl⟩ := iR Zt.o; obtain ⟨a7, a8, rfl⟩ := fA Zs.o) | ((with_reducible refine gate_store (t := 31) (p := 3) rfl ?_); refine zst (w1 := ((((w9.setCell ⟨c, 0, none⟩ (.slice a3 Y.length a4)).setCell ⟨c, 1, none⟩ (.slice a5 Z.length a6)).setCell ⟨c, 2, none⟩ (.slice c7 b4.length c8)).setCell ⟨c, 3, none⟩ (.slice a7 a0.length a8))) rfl rfl rfl zh ?_; intro d7 hw; refine zG9 (by rw [hw]; exact (eX (zR4 (fD Zq.o Zc.o (by decide))) (fun _ hk => ⟨hk.1.1, ⟨hk.1.2.1, hk.1.2.2⟩⟩)) : Kd.R (fG .i64) 3 d7 w.heap.size (fun k_ => (w.heap.size ≤ k_) ∧ some k_ ≠ ob (.slice a5 Z.length a6) ∧ some k_ ≠ ob (.slice a7 a0.length a8)) (.slice a3 Y.length a4) Y) (by rw [hw]; exact (eX (zR4 (fD Zr.o Zc.o (by decide))) (fun _ hk => ⟨hk.1.1, ⟨hk.1.2.1, hk.1.2.2⟩⟩)) : Kd.R (fG .i64) 3 d7 w.heap.size (fun k_ => (w.heap.size ≤ k_) ∧ some k_ ≠ ob (.slice a3 Y.length a4) ∧ some k_ ≠ ob (.slice a7 a0.length a8)) (.slice a5 Z.length a6) Z) (by rw [hw]; exact (fN (zN4 (fN Zt.o (fun k_ hk => (⟨hk, hk.2⟩ : _ ∧ k_ ≠ c)))) (fun _ hk => ⟨hk.1.1.1, ⟨hk.1.1.2.1, ⟨hk.1.1.2.2.1, ⟨hk.1.1.2.2.2.1, ⟨hk.1.1.2.2.2.2.1, ⟨hk.1.1.2.2.2.2.2, hk.1.2⟩⟩⟩⟩⟩⟩)) : Kd.N k60 60 d7 w.heap.size (fun k_ => (w.heap.size ≤ k_) ∧ some k_ ≠ ob (.slice a3 Y.length a4) ∧ some k_ ≠ ob (.slice a5 Z.length a6) ∧ some k_ ≠ ob (.slice a7 a0.length a8) ∧ k_ ≠ m ∧ k_ ≠ g ∧ k_ ≠ c) (.slice c7 b4.length c8) b4) (by rw [hw]; exact (eX (zR4 (fD Zs.o Zc.o (by decide))) (fun _ hk => ⟨hk.1.1, ⟨hk.1.2.1, hk.1.2.2⟩⟩)) : Kd.R (fG .i64) 3 d7 w.heap.size (fun k_ => (w.heap.size ≤ k_) ∧ some k_ ≠ ob (.slice a3 Y.length a4) ∧ some k_ ≠ ob (.slice a5 Z.length a6)) (.slice a7 a0.length a8) a0) (by rw [hw]; exact (by exact zfar4 Zh.o Zi.o) : d7.heap[m]? = some (.cells #[.slice none 0 0, .slice none 0 0, .slice none 0 0, .slice none 0 0] 31 (0, 0))) (by rw [hw]; exact (by exact zput4 Zc.o) : d7.heap[c]? = some (.cells #[.slice a3 Y.length a4, .slice a5 Z.length a6, .slice c7 b4.length c8, .slice a7 a0.length a8] 31 (0, 0))) (by rw [hw]; exact (zg_20 b.o Zg.o Zf.o) : IsS62 y d7 g q d0 d1) (by rw [hw]; exact (zg_21 HK.o Zj.o Zk.o) : KeepBut w d7 g none) (by rw [hw]; exact (zg_22 HB.o b.o Zn.o Zo.o) : Below y.heap.size y d7) ?_; clear hw Zq Zr Zt Zs Zh Zc b HK HB; intro Zq Zr Zt Zs Zh Zc b HK HB) | ((with_reducible refine fJ (f := 30) rfl ?_); refine gU (some 10) rfl rfl Tryz.func30 (by kernel_rfl) rfl #[.pointer (some ⟨g, 0, none⟩), .int .i64 2] rfl zq ?_; (with_reducible refine (cO.calls g q d0 d1 2 t0 d2 d3 y _ ?_ ?_ A4.o).mono ?_); exact (zg_20 b.o Zg.o Zf.o); exact (zg_22 HB.o b.o Zn.o Zo.o); rintro e BG ⟨rfl, hi, hb, hk⟩; refine ⟨_, rfl, ?_⟩; refine zG9 (hQ hk (g' := m) (o := .cells #[.slice none 0 0, .slice none 0 0, .slice none 0 0, .slice none 0 0] 31 (0, 0)) (zg_3 Zh.o) Zp.o (by simp)) (eX (hG (IsS62.apart (show IsS62 y _ g q d0 d1 from zg_20 b.o Zg.o Zf.o) (zg_6 Zq.o) (by decide)) hk (fun _ h => h.2)) (fun _ h => h.1)) (eX (hG (IsS62.apart (show IsS62 y _ g q d0 d1 from zg_20 b.o Zg.o Zf.o) (zg_6 Zr.o) (by decide)) hk (fun _ h => h.2)) (fun _ h => h.1)) (fN (lD (fN (ok := fun k_ => (((w.heap.size ≤ k_)) ∧ (some k_ ≠ ob (.slice a3 Y.length a4) ∧ (some k_ ≠ ob (.slice a5 Z.length a6) ∧ (some k_ ≠ ob (.slice a7 a0.length a8) ∧ (k_ ≠ m ∧ (k_ ≠ g ∧ k_ ≠ c))))))) (zg_4 Zt.o) (fun k_ hk_ => (⟨hk_, hk_.2.2.2.2.2.1⟩ : _ ∧ k_ ≠ g))) hk (fun _ h => h.2)) (fun _ h => h.1)) (eX (hG (IsS62.apart (show IsS62 y _ g q d0 d1 from zg_20 b.o Zg.o Zf.o) (zg_6 Zs.o) (by decide)) hk (fun _ h => h.2)) (fun _ h => h.1)) (hQ hk (g' := c) (o := .cells #[.slice a3 Y.length a4, .slice a5 Z.length a6, .slice c7 b4.length c8, .slice a7 a0.length a8] 31 (0, 0)) (zg_3 Zc.o) Zm.o (by simp)) (gS (zg_21 HK.o Zj.o Zk.o) hk (.inl rfl)) (hb) (hi) ?_; clear Zh Zq Zr Zt Zs Zc HK HB b; intro Zh Zq Zr Zt Zs Zc HK HB b; (try clear hb); (try clear hb2); (try clear hk); (try clear hi)))
 (try simp only [gE, zs, zz, zt])
 go_cut [] (fun wc => ∃ (kq : Nat) (b5 : Int) (b6 : Int) (b8 : List Int) (b9 : List Int) (c0 : List (S60)) (c5 : List Int) (u581000 : Value) (u581001 : Value) (u581002 : Value) (u581003 : Value), Aside0 (aA.j0 kq q b5 b6 b8 b9 c0 c5 = some (r1, r2, r3, r4, r5, r6)) ∧ Aside0 (kq ≤ k) ∧ Aside0 (Kd.R (fG .i64) 3 wc w.heap.size (fun k_ => (w.heap.size ≤ k_) ∧ some k_ ≠ ob u581001 ∧ some k_ ≠ ob u581003) u581000 b8) ∧ Aside0 (Kd.R (fG .i64) 3 wc w.heap.size (fun k_ => (w.heap.size ≤ k_) ∧ some k_ ≠ ob u581000 ∧ some k_ ≠ ob u581003) u581001 b9) ∧ Aside0 (Kd.N k60 60 wc w.heap.size (fun k_ => (w.heap.size ≤ k_) ∧ some k_ ≠ ob u581000 ∧ some k_ ≠ ob u581001 ∧ some k_ ≠ ob u581003 ∧ k_ ≠ m ∧ k_ ≠ c ∧ k_ ≠ g) u581002 c0) ∧ Aside0 (Kd.R (fG .i64) 3 wc w.heap.size (fun k_ => (w.heap.size ≤ k_) ∧ some k_ ≠ ob u581000 ∧ some k_ ≠ ob u581001) u581003 c5) ∧ Aside0 (wc.heap[m]? = some (.cells #[(.slice none 0 0), (.slice none 0 0), (.slice none 0 0), (.slice none 0 0)] 31 (0, 0))) ∧ Aside0 (wc.heap[c]? = some (.cells #[u581000, u581001, u581002, u581003] 31 (0, 0))) ∧ Aside0 (IsS62 y wc g q b5 b6) ∧ Aside0 (KeepBut w wc g none) ∧ Aside0 (Below y.heap.size y wc))
 case first =>
  have H := t1.o; clear t1
  by_cases h1 : t0 = true
  rotate_left
  ·replace h1 := Bool.eq_false_iff.mpr h1
   subst h1
   replace H : (aA.j0 k q d2 d3 Y Z b4 a0) = some (r1, r2, r3, r4, r5, r6) := by rw [if_neg (show ¬ (false = true) by decide)] at H; exact H
   have H' := zm H
   clear H
   go_wp2
   go_meet
   case rel => exact ⟨_, (d2), (d3), (Y), (Z), (b4), (a0), (.slice a3 Y.length a4), (.slice a5 Z.length a6), (.slice c7 b4.length c8), (.slice a7 a0.length a8), H', ⟨by first | omega | exact fQ _⟩, ⟨zlR Zq.o⟩, ⟨zlR Zr.o⟩, ⟨by (with_reducible repeat (first | apply Kd.N_alloc | apply Kd.N_drewN | apply jR)); exact fN Zt.o (fun _ hk => ⟨hk.1, ⟨hk.2.1, ⟨hk.2.2.1, ⟨hk.2.2.2.1, ⟨hk.2.2.2.2.1, ⟨hk.2.2.2.2.2.2, hk.2.2.2.2.2.1⟩⟩⟩⟩⟩⟩)⟩, ⟨zlR Zs.o⟩, ⟨zl Zh.o⟩, ⟨zl Zc.o⟩, ⟨zg_20 b.o Zg.o Zf.o⟩, ⟨zg_21 HK.o Zj.o Zk.o⟩, ⟨zg_22 HB.o b.o Zn.o Zo.o⟩⟩
  subst h1
  replace H : ((aD.f q d2 d3 7).bind fun j9 => ((bY.f (wrap64 (6 + j9.1))).bind fun f3 => (aA.j0 k q j9.2.1 j9.2.2 f3.1 f3.2.1 f3.2.2.1 f3.2.2.2))) = some (r1, r2, r3, r4, r5, r6) := by rw [if_pos rfl] at H; exact H
  replace H := eW.mp H
  obtain ⟨⟨l4, t2, t3⟩, t4, H⟩ := H
  try dsimp only at H
  have p3 := zm t4; clear t4; replace H := eW.mp H
  obtain ⟨⟨l5, l6, l7, l8⟩, t5, H⟩ := H
  try dsimp only at H
  have R3 := zm t5; clear t5
  have H' := zm H
  clear H
  go_wp2_with (first | ((with_reducible refine fJ (f := 29) rfl ?_); refine gU (some 12) rfl rfl jI (by kernel_rfl) rfl #[.pointer (some ⟨g, 0, none⟩), .int .i64 7] rfl zq ?_; (with_reducible refine (aD.calls g q d2 d3 7 l4 t2 t3 y _ ?_ ?_ p3.o).mono ?_); exact (zg_20 b.o Zg.o Zf.o); exact (zg_22 HB.o b.o Zn.o Zo.o); rintro e BH ⟨rfl, hi, hb, hk⟩; refine ⟨_, rfl, ?_⟩; refine zG9 (hQ hk (g' := m) (o := .cells #[.slice none 0 0, .slice none 0 0, .slice none 0 0, .slice none 0 0] 31 (0, 0)) (zg_3 Zh.o) Zp.o (by simp)) (eX (hG (IsS62.apart (show IsS62 y _ g q d2 d3 from zg_20 b.o Zg.o Zf.o) (zg_6 Zq.o) (by decide)) hk (fun _ h => h.2)) (fun _ h => h.1)) (eX (hG (IsS62.apart (show IsS62 y _ g q d2 d3 from zg_20 b.o Zg.o Zf.o) (zg_6 Zr.o) (by decide)) hk (fun _ h => h.2)) (fun _ h => h.1)) (fN (lD (fN (ok := fun k_ => (((w.heap.size ≤ k_)) ∧ (some k_ ≠ ob (.slice a3 Y.length a4) ∧ (some k_ ≠ ob (.slice a5 Z.length a6) ∧ (some k_ ≠ ob (.slice a7 a0.length a8) ∧ (k_ ≠ m ∧ (k_ ≠ g ∧ k_ ≠ c))))))) (zg_4 Zt.o) (fun k_ hk_ => (⟨hk_, hk_.2.2.2.2.2.1⟩ : _ ∧ k_ ≠ g))) hk (fun _ h => h.2)) (fun _ h => h.1)) (eX (hG (IsS62.apart (show IsS62 y _ g q d2 d3 from zg_20 b.o Zg.o Zf.o) (zg_6 Zs.o) (by decide)) hk (fun _ h => h.2)) (fun _ h => h.1)) (hQ hk (g' := c) (o := .cells #[.slice a3 Y.length a4, .slice a5 Z.length a6, .slice c7 b4.length c8, .slice a7 a0.length a8] 31 (0, 0)) (zg_3 Zc.o) Zm.o (by simp)) (gS (zg_21 HK.o Zj.o Zk.o) hk (.inl rfl)) (hb) (hi) ?_; clear Zh Zq Zr Zt Zs Zc HK HB b; intro Zh Zq Zr Zt Zs Zc HK HB b; (try clear hb); (try clear hb2); (try clear hk); (try clear hi)) | ((with_reducible refine fJ (f := 28) rfl ?_); refine gU (some 14) rfl rfl Tryz.func28 (by kernel_rfl) rfl #[.int .i64 (wrap64 (6 + l4))] rfl zq ?_; (with_reducible refine (bY.calls (wrap64 (6 + l4)) l5 l6 l7 l8 _ R3.o).mono ?_); rintro e BI ⟨G9, H0, AC, H1, rfl, z, A, X, B, hb⟩; refine ⟨_, rfl, ?_⟩; refine zG13 (eX (gK (gK (gK (kH (zg_6 Zq.o) hb) (fH z)) (fH A)) (fH B)) (fun _ h_ => h_.1)) (eX (gK (gK (gK (kH (zg_6 Zr.o) hb) (fH z)) (fH A)) (fH B)) (fun _ h_ => h_.1)) (fN (iC (iC (iC (iC (nM (zg_4 Zt.o) hb) (fH z)) (fH A)) (lA (mG X))) (fH B)) (fun _ h_ => h_.1)) (eX (gK (gK (gK (kH (zg_6 Zs.o) hb) (fH z)) (fH A)) (fH B)) (fun _ h_ => h_.1)) (fL (fT (fT (fT (iM (M := fun k_ => (w.heap.size ≤ k_)) z (gI (w := w) (g := g) (row := none) (zg_21 HK.o Zj.o Zk.o)) (fun k_ h_ => h_)) (fO (zg_6 Zq.o))) (fO (zg_6 Zr.o))) (fO (zg_6 Zs.o))) (gI (w := w) (g := g) (row := none) (zg_21 HK.o Zj.o Zk.o))) (fL (fT (fT (fT (iM (M := fun k_ => (w.heap.size ≤ k_)) A (gI (w := w) (g := g) (row := none) (zg_21 HK.o Zj.o Zk.o)) (fun k_ h_ => h_)) (fO (zg_6 Zq.o))) (fO (zg_6 Zr.o))) (fO (zg_6 Zs.o))) (gI (w := w) (g := g) (row := none) (zg_21 HK.o Zj.o Zk.o))) (jK (fN (ok' := fun k_ => (w.heap.size ≤ k_) ∧ some k_ ≠ ob G9 ∧ some k_ ≠ ob H0 ∧ some k_ ≠ ob H1 ∧ some k_ ≠ ob (.slice a3 Y.length a4) ∧ some k_ ≠ ob (.slice a5 Z.length a6) ∧ some k_ ≠ ob (.slice c7 b4.length c8) ∧ some k_ ≠ ob (.slice a7 a0.length a8) ∧ k_ ≠ m ∧ k_ ≠ c ∧ k_ ≠ g) (mG (kD X)) (fun k_ hk_ => ⟨(hU (gI (w := w) (g := g) (row := none) (zg_21 HK.o Zj.o Zk.o)) hk_.2.1), hk_.1.1, hk_.1.2.1, hk_.1.2.2, (gF (fO (zg_6 Zq.o)) k_ hk_.2.1), (gF (fO (zg_6 Zr.o)) k_ hk_.2.1), (gF (nV (zg_4 Zt.o)) k_ hk_.2.1), (gF (fO (zg_6 Zs.o)) k_ hk_.2.1), (iB (g := m) (o := .cells #[.slice none 0 0, .slice none 0 0, .slice none 0 0, .slice none 0 0] 31 (0, 0)) (zg_3 Zh.o) k_ hk_.2.1), (iB (g := c) (o := .cells #[.slice a3 Y.length a4, .slice a5 Z.length a6, .slice c7 b4.length c8, .slice a7 a0.length a8] 31 (0, 0)) (zg_3 Zc.o) k_ hk_.2.1), (IsS62.fresh (zg_20 b.o Zg.o Zf.o) k_ hk_.2.1)⟩)) (gI (w := w) (g := g) (row := none) (zg_21 HK.o Zj.o Zk.o))) (fL (fT (fT (fT (iM (M := fun k_ => (w.heap.size ≤ k_)) B (gI (w := w) (g := g) (row := none) (zg_21 HK.o Zj.o Zk.o)) (fun k_ h_ => h_)) (fO (zg_6 Zq.o))) (fO (zg_6 Zr.o))) (fO (zg_6 Zs.o))) (gI (w := w) (g := g) (row := none) (zg_21 HK.o Zj.o Zk.o))) (IsS62.below (zg_20 b.o Zg.o Zf.o) hb) (fB (g := m) (o := .cells #[.slice none 0 0, .slice none 0 0, .slice none 0 0, .slice none 0 0] 31 (0, 0)) (zg_3 Zh.o) hb) (fB (g := c) (o := .cells #[.slice a3 Y.length a4, .slice a5 Z.length a6, .slice c7 b4.length c8, .slice a7 a0.length a8] 31 (0, 0)) (zg_3 Zc.o) hb) (gS (zg_21 HK.o Zj.o Zk.o) (jO hb g none) (.inl rfl)) (eZ (zg_22 HB.o b.o Zn.o Zo.o) hb) ?_; clear Zq Zr Zt Zs b Zh Zc HK HB; intro Zq Zr Zt Zs Zu Zv Zw Zx b Zh Zc HK HB; (try clear hb); (try clear hb2); (try clear hk); (try clear hi); (try clear z); (try clear A); (try clear X); (try clear B); obtain ⟨H2, H3, rfl⟩ := fA Zu.o; have W5 := Zl.o; have W6 := Zi.o; have W7 := Zm.o; have W8 := Zf.o; obtain ⟨_, _, _, _, _, _, _, _⟩ := zb4 Zc.o; obtain ⟨H4, H5, rfl⟩ := fA Zv.o; obtain ⟨H6, H7, rfl⟩ := iR Zw.o; obtain ⟨H8, H9, rfl⟩ := fA Zx.o))
  go_meet
  case rel => exact ⟨_, (t2), (t3), (l5), (l6), (l7), (l8), (.slice H2 l5.length H3), (.slice H4 l6.length H5), (.slice H6 l7.length H7), (.slice H8 l8.length H9), H', ⟨by first | omega | exact fQ _⟩, ⟨eX (zR4 (fD Zu.o Zc.o (by decide))) (fun _ hk => ⟨hk.1.1.1.1.1, ⟨hk.1.1.1.1.2.1, hk.1.1.1.1.2.2⟩⟩)⟩, ⟨eX (zR4 (fD Zv.o Zc.o (by decide))) (fun _ hk => ⟨hk.1.1.1.1.1, ⟨hk.1.1.1.1.2.1, hk.1.1.1.1.2.2⟩⟩)⟩, ⟨fN (zN4 (fN Zw.o (fun k_ hk => (⟨hk, hk.2.2.2.2.2.2.2.2.2.1⟩ : _ ∧ k_ ≠ c)))) (fun _ hk => ⟨hk.1.1, ⟨hk.1.2.1, ⟨hk.1.2.2.1, ⟨hk.1.2.2.2.1, ⟨hk.1.2.2.2.2.2.2.2.2.1, ⟨hk.1.2.2.2.2.2.2.2.2.2.1, hk.1.2.2.2.2.2.2.2.2.2.2⟩⟩⟩⟩⟩⟩)⟩, ⟨eX (zR4 (fD Zx.o Zc.o (by decide))) (fun _ hk => ⟨hk.1.1.1.1.1, ⟨hk.1.1.1.1.2.1, hk.1.1.1.1.2.2⟩⟩)⟩, ⟨by exact zfar4 Zh.o Zi.o⟩, ⟨by exact zput4 Zc.o⟩, ⟨zg_20 b.o Zg.o Zf.o⟩, ⟨zg_21 HK.o Zj.o Zk.o⟩, ⟨zg_22 HB.o b.o Zn.o Zo.o⟩⟩
 case rest =>
  clear t1
  try clear c1
  try clear c2
  try clear p2
  try clear c3
  try clear p6
  try clear F7
  try clear F8
  try clear F9
  try clear h1
  try clear G0
  try clear G1
  try clear G2
  try clear G3
  try clear G4
  obtain ⟨kq, b5, b6, b8, b9, c0, c5, u581000, u581001, u581002, u581003, HA, HJ4, Za, Zd, Ze, Zb, Zh, Zc, b, HK, HB⟩ := hcut
  cases kq with
  | zero => exact absurd HA.o (by simp [aA.j0])
  | succ G5 =>
   have H := HA.o; clear HA
   simp only [aA.j0] at H
   replace H := eW.mp H
   obtain ⟨⟨l9, h2, h3⟩, t6, H⟩ := H
   try dsimp only at H
   have R7 := zm t6; clear t6; replace H := eW.mp H
   obtain ⟨⟨t7, t8, t9⟩, u0, H⟩ := H
   try dsimp only at H
   have R8 := zm u0; clear u0
   have H' := zm H
   clear H
   go_wp2_with (first | ((with_reducible refine fJ (f := 31) rfl ?_); refine gU (some 17) rfl rfl Tryz.func31 (by kernel_rfl) rfl #[.pointer (some ⟨g, 0, none⟩), .int .i64 20] rfl zq ?_; (with_reducible refine (cZ.calls g q b5 b6 20 l9 h2 h3 y _ ?_ ?_ R7.o).mono ?_); exact (zg_20 b.o Zg.o Zf.o); exact (zg_22 HB.o b.o Zn.o Zo.o); rintro e BJ ⟨rfl, hi, hb, hk⟩; refine ⟨_, rfl, ?_⟩; refine zG9 (eX (hG (IsS62.apart (show IsS62 y _ g q b5 b6 from zg_20 b.o Zg.o Zf.o) (zg_6 Za.o) (by decide)) hk (fun _ h => h.2)) (fun _ h => h.1)) (eX (hG (IsS62.apart (show IsS62 y _ g q b5 b6 from zg_20 b.o Zg.o Zf.o) (zg_6 Zd.o) (by decide)) hk (fun _ h => h.2)) (fun _ h => h.1)) (fN (lD (fN (ok := fun k_ => (((w.heap.size ≤ k_)) ∧ (some k_ ≠ ob u581000 ∧ (some k_ ≠ ob u581001 ∧ (some k_ ≠ ob u581003 ∧ (k_ ≠ m ∧ (k_ ≠ c ∧ k_ ≠ g))))))) (zg_4 Ze.o) (fun k_ hk_ => (⟨hk_, hk_.2.2.2.2.2.2⟩ : _ ∧ k_ ≠ g))) hk (fun _ h => h.2)) (fun _ h => h.1)) (eX (hG (IsS62.apart (show IsS62 y _ g q b5 b6 from zg_20 b.o Zg.o Zf.o) (zg_6 Zb.o) (by decide)) hk (fun _ h => h.2)) (fun _ h => h.1)) (hQ hk (g' := m) (o := .cells #[.slice none 0 0, .slice none 0 0, .slice none 0 0, .slice none 0 0] 31 (0, 0)) (zg_3 Zh.o) Zp.o (by simp)) (hQ hk (g' := c) (o := .cells #[u581000, u581001, u581002, u581003] 31 (0, 0)) (zg_3 Zc.o) Zm.o (by simp)) (gS (zg_21 HK.o Zj.o Zk.o) hk (.inl rfl)) (hb) (hi) ?_; clear Za Zd Ze Zb Zh Zc HK HB b; intro Za Zd Ze Zb Zh Zc HK HB b; (try clear hb); (try clear hb2); (try clear hk); (try clear hi)) | ((with_reducible refine fJ (f := 29) rfl ?_); refine gU (some 19) rfl rfl jI (by kernel_rfl) rfl #[.pointer (some ⟨g, 0, none⟩), .int .i64 (wrap64 (l9 + 12))] rfl zq ?_; (with_reducible refine (aD.calls g q h2 h3 (wrap64 (l9 + 12)) t7 t8 t9 y _ ?_ ?_ R8.o).mono ?_); exact (zg_20 b.o Zg.o Zf.o); exact (zg_22 HB.o b.o Zn.o Zo.o); rintro e BK ⟨rfl, hi, hb, hk⟩; refine ⟨_, rfl, ?_⟩; refine zG9 (eX (hG (IsS62.apart (show IsS62 y _ g q h2 h3 from zg_20 b.o Zg.o Zf.o) (zg_6 Za.o) (by decide)) hk (fun _ h => h.2)) (fun _ h => h.1)) (eX (hG (IsS62.apart (show IsS62 y _ g q h2 h3 from zg_20 b.o Zg.o Zf.o) (zg_6 Zd.o) (by decide)) hk (fun _ h => h.2)) (fun _ h => h.1)) (fN (lD (fN (ok := fun k_ => (((w.heap.size ≤ k_)) ∧ (some k_ ≠ ob u581000 ∧ (some k_ ≠ ob u581001 ∧ (some k_ ≠ ob u581003 ∧ (k_ ≠ m ∧ (k_ ≠ c ∧ k_ ≠ g))))))) (zg_4 Ze.o) (fun k_ hk_ => (⟨hk_, hk_.2.2.2.2.2.2⟩ : _ ∧ k_ ≠ g))) hk (fun _ h => h.2)) (fun _ h => h.1)) (eX (hG (IsS62.apart (show IsS62 y _ g q h2 h3 from zg_20 b.o Zg.o Zf.o) (zg_6 Zb.o) (by decide)) hk (fun _ h => h.2)) (fun _ h => h.1)) (hQ hk (g' := m) (o := .cells #[.slice none 0 0, .slice none 0 0, .slice none 0 0, .slice none 0 0] 31 (0, 0)) (zg_3 Zh.o) Zp.o (by simp)) (hQ hk (g' := c) (o := .cells #[u581000, u581001, u581002, u581003] 31 (0, 0)) (zg_3 Zc.o) Zm.o (by simp)) (gS (zg_21 HK.o Zj.o Zk.o) hk (.inl rfl)) (hb) (hi) ?_; clear Za Zd Ze Zb Zh Zc HK HB b; intro Za Zd Ze Zb Zh Zc HK HB b; (try clear hb); (try clear hb2); (try clear hk); (try clear hi)))
   go_loopg [4] G5 (fun kq v4 w' => ∃ (b7 : Int) (a1 : Int) (a2 : Int) (d : List Int) (a : List Int) (j : List (S60)) (l : List Int) (u581000 : Value) (u581001 : Value) (u581002 : Value) (u581003 : Value), v4 = .int .i64 b7 ∧ Aside0 (aA.l0 kq b7 q a1 a2 d a j l = some (r1, r2, r3, r4, r5, r6)) ∧ Aside0 (kq ≤ G5) ∧ Aside0 (Kd.R (fG .i64) 3 w' w.heap.size (fun k_ => (w.heap.size ≤ k_) ∧ some k_ ≠ ob u581001 ∧ some k_ ≠ ob u581003) u581000 d) ∧ Aside0 (Kd.R (fG .i64) 3 w' w.heap.size (fun k_ => (w.heap.size ≤ k_) ∧ some k_ ≠ ob u581000 ∧ some k_ ≠ ob u581003) u581001 a) ∧ Aside0 (Kd.N k60 60 w' w.heap.size (fun k_ => (w.heap.size ≤ k_) ∧ some k_ ≠ ob u581000 ∧ some k_ ≠ ob u581001 ∧ some k_ ≠ ob u581003 ∧ k_ ≠ m ∧ k_ ≠ c ∧ k_ ≠ g) u581002 j) ∧ Aside0 (Kd.R (fG .i64) 3 w' w.heap.size (fun k_ => (w.heap.size ≤ k_) ∧ some k_ ≠ ob u581000 ∧ some k_ ≠ ob u581001) u581003 l) ∧ Aside0 (w'.heap[m]? = some (.cells #[(.slice none 0 0), (.slice none 0 0), (.slice none 0 0), (.slice none 0 0)] 31 (0, 0))) ∧ Aside0 (w'.heap[c]? = some (.cells #[u581000, u581001, u581002, u581003] 31 (0, 0))) ∧ Aside0 (IsS62 y w' g q a1 a2) ∧ Aside0 (KeepBut w w' g none) ∧ Aside0 (Below y.heap.size y w'))
   case atStart => exact ⟨(t7), (t8), (t9), (b8), (b9), (c0), (c5), (u581000), (u581001), (u581002), (u581003), zr, H', ⟨fQ _⟩, ⟨zlR Za.o⟩, ⟨zlR Zd.o⟩, ⟨zlN Ze.o⟩, ⟨zlR Zb.o⟩, ⟨zl Zh.o⟩, ⟨zl Zc.o⟩, ⟨zg_20 b.o Zg.o Zf.o⟩, ⟨zg_21 HK.o Zj.o Zk.o⟩, ⟨zg_22 HB.o b.o Zn.o Zo.o⟩⟩
   case round =>
    clear H'
    try clear c1
    try clear c2
    try clear p2
    try clear c3
    try clear p6
    try clear F7
    try clear F8
    try clear F9
    try clear h1
    try clear G0
    try clear G1
    try clear G2
    try clear G3
    try clear G4
    try clear R9
    try clear p2
    try clear p6
    obtain ⟨b7, a1, a2, d, a, j, l, u581000, u581001, u581002, u581003, rfl, HA, b3, Za, Zd, Ze, Zb, Zh, Zc, b, HK, HB⟩ := hrel
    cases gk with
    | zero => exact absurd HA.o (by simp [aA.l0])
    | succ k2 =>
     have H := HA.o; clear HA
     simp only [aA.l0] at H
     by_cases h4 : b7 > 0
     rotate_left
     ·rw [if_neg h4] at H
      have p4 := decide_eq_false h4; clear h4; replace H := eW.mp H
      obtain ⟨⟨u1, u2, u3, u4⟩, p5, H⟩ := H
      try dsimp only at H
      have I0 := zm p5; clear p5
      simp only [gC, gP] at H
      obtain ⟨rfl, rfl, rfl, rfl, rfl, rfl⟩ := H
      have S0 := Zl.o; have S1 := Zi.o; have S2 := Zm.o; have S3 := Zf.o
      obtain ⟨_, _, _, _, _, _, _, _⟩ := zb4 Zc.o
      obtain ⟨f4, f5, A9⟩ := fA Za.o
      subst A9
      obtain ⟨f6, f7, B0⟩ := fA Zd.o
      subst B0
      obtain ⟨f8, f9, B1⟩ := iR Ze.o
      subst B1
      obtain ⟨g0, g1, B2⟩ := fA Zb.o
      subst B2
      go_wp2_with (first | ((with_reducible refine fJ (f := 40) rfl ?_); refine gU (some 90) rfl rfl Tryz.func40 (by kernel_rfl) rfl #[.agg #[.slice f4 d.length f5, .slice f6 a.length f7, .slice f8 j.length f9, .slice g0 l.length g1]] rfl zq ?_; (with_reducible refine (aE.calls k2 _ _ d _ _ a _ _ j _ _ l u1 u2 u3 u4 _ ?_ ?_ ?_ ?_ ?_ ?_ ?_ ?_ I0.o).mono ?_); exact zC ((fC Za.o).2.2); exact (fC Za.o).2.1; exact zC ((fC Zd.o).2.2); exact (fC Zd.o).2.1; exact zC ((gZ Ze.o).2.2); exact (gZ Ze.o).2.1; exact zC ((fC Zb.o).2.2); exact (fC Zb.o).2.1; rintro e AE ⟨I1, I2, AF, I3, rfl, z, A, X, B, hb⟩; refine ⟨_, rfl, ?_⟩; refine zG13 (eX (gK (gK (gK (kH (zg_6 Za.o) hb) (fH z)) (fH A)) (fH B)) (fun _ h_ => h_.1)) (eX (gK (gK (gK (kH (zg_6 Zd.o) hb) (fH z)) (fH A)) (fH B)) (fun _ h_ => h_.1)) (fN (iC (iC (iC (iC (nM (zg_4 Ze.o) hb) (fH z)) (fH A)) (lA (mG X))) (fH B)) (fun _ h_ => h_.1)) (eX (gK (gK (gK (kH (zg_6 Zb.o) hb) (fH z)) (fH A)) (fH B)) (fun _ h_ => h_.1)) (fL (fT (fT (fT (iM (M := fun k_ => (w.heap.size ≤ k_)) z (gI (w := w) (g := g) (row := none) (zg_21 HK.o Zj.o Zk.o)) (fun k_ h_ => h_)) (fO (zg_6 Za.o))) (fO (zg_6 Zd.o))) (fO (zg_6 Zb.o))) (gI (w := w) (g := g) (row := none) (zg_21 HK.o Zj.o Zk.o))) (fL (fT (fT (fT (iM (M := fun k_ => (w.heap.size ≤ k_)) A (gI (w := w) (g := g) (row := none) (zg_21 HK.o Zj.o Zk.o)) (fun k_ h_ => h_)) (fO (zg_6 Za.o))) (fO (zg_6 Zd.o))) (fO (zg_6 Zb.o))) (gI (w := w) (g := g) (row := none) (zg_21 HK.o Zj.o Zk.o))) (jK (fN (ok' := fun k_ => (w.heap.size ≤ k_) ∧ some k_ ≠ ob I1 ∧ some k_ ≠ ob I2 ∧ some k_ ≠ ob I3 ∧ some k_ ≠ ob (.slice f4 d.length f5) ∧ some k_ ≠ ob (.slice f6 a.length f7) ∧ some k_ ≠ ob (.slice f8 j.length f9) ∧ some k_ ≠ ob (.slice g0 l.length g1) ∧ k_ ≠ m ∧ k_ ≠ c ∧ k_ ≠ g) (mG (kD X)) (fun k_ hk_ => ⟨(hU (gI (w := w) (g := g) (row := none) (zg_21 HK.o Zj.o Zk.o)) hk_.2.1), hk_.1.1, hk_.1.2.1, hk_.1.2.2, (gF (fO (zg_6 Za.o)) k_ hk_.2.1), (gF (fO (zg_6 Zd.o)) k_ hk_.2.1), (gF (nV (zg_4 Ze.o)) k_ hk_.2.1), (gF (fO (zg_6 Zb.o)) k_ hk_.2.1), (iB (g := m) (o := .cells #[.slice none 0 0, .slice none 0 0, .slice none 0 0, .slice none 0 0] 31 (0, 0)) (zg_3 Zh.o) k_ hk_.2.1), (iB (g := c) (o := .cells #[.slice f4 d.length f5, .slice f6 a.length f7, .slice f8 j.length f9, .slice g0 l.length g1] 31 (0, 0)) (zg_3 Zc.o) k_ hk_.2.1), (IsS62.fresh (zg_20 b.o Zg.o Zf.o) k_ hk_.2.1)⟩)) (gI (w := w) (g := g) (row := none) (zg_21 HK.o Zj.o Zk.o))) (fL (fT (fT (fT (iM (M := fun k_ => (w.heap.size ≤ k_)) B (gI (w := w) (g := g) (row := none) (zg_21 HK.o Zj.o Zk.o)) (fun k_ h_ => h_)) (fO (zg_6 Za.o))) (fO (zg_6 Zd.o))) (fO (zg_6 Zb.o))) (gI (w := w) (g := g) (row := none) (zg_21 HK.o Zj.o Zk.o))) (fB (g := m) (o := .cells #[.slice none 0 0, .slice none 0 0, .slice none 0 0, .slice none 0 0] 31 (0, 0)) (zg_3 Zh.o) hb) (fB (g := c) (o := .cells #[.slice f4 d.length f5, .slice f6 a.length f7, .slice f8 j.length f9, .slice g0 l.length g1] 31 (0, 0)) (zg_3 Zc.o) hb) (IsS62.below (zg_20 b.o Zg.o Zf.o) hb) (gS (zg_21 HK.o Zj.o Zk.o) (jO hb g none) (.inl rfl)) (eZ (zg_22 HB.o b.o Zn.o Zo.o) hb) ?_; clear Za Zd Ze Zb Zh Zc b HK HB; intro Za Zd Ze Zb ZW ZX ZY ZZ Zh Zc b HK HB; (try clear hb); (try clear hb2); (try clear hk); (try clear hi); (try clear z); (try clear A); (try clear X); (try clear B); obtain ⟨B3, B4, rfl⟩ := fA ZW.o; have S4 := Zp.o; have S5 := Zg.o; obtain ⟨_, _, _, _, _, _, _, _⟩ := zb4 Zh.o; obtain ⟨B5, B6, rfl⟩ := fA ZX.o; obtain ⟨B7, B8, rfl⟩ := iR ZY.o; obtain ⟨B9, C0, rfl⟩ := fA ZZ.o))
      refine bodyPost_ret (jE rfl _ _ m 31 #[.slice B3 u1.length B4, .slice B5 u2.length B6, .slice B7 u3.length B8, .slice B9 u4.length C0] (0, 0) _ rfl (by exact zput4 Zh.o) fW rfl (by kernel_rfl)) rfl ?_
      exact ⟨_, _, _, _, ze, eX (zR4 (fD ZW.o Zh.o (by decide))) (fun _ hk => ⟨hk.1.1.1.1.1, ⟨hk.1.1.1.1.2.1, hk.1.1.1.1.2.2⟩⟩), eX (zR4 (fD ZX.o Zh.o (by decide))) (fun _ hk => ⟨hk.1.1.1.1.1, ⟨hk.1.1.1.1.2.1, hk.1.1.1.1.2.2⟩⟩), fN (zN4 (fN ZY.o (fun k_ hk => (⟨hk, hk.2.2.2.2.2.2.2.2.1⟩ : _ ∧ k_ ≠ m)))) (fun _ hk => ⟨hk.1.1, ⟨hk.1.2.1, ⟨hk.1.2.2.1, hk.1.2.2.2.1⟩⟩⟩), eX (zR4 (fD ZZ.o Zh.o (by decide))) (fun _ hk => ⟨hk.1.1.1.1.1, ⟨hk.1.1.1.1.2.1, hk.1.1.1.1.2.2⟩⟩), zg_20 b.o Zg.o Zf.o, zg_22 HB.o b.o Zn.o Zo.o, zg_21 HK.o Zj.o Zk.o⟩
     rw [if_pos h4] at H; have p4 := decide_eq_true h4; clear h4; have Zaa := zm H; clear H; have W9 := Zl.o; have X0 := Zi.o; have X1 := Zm.o; have X2 := Zf.o
     obtain ⟨_, _, _, _, _, _, _, _⟩ := zb4 Zc.o
     obtain ⟨u, x, I4⟩ := fA Zd.o
     subst I4
     go_upto_if 27 with (fail)
     go_cut [5] (fun v5 wc => ∃ (kq : Nat) (c9 : Int) (r : Int) (s : Int), v5 = .int .i64 c9 ∧ Aside0 (aA.j2 kq b7 c9 q r s d a j l = some (r1, r2, r3, r4, r5, r6)) ∧ Aside0 (kq ≤ k2) ∧ Aside0 (Kd.R (fG .i64) 3 wc w.heap.size (fun k_ => (w.heap.size ≤ k_) ∧ some k_ ≠ ob ((.slice u a.length x)) ∧ some k_ ≠ ob u581003) u581000 d) ∧ Aside0 (Kd.R (fG .i64) 3 wc w.heap.size (fun k_ => (w.heap.size ≤ k_) ∧ some k_ ≠ ob u581000 ∧ some k_ ≠ ob u581003) (.slice u a.length x) a) ∧ Aside0 (Kd.N k60 60 wc w.heap.size (fun k_ => (w.heap.size ≤ k_) ∧ some k_ ≠ ob u581000 ∧ some k_ ≠ ob ((.slice u a.length x)) ∧ some k_ ≠ ob u581003 ∧ k_ ≠ m ∧ k_ ≠ c ∧ k_ ≠ g) u581002 j) ∧ Aside0 (Kd.R (fG .i64) 3 wc w.heap.size (fun k_ => (w.heap.size ≤ k_) ∧ some k_ ≠ ob u581000 ∧ some k_ ≠ ob ((.slice u a.length x))) u581003 l) ∧ Aside0 (wc.heap[m]? = some (.cells #[(.slice none 0 0), (.slice none 0 0), (.slice none 0 0), (.slice none 0 0)] 31 (0, 0))) ∧ Aside0 (wc.heap[c]? = some (.cells #[u581000, (.slice u a.length x), u581002, u581003] 31 (0, 0))) ∧ Aside0 (IsS62 y wc g q r s) ∧ Aside0 (KeepBut w wc g none) ∧ Aside0 (Below y.heap.size y wc))
     case first =>
      have H := Zaa.o; clear Zaa
      by_cases h5 : (a.length : Int) > 0
      rotate_left
      ·rw [if_neg h5] at H
       have d4 := decide_eq_false h5
       have g2 : decide (0 < a.length) = false := decide_eq_false (by omega)
       clear h5
       (first | rw [d4] | rw [g2] | (simp only [iQ, jF]; rw [d4]) | skip)
       have H' := zm H
       clear H
       go_wp2
       go_meet
       case rel => exact ⟨_, (0), (a1), (a2), zr, H', ⟨by have := HJ4.o; have := b3.o; first | omega | exact fQ _⟩, ⟨zlR Za.o⟩, ⟨zlR Zd.o⟩, ⟨zlN Ze.o⟩, ⟨zlR Zb.o⟩, ⟨zl Zh.o⟩, ⟨zl Zc.o⟩, ⟨zg_20 b.o Zg.o Zf.o⟩, ⟨zg_21 HK.o Zj.o Zk.o⟩, ⟨zg_22 HB.o b.o Zn.o Zo.o⟩⟩
      rw [if_pos h5] at H; have d4 := decide_eq_true h5
      have g2 : decide (0 < a.length) = true := decide_eq_true (by omega)
      clear h5
      (first | rw [d4] | rw [g2] | (simp only [iQ, jF]; rw [d4]) | skip)
      replace H := eW.mp H
      obtain ⟨⟨u5, u6, u7⟩, u8, H⟩ := H
      try dsimp only at H
      have S6 := zm u8; clear u8
      have H' := zm H
      clear H; have X3 := Zl.o; have X4 := Zi.o; have X5 := Zm.o; have X6 := Zf.o
      obtain ⟨_, _, _, _, _, _, _, _⟩ := zb4 Zc.o
      go_wp2_with (first | ((with_reducible refine fJ (f := 29) rfl ?_); refine gU (some 32) rfl rfl jI (by kernel_rfl) rfl #[.pointer (some ⟨g, 0, none⟩), .int .i64 (a.length : Int)] rfl zq ?_; (with_reducible refine (aD.calls g q a1 a2 (a.length : Int) u5 u6 u7 y _ ?_ ?_ S6.o).mono ?_); exact (zg_20 b.o Zg.o Zf.o); exact (zg_22 HB.o b.o Zn.o Zo.o); rintro e BL ⟨rfl, hi, hb, hk⟩; refine ⟨_, rfl, ?_⟩; refine zG9 (eX (hG (IsS62.apart (show IsS62 y _ g q a1 a2 from zg_20 b.o Zg.o Zf.o) (zg_6 Za.o) (by decide)) hk (fun _ h => h.2)) (fun _ h => h.1)) (eX (hG (IsS62.apart (show IsS62 y _ g q a1 a2 from zg_20 b.o Zg.o Zf.o) (zg_6 Zd.o) (by decide)) hk (fun _ h => h.2)) (fun _ h => h.1)) (fN (lD (fN (ok := fun k_ => (((w.heap.size ≤ k_)) ∧ (some k_ ≠ ob u581000 ∧ (some k_ ≠ ob (.slice u a.length x) ∧ (some k_ ≠ ob u581003 ∧ (k_ ≠ m ∧ (k_ ≠ c ∧ k_ ≠ g))))))) (zg_4 Ze.o) (fun k_ hk_ => (⟨hk_, hk_.2.2.2.2.2.2⟩ : _ ∧ k_ ≠ g))) hk (fun _ h => h.2)) (fun _ h => h.1)) (eX (hG (IsS62.apart (show IsS62 y _ g q a1 a2 from zg_20 b.o Zg.o Zf.o) (zg_6 Zb.o) (by decide)) hk (fun _ h => h.2)) (fun _ h => h.1)) (hQ hk (g' := m) (o := .cells #[.slice none 0 0, .slice none 0 0, .slice none 0 0, .slice none 0 0] 31 (0, 0)) (zg_3 Zh.o) Zp.o (by simp)) (hQ hk (g' := c) (o := .cells #[u581000, .slice u a.length x, u581002, u581003] 31 (0, 0)) (zg_3 Zc.o) Zm.o (by simp)) (gS (zg_21 HK.o Zj.o Zk.o) hk (.inl rfl)) (hb) (hi) ?_; clear Za Zd Ze Zb Zh Zc HK HB b; intro Za Zd Ze Zb Zh Zc HK HB b; (try clear hb); (try clear hb2); (try clear hk); (try clear hi)))
      go_meet
      case rel => exact ⟨_, (u5), (u6), (u7), zr, H', ⟨by have := HJ4.o; have := b3.o; first | omega | exact fQ _⟩, ⟨zlR Za.o⟩, ⟨zlR Zd.o⟩, ⟨zlN Ze.o⟩, ⟨zlR Zb.o⟩, ⟨zl Zh.o⟩, ⟨zl Zc.o⟩, ⟨zg_20 b.o Zg.o Zf.o⟩, ⟨zg_21 HK.o Zj.o Zk.o⟩, ⟨zg_22 HB.o b.o Zn.o Zo.o⟩⟩
     case rest =>
      clear Zaa
      try clear c1
      try clear c2
      try clear p2
      try clear c3
      try clear c4
      try clear p6
      try clear F7
      try clear F8
      try clear F9
      try clear h1
      try clear G0
      try clear G1
      try clear G2
      try clear G3
      try clear G4
      try clear R9
      try clear h4
      try clear p4
      try clear BM
      try clear BN
      try clear h5
      try clear d4
      try clear g2
      try clear BO
      try clear BP
      try clear p2
      try clear p6
      obtain ⟨kq, c9, r, s, rfl, HA, HJ35, Za, Zd, Ze, Zb, Zh, Zc, b, HK, HB⟩ := hcut
      cases kq with
      | zero => exact absurd HA.o (by simp [aA.j2])
      | succ a9 =>
       have H := HA.o; clear HA
       simp only [aA.j2] at H
       replace H := eW.mp H
       obtain ⟨⟨C, U, V⟩, u9, H⟩ := H
       try dsimp only at H
       have f2 := zm u9; clear u9
       by_cases h6 : C = 0
       ·rw [if_pos h6] at H
        have C1 : (C == 0) = true := beq_iff_eq.mpr h6
        have C2 : (C != 0) = false := bne_eq_false_iff_eq.mpr h6
        clear h6; replace H := eW.mp H
        obtain ⟨⟨m0, v0, v1⟩, v2, H⟩ := H
        try dsimp only at H
        have S7 := zm v2; clear v2; replace H := eW.mp H
        obtain ⟨⟨m1, m2, m3, m4, I5⟩, v3, H⟩ := H
        try dsimp only at H
        have S8 := zm v3; clear v3
        have H' := zm H
        clear H
        try go_wp2_with (first | ((with_reducible refine fJ (f := 29) rfl ?_); refine gU (some 34) rfl rfl jI (by kernel_rfl) rfl #[.pointer (some ⟨g, 0, none⟩), .int .i64 9] rfl zq ?_; (with_reducible refine (aD.calls g q r s 9 C U V y _ ?_ ?_ f2.o).mono ?_); exact (zg_20 b.o Zg.o Zf.o); exact (zg_22 HB.o b.o Zn.o Zo.o); rintro e S9 ⟨rfl, hi, hb, hk⟩; refine ⟨_, rfl, ?_⟩; refine zG9 (eX (hG (IsS62.apart (show IsS62 y _ g q r s from zg_20 b.o Zg.o Zf.o) (zg_6 Za.o) (by decide)) hk (fun _ h => h.2)) (fun _ h => h.1)) (eX (hG (IsS62.apart (show IsS62 y _ g q r s from zg_20 b.o Zg.o Zf.o) (zg_6 Zd.o) (by decide)) hk (fun _ h => h.2)) (fun _ h => h.1)) (fN (lD (fN (ok := fun k_ => (((w.heap.size ≤ k_)) ∧ (some k_ ≠ ob u581000 ∧ (some k_ ≠ ob (.slice u a.length x) ∧ (some k_ ≠ ob u581003 ∧ (k_ ≠ m ∧ (k_ ≠ c ∧ k_ ≠ g))))))) (zg_4 Ze.o) (fun k_ hk_ => (⟨hk_, hk_.2.2.2.2.2.2⟩ : _ ∧ k_ ≠ g))) hk (fun _ h => h.2)) (fun _ h => h.1)) (eX (hG (IsS62.apart (show IsS62 y _ g q r s from zg_20 b.o Zg.o Zf.o) (zg_6 Zb.o) (by decide)) hk (fun _ h => h.2)) (fun _ h => h.1)) (hQ hk (g' := m) (o := .cells #[.slice none 0 0, .slice none 0 0, .slice none 0 0, .slice none 0 0] 31 (0, 0)) (zg_3 Zh.o) Zp.o (by simp)) (hQ hk (g' := c) (o := .cells #[u581000, .slice u a.length x, u581002, u581003] 31 (0, 0)) (zg_3 Zc.o) Zm.o (by simp)) (gS (zg_21 HK.o Zj.o Zk.o) hk (.inl rfl)) (hb) (hi) ?_; clear Za Zd Ze Zb Zh Zc HK HB b; intro Za Zd Ze Zb Zh Zc HK HB b; (try clear hb); (try clear hb2); (try clear hk); (try clear hi)))
        have D := zm (fK Za.o); have E := zm (fK Zd.o); have F := zm (jR Ze.o); have G := zm (fK Zb.o); have I := zm (fU Zh.o); have J := zm (fU Zc.o); have L := zm (IsS62.drew b.o); have O := zm (nR HK.o); have T := zm (gA HB.o); clear Za; clear Zd; clear Ze; clear Zb; clear Zh; clear Zc; clear b; clear HK; clear HB; have Za := D; have Zd := E; have Ze := F; have Zb := G; have Zh := I; have Zc := J; have b := L; have HK := O; have HB := T; clear D E F G I J L O T
        refine mP (n := 8) (S := fun w' => w'.cell? ⟨c, 0, none⟩ = some (u581000) ∧ w'.cell? ⟨c, 1, none⟩ = some (.slice u a.length x) ∧ w'.cell? ⟨c, 2, none⟩ = some (u581002) ∧ w'.cell? ⟨c, 3, none⟩ = some (u581003)) (ds := [7]) #[ff, ff, ff, ff, ff, ff, ff, ff] (by kernel_rfl) rfl rfl ⟨(eY Zc.o 0).trans rfl, (eY Zc.o 1).trans rfl, (eY Zc.o 2).trans rfl, (eY Zc.o 3).trans rfl⟩ (fun hHeld => ?_); refine kJ aA.tab14 aA.bits14 (fun HT_ HW_ => ?_)
        generalize S9.drew = BQ at Za Zd Ze Zb Zh Zc b HK HB hHeld ⊢
        refine gR (i := 1) (N := some 51) #[ff, tt, ff, ff, ff, ff, ff, ff] rfl rfl (gD HT_.o zk) (fun _ _ _ h => h) (.inl ⟨by rfl, zi⟩) zu ?_
        refine take_ (i := 0) (N := some 50) #[tt, tt, ff, ff, ff, ff, ff, ff] rfl rfl (hZ HT_.o HW_.o zk) (fun _ _ _ h => h) (.inl ⟨by rfl, zi4⟩) hHeld zu ?_
        refine one_ (i := 2) (N := some 52) #[tt, tt, tt, ff, ff, ff, ff, ff] rfl rfl (iS HT_.o zk) (by decide) (fun K hK => ?_)
        refine mR Tryz.func33 (by kernel_rfl) rfl #[.pointer (some ⟨g, 0, none⟩)] (by rfl) rfl rfl zq ?_
        with_reducible refine (bO.calls g q U V m0 v0 v1 y _ ?side1 ?side2 S7.o).mono ?_
        (case side1 => exact (zg_20 b.o Zg.o Zf.o))
        (case side2 => exact (zg_22 HB.o b.o Zn.o Zo.o))
        rintro e BR ⟨rfl, hi, hb, hk⟩
        refine ⟨_, rfl, ?_⟩
        have D := zm (eX (hG (IsS62.apart (show IsS62 y _ g q U V from zg_20 b.o Zg.o Zf.o) (zg_6 Za.o) (by decide)) hk (fun _ h => h.2)) (fun _ h => h.1)); have E := zm (eX (hG (IsS62.apart (show IsS62 y _ g q U V from zg_20 b.o Zg.o Zf.o) (zg_6 Zd.o) (by decide)) hk (fun _ h => h.2)) (fun _ h => h.1)); have F := zm (fN (lD (fN (ok := fun k_ => (((w.heap.size ≤ k_)) ∧ (some k_ ≠ ob u581000 ∧ (some k_ ≠ ob (.slice u a.length x) ∧ (some k_ ≠ ob u581003 ∧ (k_ ≠ m ∧ (k_ ≠ c ∧ k_ ≠ g))))))) (zg_4 Ze.o) (fun k_ hk_ => (⟨hk_, hk_.2.2.2.2.2.2⟩ : _ ∧ k_ ≠ g))) hk (fun _ h => h.2)) (fun _ h => h.1)); have G := zm (eX (hG (IsS62.apart (show IsS62 y _ g q U V from zg_20 b.o Zg.o Zf.o) (zg_6 Zb.o) (by decide)) hk (fun _ h => h.2)) (fun _ h => h.1)); have I := zm (hQ hk (g' := m) (o := .cells #[.slice none 0 0, .slice none 0 0, .slice none 0 0, .slice none 0 0] 31 (0, 0)) (zg_3 Zh.o) Zp.o (by simp)); have J := zm (hQ hk (g' := c) (o := .cells #[u581000, .slice u a.length x, u581002, u581003] 31 (0, 0)) (zg_3 Zc.o) Zm.o (by simp)); have L := zm (gS (zg_21 HK.o Zj.o Zk.o) hk (.inl rfl)); have O := zm (hb); have T := zm (hi); clear Za; clear Zd; clear Ze; clear Zb; clear Zh; clear Zc; clear HK; clear HB; clear b; have Za := D; have Zd := E; have Ze := F; have Zb := G; have Zh := I; have Zc := J; have HK := L; have HB := O; have b := T; clear D E F G I J L O T
        (try clear hb)
        (try clear hb2)
        (try clear hk)
        (try clear hi)
        obtain ⟨h7, h8, v6⟩ := fA Za.o
        (first | subst v6 | (injection v6 with f1_ f2_ f3_; have f4_ := f1_.symm; have f5_ := f3_.symm; clear f1_ f2_ f3_; subst f4_; subst f5_))
        obtain ⟨h9, i0, v7⟩ := iR Ze.o
        (first | subst v7 | (injection v7 with f1_ f2_ f3_; have f4_ := f1_.symm; have f5_ := f3_.symm; clear f1_ f2_ f3_; subst f4_; subst f5_))
        obtain ⟨i1, i2, v8⟩ := fA Zb.o
        (first | subst v8 | (injection v8 with f1_ f2_ f3_; have f4_ := f1_.symm; have f5_ := f3_.symm; clear f1_ f2_ f3_; subst f4_; subst f5_))
        refine hK.out _ _ ⟨(eY Zc.o 0).trans rfl, (eY Zc.o 1).trans rfl, (eY Zc.o 2).trans rfl, (eY Zc.o 3).trans rfl⟩ (fun hHeld => ?_)
        clear hK K
        refine jV (a' := ?_) ?_ ?_
        rotate_left
        ·show gE _ (some 52) _ = _
         simp only [gE, zs, zz, zt, iQ, jF]
         rfl
        refine one_ (i := 3) (N := some 53) #[tt, tt, tt, tt, ff, ff, ff, ff] rfl rfl (iS HT_.o zk) (by decide) (fun K hK => ?_)
        refine mR Tryz.func32 (by kernel_rfl) rfl #[.agg #[.slice h7 d.length h8, .slice u a.length x, .slice h9 j.length i0, .slice i1 l.length i2], .string m0] (by rfl) rfl rfl zq ?_
        with_reducible refine (bR.calls a9 _ _ d _ _ a _ _ j _ _ l m0 m1 m2 m3 m4 I5 _ ?side1 ?side2 ?side3 ?side4 ?side5 ?side6 ?side7 ?side8 S8.o).mono ?_
        (case side1 => exact zC ((fC Za.o).2.2))
        (case side2 => exact (fC Za.o).2.1)
        (case side3 => exact zC ((fC Zd.o).2.2))
        (case side4 => exact (fC Zd.o).2.1)
        (case side5 => exact zC ((gZ Ze.o).2.2))
        (case side6 => exact (gZ Ze.o).2.1)
        (case side7 => exact zC ((fC Zb.o).2.2))
        (case side8 => exact (fC Zb.o).2.1)
        rintro e p7 ⟨I6, I7, AH, I8, rfl, z, A, X, B, hb⟩
        refine ⟨_, rfl, ?_⟩
        have D := zm (eX (gK (gK (gK (kH (zg_6 Za.o) hb) (fH z)) (fH A)) (fH B)) (fun _ h_ => h_.1)); have E := zm (eX (gK (gK (gK (kH (zg_6 Zd.o) hb) (fH z)) (fH A)) (fH B)) (fun _ h_ => h_.1)); have F := zm (fN (iC (iC (iC (iC (nM (zg_4 Ze.o) hb) (fH z)) (fH A)) (lA (mG X))) (fH B)) (fun _ h_ => h_.1)); have G := zm (eX (gK (gK (gK (kH (zg_6 Zb.o) hb) (fH z)) (fH A)) (fH B)) (fun _ h_ => h_.1)); have I := zm (fL (fT (fT (fT (iM (M := fun k_ => (w.heap.size ≤ k_)) z (gI (w := w) (g := g) (row := none) (zg_21 HK.o Zj.o Zk.o)) (fun k_ h_ => h_)) (fO (zg_6 Za.o))) (fO (zg_6 Zd.o))) (fO (zg_6 Zb.o))) (gI (w := w) (g := g) (row := none) (zg_21 HK.o Zj.o Zk.o))); have J := zm (fL (fT (fT (fT (iM (M := fun k_ => (w.heap.size ≤ k_)) A (gI (w := w) (g := g) (row := none) (zg_21 HK.o Zj.o Zk.o)) (fun k_ h_ => h_)) (fO (zg_6 Za.o))) (fO (zg_6 Zd.o))) (fO (zg_6 Zb.o))) (gI (w := w) (g := g) (row := none) (zg_21 HK.o Zj.o Zk.o))); have L := zm (jK (fN (ok' := fun k_ => (w.heap.size ≤ k_) ∧ some k_ ≠ ob I6 ∧ some k_ ≠ ob I7 ∧ some k_ ≠ ob I8 ∧ some k_ ≠ ob (.slice h7 d.length h8) ∧ some k_ ≠ ob (.slice u a.length x) ∧ some k_ ≠ ob (.slice h9 j.length i0) ∧ some k_ ≠ ob (.slice i1 l.length i2) ∧ k_ ≠ m ∧ k_ ≠ c ∧ k_ ≠ g) (mG (kD X)) (fun k_ hk_ => ⟨(hU (gI (w := w) (g := g) (row := none) (zg_21 HK.o Zj.o Zk.o)) hk_.2.1), hk_.1.1, hk_.1.2.1, hk_.1.2.2, (gF (fO (zg_6 Za.o)) k_ hk_.2.1), (gF (fO (zg_6 Zd.o)) k_ hk_.2.1), (gF (nV (zg_4 Ze.o)) k_ hk_.2.1), (gF (fO (zg_6 Zb.o)) k_ hk_.2.1), (iB (g := m) (o := .cells #[.slice none 0 0, .slice none 0 0, .slice none 0 0, .slice none 0 0] 31 (0, 0)) (zg_3 Zh.o) k_ hk_.2.1), (iB (g := c) (o := .cells #[.slice h7 d.length h8, .slice u a.length x, .slice h9 j.length i0, .slice i1 l.length i2] 31 (0, 0)) (zg_3 Zc.o) k_ hk_.2.1), (IsS62.fresh (zg_20 b.o Zg.o Zf.o) k_ hk_.2.1)⟩)) (gI (w := w) (g := g) (row := none) (zg_21 HK.o Zj.o Zk.o))); have O := zm (fL (fT (fT (fT (iM (M := fun k_ => (w.heap.size ≤ k_)) B (gI (w := w) (g := g) (row := none) (zg_21 HK.o Zj.o Zk.o)) (fun k_ h_ => h_)) (fO (zg_6 Za.o))) (fO (zg_6 Zd.o))) (fO (zg_6 Zb.o))) (gI (w := w) (g := g) (row := none) (zg_21 HK.o Zj.o Zk.o))); have T := zm (fB (g := m) (o := .cells #[.slice none 0 0, .slice none 0 0, .slice none 0 0, .slice none 0 0] 31 (0, 0)) (zg_3 Zh.o) hb); have c6 := zm (fB (g := c) (o := .cells #[.slice h7 d.length h8, .slice u a.length x, .slice h9 j.length i0, .slice i1 l.length i2] 31 (0, 0)) (zg_3 Zc.o) hb); have b0 := zm (IsS62.below (zg_20 b.o Zg.o Zf.o) hb); have b1 := zm (gS (zg_21 HK.o Zj.o Zk.o) (jO hb g none) (.inl rfl)); have b2 := zm (eZ (zg_22 HB.o b.o Zn.o Zo.o) hb); clear Za; clear Zd; clear Ze; clear Zb; clear Zh; clear Zc; clear b; clear HK; clear HB; have Za := D; have Zd := E; have Ze := F; have Zb := G; have Zy := I; have Zz := J; have ZA := L; have ZB := O; have Zh := T; have Zc := c6; have b := b0; have HK := b1; have HB := b2; clear D E F G I J L O T c6 b0 b1 b2
        (try clear hb)
        (try clear hb2)
        (try clear hk)
        (try clear hi)
        (try clear z)
        (try clear A)
        (try clear X)
        (try clear B)
        obtain ⟨I9, J0, v9⟩ := fA Zy.o
        (first | subst v9 | (injection v9 with f1_ f2_ f3_; have f4_ := f1_.symm; have f5_ := f3_.symm; clear f1_ f2_ f3_; subst f4_; subst f5_))
        obtain ⟨J1, J2, w2⟩ := fA Zz.o
        (first | subst w2 | (injection w2 with f1_ f2_ f3_; have f4_ := f1_.symm; have f5_ := f3_.symm; clear f1_ f2_ f3_; subst f4_; subst f5_))
        obtain ⟨J3, J4, w3⟩ := iR ZA.o
        (first | subst w3 | (injection w3 with f1_ f2_ f3_; have f4_ := f1_.symm; have f5_ := f3_.symm; clear f1_ f2_ f3_; subst f4_; subst f5_))
        obtain ⟨J5, J6, w4⟩ := fA ZB.o
        (first | subst w4 | (injection w4 with f1_ f2_ f3_; have f4_ := f1_.symm; have f5_ := f3_.symm; clear f1_ f2_ f3_; subst f4_; subst f5_))
        refine hK.out _ _ ⟨(eY Zc.o 0).trans rfl, (eY Zc.o 1).trans rfl, (eY Zc.o 2).trans rfl, (eY Zc.o 3).trans rfl⟩ (fun hHeld => ?_)
        clear hK K
        refine jV (a' := ?_) ?_ ?_
        rotate_left
        ·show gE _ (some 53) _ = _
         simp only [gE, zs, zz, zt, iQ, jF]
         rfl
        refine gR (i := 4) (N := some 49) #[tt, tt, tt, tt, tt, ff, ff, ff] rfl rfl (gD HT_.o zk) (fun _ _ _ h => h) (.inl ⟨by rfl, zi⟩) zu ?_
        refine gR (i := 5) (N := some 54) #[tt, tt, tt, tt, tt, tt, ff, ff] rfl rfl (gD HT_.o zk) (fun _ _ _ h => h) (.inl ⟨by rfl, zi⟩) zu ?_
        refine gR (i := 6) (N := some 55) #[tt, tt, tt, tt, tt, tt, tt, ff] rfl rfl (gD HT_.o zk) (fun _ _ _ h => h) (.inl ⟨by rfl, zi⟩) zu ?_
        refine last_ (i := 7) (N := none) #[tt, tt, tt, tt, tt, tt, tt, tt] rfl rfl (iS HT_.o zk) (by decide) (fun K hK => ?_)
        have AI : p7.cell? ⟨c, 0, none⟩ = some (.slice h7 d.length h8) := (eY Zc.o 0).trans rfl
        have X7 := gL Zc.o 0; have P1 := Zi.o; have P2 := Zl.o
        have AJ : p7.cell? ⟨c, 1, none⟩ = some (.slice u a.length x) := (eY Zc.o 1).trans rfl
        have X8 := gL Zc.o 1; have P3 := Zi.o; have P4 := Zl.o
        have AK : p7.cell? ⟨c, 2, none⟩ = some (.slice h9 j.length i0) := (eY Zc.o 2).trans rfl
        have X9 := gL Zc.o 2; have P5 := Zi.o; have P6 := Zl.o
        have AL : p7.cell? ⟨c, 3, none⟩ = some (.slice i1 l.length i2) := (eY Zc.o 3).trans rfl
        have Y0 := gL Zc.o 3; have P7 := Zi.o; have P8 := Zl.o
        refine skip_ (w1 := ?_) (by rfl) rfl ?_ ?_
        rotate_left
        ·go_simp
         rfl
        refine hK.out _ _ ?_
        clear hK K
        refine done_ (mE HT_.o zk) ?_
        try go_wp2
        go_roundg a9
        case measure => have := HJ4.o; have := b3.o; have := HJ35.o; omega
        case rel => exact ⟨(wrap64 (b7 - 1)), (v0), (v1), (m1), (m2), (m3), (m4), (.slice I9 m1.length J0), (.slice J1 m2.length J2), (.slice J3 m3.length J4), (.slice J5 m4.length J6), zr, H', ⟨by have := HJ4.o; have := b3.o; have := HJ35.o; omega⟩, ⟨eX (zR4 (fD Zy.o Zc.o (by decide))) (fun _ hk => ⟨hk.1.1.1.1.1, ⟨hk.1.1.1.1.2.1, hk.1.1.1.1.2.2⟩⟩)⟩, ⟨eX (zR4 (fD Zz.o Zc.o (by decide))) (fun _ hk => ⟨hk.1.1.1.1.1, ⟨hk.1.1.1.1.2.1, hk.1.1.1.1.2.2⟩⟩)⟩, ⟨fN (zN4 (fN ZA.o (fun k_ hk => (⟨hk, hk.2.2.2.2.2.2.2.2.2.1⟩ : _ ∧ k_ ≠ c)))) (fun _ hk => ⟨hk.1.1, ⟨hk.1.2.1, ⟨hk.1.2.2.1, ⟨hk.1.2.2.2.1, ⟨hk.1.2.2.2.2.2.2.2.2.1, ⟨hk.1.2.2.2.2.2.2.2.2.2.1, hk.1.2.2.2.2.2.2.2.2.2.2⟩⟩⟩⟩⟩⟩)⟩, ⟨eX (zR4 (fD ZB.o Zc.o (by decide))) (fun _ hk => ⟨hk.1.1.1.1.1, ⟨hk.1.1.1.1.2.1, hk.1.1.1.1.2.2⟩⟩)⟩, ⟨by exact zfar4 Zh.o Zi.o⟩, ⟨by exact zput4 Zc.o⟩, ⟨zg_20 b.o Zg.o Zf.o⟩, ⟨zg_21 HK.o Zj.o Zk.o⟩, ⟨zg_22 HB.o b.o Zn.o Zo.o⟩⟩
       rw [if_neg h6] at H
       have C1 : (C == 0) = false := beq_eq_false_iff_ne.mpr h6
       have C2 : (C != 0) = true := bne_iff_ne.mpr h6
       by_cases i3 : C = 1
       ·rw [if_pos i3] at H
        have C3 : (C == 1) = true := beq_iff_eq.mpr i3
        have C4 : (C != 1) = false := bne_eq_false_iff_eq.mpr i3
        clear i3; replace H := eW.mp H
        obtain ⟨⟨m5, w5, x0⟩, x1, H⟩ := H
        try dsimp only at H
        have T0 := zm x1; clear x1; replace H := eW.mp H
        obtain ⟨⟨m6, m7, m8, m9, J7⟩, x2, H⟩ := H
        try dsimp only at H
        have T1 := zm x2; clear x2
        have H' := zm H
        clear H
        try go_wp2_with (first | ((with_reducible refine fJ (f := 29) rfl ?_); refine gU (some 34) rfl rfl jI (by kernel_rfl) rfl #[.pointer (some ⟨g, 0, none⟩), .int .i64 9] rfl zq ?_; (with_reducible refine (aD.calls g q r s 9 C U V y _ ?_ ?_ f2.o).mono ?_); exact (zg_20 b.o Zg.o Zf.o); exact (zg_22 HB.o b.o Zn.o Zo.o); rintro e T2 ⟨rfl, hi, hb, hk⟩; refine ⟨_, rfl, ?_⟩; refine zG9 (eX (hG (IsS62.apart (show IsS62 y _ g q r s from zg_20 b.o Zg.o Zf.o) (zg_6 Za.o) (by decide)) hk (fun _ h => h.2)) (fun _ h => h.1)) (eX (hG (IsS62.apart (show IsS62 y _ g q r s from zg_20 b.o Zg.o Zf.o) (zg_6 Zd.o) (by decide)) hk (fun _ h => h.2)) (fun _ h => h.1)) (fN (lD (fN (ok := fun k_ => (((w.heap.size ≤ k_)) ∧ (some k_ ≠ ob u581000 ∧ (some k_ ≠ ob (.slice u a.length x) ∧ (some k_ ≠ ob u581003 ∧ (k_ ≠ m ∧ (k_ ≠ c ∧ k_ ≠ g))))))) (zg_4 Ze.o) (fun k_ hk_ => (⟨hk_, hk_.2.2.2.2.2.2⟩ : _ ∧ k_ ≠ g))) hk (fun _ h => h.2)) (fun _ h => h.1)) (eX (hG (IsS62.apart (show IsS62 y _ g q r s from zg_20 b.o Zg.o Zf.o) (zg_6 Zb.o) (by decide)) hk (fun _ h => h.2)) (fun _ h => h.1)) (hQ hk (g' := m) (o := .cells #[.slice none 0 0, .slice none 0 0, .slice none 0 0, .slice none 0 0] 31 (0, 0)) (zg_3 Zh.o) Zp.o (by simp)) (hQ hk (g' := c) (o := .cells #[u581000, .slice u a.length x, u581002, u581003] 31 (0, 0)) (zg_3 Zc.o) Zm.o (by simp)) (gS (zg_21 HK.o Zj.o Zk.o) hk (.inl rfl)) (hb) (hi) ?_; clear Za Zd Ze Zb Zh Zc HK HB b; intro Za Zd Ze Zb Zh Zc HK HB b; (try clear hb); (try clear hb2); (try clear hk); (try clear hi)))
        have D := zm (fK Za.o); have E := zm (fK Zd.o); have F := zm (jR Ze.o); have G := zm (fK Zb.o); have I := zm (fU Zh.o); have J := zm (fU Zc.o); have L := zm (IsS62.drew b.o); have O := zm (nR HK.o); have T := zm (gA HB.o); clear Za; clear Zd; clear Ze; clear Zb; clear Zh; clear Zc; clear b; clear HK; clear HB; have Za := D; have Zd := E; have Ze := F; have Zb := G; have Zh := I; have Zc := J; have b := L; have HK := O; have HB := T; clear D E F G I J L O T
        refine mP (n := 8) (S := fun w' => w'.cell? ⟨c, 0, none⟩ = some (u581000) ∧ w'.cell? ⟨c, 1, none⟩ = some (.slice u a.length x) ∧ w'.cell? ⟨c, 2, none⟩ = some (u581002) ∧ w'.cell? ⟨c, 3, none⟩ = some (u581003)) (ds := [7]) #[ff, ff, ff, ff, ff, ff, ff, ff] (by kernel_rfl) rfl rfl ⟨(eY Zc.o 0).trans rfl, (eY Zc.o 1).trans rfl, (eY Zc.o 2).trans rfl, (eY Zc.o 3).trans rfl⟩ (fun hHeld => ?_); refine kJ aA.tab16 aA.bits16 (fun HT_ HW_ => ?_)
        generalize T2.drew = BS at Za Zd Ze Zb Zh Zc b HK HB hHeld ⊢
        refine gR (i := 1) (N := some 60) #[ff, tt, ff, ff, ff, ff, ff, ff] rfl rfl (gD HT_.o zk) (fun _ _ _ h => h) (.inl ⟨by rfl, zi⟩) zu ?_
        refine take_ (i := 0) (N := some 59) #[tt, tt, ff, ff, ff, ff, ff, ff] rfl rfl (hZ HT_.o HW_.o zk) (fun _ _ _ h => h) (.inl ⟨by rfl, zi4⟩) hHeld zu ?_
        refine one_ (i := 2) (N := some 61) #[tt, tt, tt, ff, ff, ff, ff, ff] rfl rfl (iS HT_.o zk) (by decide) (fun K hK => ?_)
        refine mR Tryz.func33 (by kernel_rfl) rfl #[.pointer (some ⟨g, 0, none⟩)] (by rfl) rfl rfl zq ?_
        with_reducible refine (bO.calls g q U V m5 w5 x0 y _ ?side1 ?side2 T0.o).mono ?_
        (case side1 => exact (zg_20 b.o Zg.o Zf.o))
        (case side2 => exact (zg_22 HB.o b.o Zn.o Zo.o))
        rintro e BT ⟨rfl, hi, hb, hk⟩
        refine ⟨_, rfl, ?_⟩
        have D := zm (eX (hG (IsS62.apart (show IsS62 y _ g q U V from zg_20 b.o Zg.o Zf.o) (zg_6 Za.o) (by decide)) hk (fun _ h => h.2)) (fun _ h => h.1)); have E := zm (eX (hG (IsS62.apart (show IsS62 y _ g q U V from zg_20 b.o Zg.o Zf.o) (zg_6 Zd.o) (by decide)) hk (fun _ h => h.2)) (fun _ h => h.1)); have F := zm (fN (lD (fN (ok := fun k_ => (((w.heap.size ≤ k_)) ∧ (some k_ ≠ ob u581000 ∧ (some k_ ≠ ob (.slice u a.length x) ∧ (some k_ ≠ ob u581003 ∧ (k_ ≠ m ∧ (k_ ≠ c ∧ k_ ≠ g))))))) (zg_4 Ze.o) (fun k_ hk_ => (⟨hk_, hk_.2.2.2.2.2.2⟩ : _ ∧ k_ ≠ g))) hk (fun _ h => h.2)) (fun _ h => h.1)); have G := zm (eX (hG (IsS62.apart (show IsS62 y _ g q U V from zg_20 b.o Zg.o Zf.o) (zg_6 Zb.o) (by decide)) hk (fun _ h => h.2)) (fun _ h => h.1)); have I := zm (hQ hk (g' := m) (o := .cells #[.slice none 0 0, .slice none 0 0, .slice none 0 0, .slice none 0 0] 31 (0, 0)) (zg_3 Zh.o) Zp.o (by simp)); have J := zm (hQ hk (g' := c) (o := .cells #[u581000, .slice u a.length x, u581002, u581003] 31 (0, 0)) (zg_3 Zc.o) Zm.o (by simp)); have L := zm (gS (zg_21 HK.o Zj.o Zk.o) hk (.inl rfl)); have O := zm (hb); have T := zm (hi); clear Za; clear Zd; clear Ze; clear Zb; clear Zh; clear Zc; clear HK; clear HB; clear b; have Za := D; have Zd := E; have Ze := F; have Zb := G; have Zh := I; have Zc := J; have HK := L; have HB := O; have b := T; clear D E F G I J L O T
        (try clear hb)
        (try clear hb2)
        (try clear hk)
        (try clear hi)
        obtain ⟨i4, i5, x3⟩ := fA Za.o
        (first | subst x3 | (injection x3 with f1_ f2_ f3_; have f4_ := f1_.symm; have f5_ := f3_.symm; clear f1_ f2_ f3_; subst f4_; subst f5_))
        obtain ⟨i6, i7, x6⟩ := iR Ze.o
        (first | subst x6 | (injection x6 with f1_ f2_ f3_; have f4_ := f1_.symm; have f5_ := f3_.symm; clear f1_ f2_ f3_; subst f4_; subst f5_))
        obtain ⟨i8, i9, x7⟩ := fA Zb.o
        (first | subst x7 | (injection x7 with f1_ f2_ f3_; have f4_ := f1_.symm; have f5_ := f3_.symm; clear f1_ f2_ f3_; subst f4_; subst f5_))
        refine hK.out _ _ ⟨(eY Zc.o 0).trans rfl, (eY Zc.o 1).trans rfl, (eY Zc.o 2).trans rfl, (eY Zc.o 3).trans rfl⟩ (fun hHeld => ?_)
        clear hK K
        refine jV (a' := ?_) ?_ ?_
        rotate_left
        ·show gE _ (some 61) _ = _
         simp only [gE, zs, zz, zt, iQ, jF]
         rfl
        refine one_ (i := 3) (N := some 62) #[tt, tt, tt, tt, ff, ff, ff, ff] rfl rfl (iS HT_.o zk) (by decide) (fun K hK => ?_)
        refine mR Tryz.func34 (by kernel_rfl) rfl #[.agg #[.slice i4 d.length i5, .slice u a.length x, .slice i6 j.length i7, .slice i8 l.length i9], .string m5] (by rfl) rfl rfl zq ?_
        with_reducible refine (aK.calls a9 _ _ d _ _ a _ _ j _ _ l m5 m6 m7 m8 m9 J7 _ ?side1 ?side2 ?side3 ?side4 ?side5 ?side6 ?side7 ?side8 T1.o).mono ?_
        (case side1 => exact zC ((fC Za.o).2.2))
        (case side2 => exact (fC Za.o).2.1)
        (case side3 => exact zC ((fC Zd.o).2.2))
        (case side4 => exact (fC Zd.o).2.1)
        (case side5 => exact zC ((gZ Ze.o).2.2))
        (case side6 => exact (gZ Ze.o).2.1)
        (case side7 => exact zC ((fC Zb.o).2.2))
        (case side8 => exact (fC Zb.o).2.1)
        rintro e p8 ⟨n0, n1, AM, n2, rfl, z, A, X, B, hb⟩
        refine ⟨_, rfl, ?_⟩
        have D := zm (eX (gK (gK (gK (kH (zg_6 Za.o) hb) (fH z)) (fH A)) (fH B)) (fun _ h_ => h_.1)); have E := zm (eX (gK (gK (gK (kH (zg_6 Zd.o) hb) (fH z)) (fH A)) (fH B)) (fun _ h_ => h_.1)); have F := zm (fN (iC (iC (iC (iC (nM (zg_4 Ze.o) hb) (fH z)) (fH A)) (lA X)) (fH B)) (fun _ h_ => h_.1)); have G := zm (eX (gK (gK (gK (kH (zg_6 Zb.o) hb) (fH z)) (fH A)) (fH B)) (fun _ h_ => h_.1)); have I := zm (fL (fT (fT (fT (iM (M := fun k_ => (w.heap.size ≤ k_)) (eX (ok' := fun k_ => some k_ ≠ ob n1 ∧ some k_ ≠ ob n2) z (fun _ hk_ => hk_.2)) (gI (w := w) (g := g) (row := none) (zg_21 HK.o Zj.o Zk.o)) (fun k_ h_ => h_)) (fO (zg_6 Za.o))) (fO (zg_6 Zd.o))) (fO (zg_6 Zb.o))) (gI (w := w) (g := g) (row := none) (zg_21 HK.o Zj.o Zk.o))); have J := zm (fL (fT (fT (fT (iM (M := fun k_ => (w.heap.size ≤ k_)) (eX (ok' := fun k_ => some k_ ≠ ob n0 ∧ some k_ ≠ ob n2) A (fun _ hk_ => hk_.2)) (gI (w := w) (g := g) (row := none) (zg_21 HK.o Zj.o Zk.o)) (fun k_ h_ => h_)) (fO (zg_6 Za.o))) (fO (zg_6 Zd.o))) (fO (zg_6 Zb.o))) (gI (w := w) (g := g) (row := none) (zg_21 HK.o Zj.o Zk.o))); have L := zm (jK (fN (ok' := fun k_ => (w.heap.size ≤ k_) ∧ some k_ ≠ ob n0 ∧ some k_ ≠ ob n1 ∧ some k_ ≠ ob n2 ∧ some k_ ≠ ob (.slice i4 d.length i5) ∧ some k_ ≠ ob (.slice u a.length x) ∧ some k_ ≠ ob (.slice i6 j.length i7) ∧ some k_ ≠ ob (.slice i8 l.length i9) ∧ k_ ≠ m ∧ k_ ≠ c ∧ k_ ≠ g) X (fun k_ hk_ => ⟨(hU (gI (w := w) (g := g) (row := none) (zg_21 HK.o Zj.o Zk.o)) hk_.1), hk_.2.1, hk_.2.2.1, hk_.2.2.2, (gF (fO (zg_6 Za.o)) k_ hk_.1), (gF (fO (zg_6 Zd.o)) k_ hk_.1), (gF (nV (zg_4 Ze.o)) k_ hk_.1), (gF (fO (zg_6 Zb.o)) k_ hk_.1), (iB (g := m) (o := .cells #[.slice none 0 0, .slice none 0 0, .slice none 0 0, .slice none 0 0] 31 (0, 0)) (zg_3 Zh.o) k_ hk_.1), (iB (g := c) (o := .cells #[.slice i4 d.length i5, .slice u a.length x, .slice i6 j.length i7, .slice i8 l.length i9] 31 (0, 0)) (zg_3 Zc.o) k_ hk_.1), (IsS62.fresh (zg_20 b.o Zg.o Zf.o) k_ hk_.1)⟩)) (gI (w := w) (g := g) (row := none) (zg_21 HK.o Zj.o Zk.o))); have O := zm (fL (fT (fT (fT (iM (M := fun k_ => (w.heap.size ≤ k_)) (eX (ok' := fun k_ => some k_ ≠ ob n0 ∧ some k_ ≠ ob n1) B (fun _ hk_ => hk_.2)) (gI (w := w) (g := g) (row := none) (zg_21 HK.o Zj.o Zk.o)) (fun k_ h_ => h_)) (fO (zg_6 Za.o))) (fO (zg_6 Zd.o))) (fO (zg_6 Zb.o))) (gI (w := w) (g := g) (row := none) (zg_21 HK.o Zj.o Zk.o))); have T := zm (fB (g := m) (o := .cells #[.slice none 0 0, .slice none 0 0, .slice none 0 0, .slice none 0 0] 31 (0, 0)) (zg_3 Zh.o) hb); have c6 := zm (fB (g := c) (o := .cells #[.slice i4 d.length i5, .slice u a.length x, .slice i6 j.length i7, .slice i8 l.length i9] 31 (0, 0)) (zg_3 Zc.o) hb); have b0 := zm (IsS62.below (zg_20 b.o Zg.o Zf.o) hb); have b1 := zm (gS (zg_21 HK.o Zj.o Zk.o) (jO hb g none) (.inl rfl)); have b2 := zm (eZ (zg_22 HB.o b.o Zn.o Zo.o) hb); clear Za; clear Zd; clear Ze; clear Zb; clear Zh; clear Zc; clear b; clear HK; clear HB; have Za := D; have Zd := E; have Ze := F; have Zb := G; have ZC := I; have ZD := J; have ZE := L; have ZF := O; have Zh := T; have Zc := c6; have b := b0; have HK := b1; have HB := b2; clear D E F G I J L O T c6 b0 b1 b2
        (try clear hb)
        (try clear hb2)
        (try clear hk)
        (try clear hi)
        (try clear z)
        (try clear A)
        (try clear X)
        (try clear B)
        obtain ⟨J8, J9, x8⟩ := fA ZC.o
        (first | subst x8 | (injection x8 with f1_ f2_ f3_; have f4_ := f1_.symm; have f5_ := f3_.symm; clear f1_ f2_ f3_; subst f4_; subst f5_))
        obtain ⟨K0, K1, x9⟩ := fA ZD.o
        (first | subst x9 | (injection x9 with f1_ f2_ f3_; have f4_ := f1_.symm; have f5_ := f3_.symm; clear f1_ f2_ f3_; subst f4_; subst f5_))
        obtain ⟨K2, K3, y0⟩ := iR ZE.o
        (first | subst y0 | (injection y0 with f1_ f2_ f3_; have f4_ := f1_.symm; have f5_ := f3_.symm; clear f1_ f2_ f3_; subst f4_; subst f5_))
        obtain ⟨K4, K5, y1⟩ := fA ZF.o
        (first | subst y1 | (injection y1 with f1_ f2_ f3_; have f4_ := f1_.symm; have f5_ := f3_.symm; clear f1_ f2_ f3_; subst f4_; subst f5_))
        refine hK.out _ _ ⟨(eY Zc.o 0).trans rfl, (eY Zc.o 1).trans rfl, (eY Zc.o 2).trans rfl, (eY Zc.o 3).trans rfl⟩ (fun hHeld => ?_)
        clear hK K
        refine jV (a' := ?_) ?_ ?_
        rotate_left
        ·show gE _ (some 62) _ = _
         simp only [gE, zs, zz, zt, iQ, jF]
         rfl
        refine gR (i := 4) (N := some 58) #[tt, tt, tt, tt, tt, ff, ff, ff] rfl rfl (gD HT_.o zk) (fun _ _ _ h => h) (.inl ⟨by rfl, zi⟩) zu ?_
        refine gR (i := 5) (N := some 63) #[tt, tt, tt, tt, tt, tt, ff, ff] rfl rfl (gD HT_.o zk) (fun _ _ _ h => h) (.inl ⟨by rfl, zi⟩) zu ?_
        refine gR (i := 6) (N := some 64) #[tt, tt, tt, tt, tt, tt, tt, ff] rfl rfl (gD HT_.o zk) (fun _ _ _ h => h) (.inl ⟨by rfl, zi⟩) zu ?_
        refine last_ (i := 7) (N := none) #[tt, tt, tt, tt, tt, tt, tt, tt] rfl rfl (iS HT_.o zk) (by decide) (fun K hK => ?_)
        have AN : p8.cell? ⟨c, 0, none⟩ = some (.slice i4 d.length i5) := (eY Zc.o 0).trans rfl
        have Y1 := gL Zc.o 0; have P9 := Zi.o; have Q0 := Zl.o
        have AO : p8.cell? ⟨c, 1, none⟩ = some (.slice u a.length x) := (eY Zc.o 1).trans rfl
        have Y2 := gL Zc.o 1; have Q1 := Zi.o; have Q2 := Zl.o
        have AP : p8.cell? ⟨c, 2, none⟩ = some (.slice i6 j.length i7) := (eY Zc.o 2).trans rfl
        have Y3 := gL Zc.o 2; have Q3 := Zi.o; have Q4 := Zl.o
        have AQ : p8.cell? ⟨c, 3, none⟩ = some (.slice i8 l.length i9) := (eY Zc.o 3).trans rfl
        have Y4 := gL Zc.o 3; have Q5 := Zi.o; have Q6 := Zl.o
        refine skip_ (w1 := ?_) (by rfl) rfl ?_ ?_
        rotate_left
        ·go_simp
         rfl
        refine hK.out _ _ ?_
        clear hK K
        refine done_ (mE HT_.o zk) ?_
        try go_wp2
        go_roundg a9
        case measure => have := HJ4.o; have := b3.o; have := HJ35.o; omega
        case rel => exact ⟨(wrap64 (b7 - 1)), (w5), (x0), (m6), (m7), (m8), (m9), (.slice J8 m6.length J9), (.slice K0 m7.length K1), (.slice K2 m8.length K3), (.slice K4 m9.length K5), zr, H', ⟨by have := HJ4.o; have := b3.o; have := HJ35.o; omega⟩, ⟨eX (zR4 (fD ZC.o Zc.o (by decide))) (fun _ hk => ⟨hk.1.1.1.1.1, ⟨hk.1.1.1.1.2.1, hk.1.1.1.1.2.2⟩⟩)⟩, ⟨eX (zR4 (fD ZD.o Zc.o (by decide))) (fun _ hk => ⟨hk.1.1.1.1.1, ⟨hk.1.1.1.1.2.1, hk.1.1.1.1.2.2⟩⟩)⟩, ⟨fN (zN4 (fN ZE.o (fun k_ hk => (⟨hk, hk.2.2.2.2.2.2.2.2.2.1⟩ : _ ∧ k_ ≠ c)))) (fun _ hk => ⟨hk.1.1, ⟨hk.1.2.1, ⟨hk.1.2.2.1, ⟨hk.1.2.2.2.1, ⟨hk.1.2.2.2.2.2.2.2.2.1, ⟨hk.1.2.2.2.2.2.2.2.2.2.1, hk.1.2.2.2.2.2.2.2.2.2.2⟩⟩⟩⟩⟩⟩)⟩, ⟨eX (zR4 (fD ZF.o Zc.o (by decide))) (fun _ hk => ⟨hk.1.1.1.1.1, ⟨hk.1.1.1.1.2.1, hk.1.1.1.1.2.2⟩⟩)⟩, ⟨by exact zfar4 Zh.o Zi.o⟩, ⟨by exact zput4 Zc.o⟩, ⟨zg_20 b.o Zg.o Zf.o⟩, ⟨zg_21 HK.o Zj.o Zk.o⟩, ⟨zg_22 HB.o b.o Zn.o Zo.o⟩⟩
       rw [if_neg i3] at H
       have C3 : (C == 1) = false := beq_eq_false_iff_ne.mpr i3
       have C4 : (C != 1) = true := bne_iff_ne.mpr i3
       by_cases j1 : C = 2
       ·rw [if_pos j1] at H
        have C5 : (C == 2) = true := beq_iff_eq.mpr j1
        have C6 : (C != 2) = false := bne_eq_false_iff_eq.mpr j1
        clear j1; replace H := eW.mp H
        obtain ⟨⟨n3, y2, y3⟩, y4, H⟩ := H
        try dsimp only at H
        have T3 := zm y4; clear y4; replace H := eW.mp H
        obtain ⟨⟨n4, n5, n6, n7, K6⟩, y5, H⟩ := H
        try dsimp only at H
        have T4 := zm y5; clear y5
        have H' := zm H
        clear H
        try go_wp2_with (first | ((with_reducible refine fJ (f := 29) rfl ?_); refine gU (some 34) rfl rfl jI (by kernel_rfl) rfl #[.pointer (some ⟨g, 0, none⟩), .int .i64 9] rfl zq ?_; (with_reducible refine (aD.calls g q r s 9 C U V y _ ?_ ?_ f2.o).mono ?_); exact (zg_20 b.o Zg.o Zf.o); exact (zg_22 HB.o b.o Zn.o Zo.o); rintro e T5 ⟨rfl, hi, hb, hk⟩; refine ⟨_, rfl, ?_⟩; refine zG9 (eX (hG (IsS62.apart (show IsS62 y _ g q r s from zg_20 b.o Zg.o Zf.o) (zg_6 Za.o) (by decide)) hk (fun _ h => h.2)) (fun _ h => h.1)) (eX (hG (IsS62.apart (show IsS62 y _ g q r s from zg_20 b.o Zg.o Zf.o) (zg_6 Zd.o) (by decide)) hk (fun _ h => h.2)) (fun _ h => h.1)) (fN (lD (fN (ok := fun k_ => (((w.heap.size ≤ k_)) ∧ (some k_ ≠ ob u581000 ∧ (some k_ ≠ ob (.slice u a.length x) ∧ (some k_ ≠ ob u581003 ∧ (k_ ≠ m ∧ (k_ ≠ c ∧ k_ ≠ g))))))) (zg_4 Ze.o) (fun k_ hk_ => (⟨hk_, hk_.2.2.2.2.2.2⟩ : _ ∧ k_ ≠ g))) hk (fun _ h => h.2)) (fun _ h => h.1)) (eX (hG (IsS62.apart (show IsS62 y _ g q r s from zg_20 b.o Zg.o Zf.o) (zg_6 Zb.o) (by decide)) hk (fun _ h => h.2)) (fun _ h => h.1)) (hQ hk (g' := m) (o := .cells #[.slice none 0 0, .slice none 0 0, .slice none 0 0, .slice none 0 0] 31 (0, 0)) (zg_3 Zh.o) Zp.o (by simp)) (hQ hk (g' := c) (o := .cells #[u581000, .slice u a.length x, u581002, u581003] 31 (0, 0)) (zg_3 Zc.o) Zm.o (by simp)) (gS (zg_21 HK.o Zj.o Zk.o) hk (.inl rfl)) (hb) (hi) ?_; clear Za Zd Ze Zb Zh Zc HK HB b; intro Za Zd Ze Zb Zh Zc HK HB b; (try clear hb); (try clear hb2); (try clear hk); (try clear hi)))
        have D := zm (fK Za.o); have E := zm (fK Zd.o); have F := zm (jR Ze.o); have G := zm (fK Zb.o); have I := zm (fU Zh.o); have J := zm (fU Zc.o); have L := zm (IsS62.drew b.o); have O := zm (nR HK.o); have T := zm (gA HB.o); clear Za; clear Zd; clear Ze; clear Zb; clear Zh; clear Zc; clear b; clear HK; clear HB; have Za := D; have Zd := E; have Ze := F; have Zb := G; have Zh := I; have Zc := J; have b := L; have HK := O; have HB := T; clear D E F G I J L O T
        refine mP (n := 8) (S := fun w' => w'.cell? ⟨c, 0, none⟩ = some (u581000) ∧ w'.cell? ⟨c, 1, none⟩ = some (.slice u a.length x) ∧ w'.cell? ⟨c, 2, none⟩ = some (u581002) ∧ w'.cell? ⟨c, 3, none⟩ = some (u581003)) (ds := [7]) #[ff, ff, ff, ff, ff, ff, ff, ff] (by kernel_rfl) rfl rfl ⟨(eY Zc.o 0).trans rfl, (eY Zc.o 1).trans rfl, (eY Zc.o 2).trans rfl, (eY Zc.o 3).trans rfl⟩ (fun hHeld => ?_); refine kJ aA.tab18 aA.bits18 (fun HT_ HW_ => ?_)
        generalize T5.drew = BU at Za Zd Ze Zb Zh Zc b HK HB hHeld ⊢
        refine gR (i := 1) (N := some 69) #[ff, tt, ff, ff, ff, ff, ff, ff] rfl rfl (gD HT_.o zk) (fun _ _ _ h => h) (.inl ⟨by rfl, zi⟩) zu ?_
        refine take_ (i := 0) (N := some 68) #[tt, tt, ff, ff, ff, ff, ff, ff] rfl rfl (hZ HT_.o HW_.o zk) (fun _ _ _ h => h) (.inl ⟨by rfl, zi4⟩) hHeld zu ?_
        refine one_ (i := 2) (N := some 70) #[tt, tt, tt, ff, ff, ff, ff, ff] rfl rfl (iS HT_.o zk) (by decide) (fun K hK => ?_)
        refine mR Tryz.func33 (by kernel_rfl) rfl #[.pointer (some ⟨g, 0, none⟩)] (by rfl) rfl rfl zq ?_
        with_reducible refine (bO.calls g q U V n3 y2 y3 y _ ?side1 ?side2 T3.o).mono ?_
        (case side1 => exact (zg_20 b.o Zg.o Zf.o))
        (case side2 => exact (zg_22 HB.o b.o Zn.o Zo.o))
        rintro e BV ⟨rfl, hi, hb, hk⟩
        refine ⟨_, rfl, ?_⟩
        have D := zm (eX (hG (IsS62.apart (show IsS62 y _ g q U V from zg_20 b.o Zg.o Zf.o) (zg_6 Za.o) (by decide)) hk (fun _ h => h.2)) (fun _ h => h.1)); have E := zm (eX (hG (IsS62.apart (show IsS62 y _ g q U V from zg_20 b.o Zg.o Zf.o) (zg_6 Zd.o) (by decide)) hk (fun _ h => h.2)) (fun _ h => h.1)); have F := zm (fN (lD (fN (ok := fun k_ => (((w.heap.size ≤ k_)) ∧ (some k_ ≠ ob u581000 ∧ (some k_ ≠ ob (.slice u a.length x) ∧ (some k_ ≠ ob u581003 ∧ (k_ ≠ m ∧ (k_ ≠ c ∧ k_ ≠ g))))))) (zg_4 Ze.o) (fun k_ hk_ => (⟨hk_, hk_.2.2.2.2.2.2⟩ : _ ∧ k_ ≠ g))) hk (fun _ h => h.2)) (fun _ h => h.1)); have G := zm (eX (hG (IsS62.apart (show IsS62 y _ g q U V from zg_20 b.o Zg.o Zf.o) (zg_6 Zb.o) (by decide)) hk (fun _ h => h.2)) (fun _ h => h.1)); have I := zm (hQ hk (g' := m) (o := .cells #[.slice none 0 0, .slice none 0 0, .slice none 0 0, .slice none 0 0] 31 (0, 0)) (zg_3 Zh.o) Zp.o (by simp)); have J := zm (hQ hk (g' := c) (o := .cells #[u581000, .slice u a.length x, u581002, u581003] 31 (0, 0)) (zg_3 Zc.o) Zm.o (by simp)); have L := zm (gS (zg_21 HK.o Zj.o Zk.o) hk (.inl rfl)); have O := zm (hb); have T := zm (hi); clear Za; clear Zd; clear Ze; clear Zb; clear Zh; clear Zc; clear HK; clear HB; clear b; have Za := D; have Zd := E; have Ze := F; have Zb := G; have Zh := I; have Zc := J; have HK := L; have HB := O; have b := T; clear D E F G I J L O T
        (try clear hb)
        (try clear hb2)
        (try clear hk)
        (try clear hi)
        obtain ⟨j3, j4, y6⟩ := fA Za.o
        (first | subst y6 | (injection y6 with f1_ f2_ f3_; have f4_ := f1_.symm; have f5_ := f3_.symm; clear f1_ f2_ f3_; subst f4_; subst f5_))
        obtain ⟨j5, j6, y7⟩ := iR Ze.o
        (first | subst y7 | (injection y7 with f1_ f2_ f3_; have f4_ := f1_.symm; have f5_ := f3_.symm; clear f1_ f2_ f3_; subst f4_; subst f5_))
        obtain ⟨j7, j8, y8⟩ := fA Zb.o
        (first | subst y8 | (injection y8 with f1_ f2_ f3_; have f4_ := f1_.symm; have f5_ := f3_.symm; clear f1_ f2_ f3_; subst f4_; subst f5_))
        refine hK.out _ _ ⟨(eY Zc.o 0).trans rfl, (eY Zc.o 1).trans rfl, (eY Zc.o 2).trans rfl, (eY Zc.o 3).trans rfl⟩ (fun hHeld => ?_)
        clear hK K
        refine jV (a' := ?_) ?_ ?_
        rotate_left
        ·show gE _ (some 70) _ = _
         simp only [gE, zs, zz, zt, iQ, jF]
         rfl
        refine one_ (i := 3) (N := some 71) #[tt, tt, tt, tt, ff, ff, ff, ff] rfl rfl (iS HT_.o zk) (by decide) (fun K hK => ?_)
        refine mR Tryz.func35 (by kernel_rfl) rfl #[.agg #[.slice j3 d.length j4, .slice u a.length x, .slice j5 j.length j6, .slice j7 l.length j8], .string n3] (by rfl) rfl rfl zq ?_
        with_reducible refine (aM.calls a9 _ _ d _ _ a _ _ j _ _ l n3 n4 n5 n6 n7 K6 _ ?side1 ?side2 ?side3 ?side4 ?side5 ?side6 ?side7 ?side8 T4.o).mono ?_
        (case side1 => exact zC ((fC Za.o).2.2))
        (case side2 => exact (fC Za.o).2.1)
        (case side3 => exact zC ((fC Zd.o).2.2))
        (case side4 => exact (fC Zd.o).2.1)
        (case side5 => exact zC ((gZ Ze.o).2.2))
        (case side6 => exact (gZ Ze.o).2.1)
        (case side7 => exact zC ((fC Zb.o).2.2))
        (case side8 => exact (fC Zb.o).2.1)
        rintro e p9 ⟨K7, K8, AR, K9, rfl, z, A, X, B, hb⟩
        refine ⟨_, rfl, ?_⟩
        have D := zm (eX (gK (gK (gK (kH (zg_6 Za.o) hb) (fH z)) (fH A)) (fH B)) (fun _ h_ => h_.1)); have E := zm (eX (gK (gK (gK (kH (zg_6 Zd.o) hb) (fH z)) (fH A)) (fH B)) (fun _ h_ => h_.1)); have F := zm (fN (iC (iC (iC (iC (nM (zg_4 Ze.o) hb) (fH z)) (fH A)) (lA (mG X))) (fH B)) (fun _ h_ => h_.1)); have G := zm (eX (gK (gK (gK (kH (zg_6 Zb.o) hb) (fH z)) (fH A)) (fH B)) (fun _ h_ => h_.1)); have I := zm (fL (fT (fT (fT (iM (M := fun k_ => (w.heap.size ≤ k_)) z (gI (w := w) (g := g) (row := none) (zg_21 HK.o Zj.o Zk.o)) (fun k_ h_ => h_)) (fO (zg_6 Za.o))) (fO (zg_6 Zd.o))) (fO (zg_6 Zb.o))) (gI (w := w) (g := g) (row := none) (zg_21 HK.o Zj.o Zk.o))); have J := zm (fL (fT (fT (fT (iM (M := fun k_ => (w.heap.size ≤ k_)) A (gI (w := w) (g := g) (row := none) (zg_21 HK.o Zj.o Zk.o)) (fun k_ h_ => h_)) (fO (zg_6 Za.o))) (fO (zg_6 Zd.o))) (fO (zg_6 Zb.o))) (gI (w := w) (g := g) (row := none) (zg_21 HK.o Zj.o Zk.o))); have L := zm (jK (fN (ok' := fun k_ => (w.heap.size ≤ k_) ∧ some k_ ≠ ob K7 ∧ some k_ ≠ ob K8 ∧ some k_ ≠ ob K9 ∧ some k_ ≠ ob (.slice j3 d.length j4) ∧ some k_ ≠ ob (.slice u a.length x) ∧ some k_ ≠ ob (.slice j5 j.length j6) ∧ some k_ ≠ ob (.slice j7 l.length j8) ∧ k_ ≠ m ∧ k_ ≠ c ∧ k_ ≠ g) (mG (kD X)) (fun k_ hk_ => ⟨(hU (gI (w := w) (g := g) (row := none) (zg_21 HK.o Zj.o Zk.o)) hk_.2.1), hk_.1.1, hk_.1.2.1, hk_.1.2.2, (gF (fO (zg_6 Za.o)) k_ hk_.2.1), (gF (fO (zg_6 Zd.o)) k_ hk_.2.1), (gF (nV (zg_4 Ze.o)) k_ hk_.2.1), (gF (fO (zg_6 Zb.o)) k_ hk_.2.1), (iB (g := m) (o := .cells #[.slice none 0 0, .slice none 0 0, .slice none 0 0, .slice none 0 0] 31 (0, 0)) (zg_3 Zh.o) k_ hk_.2.1), (iB (g := c) (o := .cells #[.slice j3 d.length j4, .slice u a.length x, .slice j5 j.length j6, .slice j7 l.length j8] 31 (0, 0)) (zg_3 Zc.o) k_ hk_.2.1), (IsS62.fresh (zg_20 b.o Zg.o Zf.o) k_ hk_.2.1)⟩)) (gI (w := w) (g := g) (row := none) (zg_21 HK.o Zj.o Zk.o))); have O := zm (fL (fT (fT (fT (iM (M := fun k_ => (w.heap.size ≤ k_)) B (gI (w := w) (g := g) (row := none) (zg_21 HK.o Zj.o Zk.o)) (fun k_ h_ => h_)) (fO (zg_6 Za.o))) (fO (zg_6 Zd.o))) (fO (zg_6 Zb.o))) (gI (w := w) (g := g) (row := none) (zg_21 HK.o Zj.o Zk.o))); have T := zm (fB (g := m) (o := .cells #[.slice none 0 0, .slice none 0 0, .slice none 0 0, .slice none 0 0] 31 (0, 0)) (zg_3 Zh.o) hb); have c6 := zm (fB (g := c) (o := .cells #[.slice j3 d.length j4, .slice u a.length x, .slice j5 j.length j6, .slice j7 l.length j8] 31 (0, 0)) (zg_3 Zc.o) hb); have b0 := zm (IsS62.below (zg_20 b.o Zg.o Zf.o) hb); have b1 := zm (gS (zg_21 HK.o Zj.o Zk.o) (jO hb g none) (.inl rfl)); have b2 := zm (eZ (zg_22 HB.o b.o Zn.o Zo.o) hb); clear Za; clear Zd; clear Ze; clear Zb; clear Zh; clear Zc; clear b; clear HK; clear HB; have Za := D; have Zd := E; have Ze := F; have Zb := G; have ZG := I; have ZH := J; have ZI := L; have ZJ := O; have Zh := T; have Zc := c6; have b := b0; have HK := b1; have HB := b2; clear D E F G I J L O T c6 b0 b1 b2
        (try clear hb)
        (try clear hb2)
        (try clear hk)
        (try clear hi)
        (try clear z)
        (try clear A)
        (try clear X)
        (try clear B)
        obtain ⟨L0, L1, y9⟩ := fA ZG.o
        (first | subst y9 | (injection y9 with f1_ f2_ f3_; have f4_ := f1_.symm; have f5_ := f3_.symm; clear f1_ f2_ f3_; subst f4_; subst f5_))
        obtain ⟨L2, L3, z0⟩ := fA ZH.o
        (first | subst z0 | (injection z0 with f1_ f2_ f3_; have f4_ := f1_.symm; have f5_ := f3_.symm; clear f1_ f2_ f3_; subst f4_; subst f5_))
        obtain ⟨L4, L5, z1⟩ := iR ZI.o
        (first | subst z1 | (injection z1 with f1_ f2_ f3_; have f4_ := f1_.symm; have f5_ := f3_.symm; clear f1_ f2_ f3_; subst f4_; subst f5_))
        obtain ⟨C7, C8, q0⟩ := fA ZJ.o
        (first | subst q0 | (injection q0 with f1_ f2_ f3_; have f4_ := f1_.symm; have f5_ := f3_.symm; clear f1_ f2_ f3_; subst f4_; subst f5_))
        refine hK.out _ _ ⟨(eY Zc.o 0).trans rfl, (eY Zc.o 1).trans rfl, (eY Zc.o 2).trans rfl, (eY Zc.o 3).trans rfl⟩ (fun hHeld => ?_)
        clear hK K
        refine jV (a' := ?_) ?_ ?_
        rotate_left
        ·show gE _ (some 71) _ = _
         simp only [gE, zs, zz, zt, iQ, jF]
         rfl
        refine gR (i := 4) (N := some 67) #[tt, tt, tt, tt, tt, ff, ff, ff] rfl rfl (gD HT_.o zk) (fun _ _ _ h => h) (.inl ⟨by rfl, zi⟩) zu ?_
        refine gR (i := 5) (N := some 72) #[tt, tt, tt, tt, tt, tt, ff, ff] rfl rfl (gD HT_.o zk) (fun _ _ _ h => h) (.inl ⟨by rfl, zi⟩) zu ?_
        refine gR (i := 6) (N := some 73) #[tt, tt, tt, tt, tt, tt, tt, ff] rfl rfl (gD HT_.o zk) (fun _ _ _ h => h) (.inl ⟨by rfl, zi⟩) zu ?_
        refine last_ (i := 7) (N := none) #[tt, tt, tt, tt, tt, tt, tt, tt] rfl rfl (iS HT_.o zk) (by decide) (fun K hK => ?_)
        have AS : p9.cell? ⟨c, 0, none⟩ = some (.slice j3 d.length j4) := (eY Zc.o 0).trans rfl
        have Y5 := gL Zc.o 0; have Q7 := Zi.o; have Q8 := Zl.o
        have AT : p9.cell? ⟨c, 1, none⟩ = some (.slice u a.length x) := (eY Zc.o 1).trans rfl
        have Y6 := gL Zc.o 1; have Q9 := Zi.o; have R0 := Zl.o
        have AU : p9.cell? ⟨c, 2, none⟩ = some (.slice j5 j.length j6) := (eY Zc.o 2).trans rfl
        have Y7 := gL Zc.o 2; have R1 := Zi.o; have R2 := Zl.o
        have Y8 : p9.cell? ⟨c, 3, none⟩ = some (.slice j7 l.length j8) := (eY Zc.o 3).trans rfl
        have T6 := gL Zc.o 3; have L6 := Zi.o; have L7 := Zl.o
        refine skip_ (w1 := ?_) (by rfl) rfl ?_ ?_
        rotate_left
        ·go_simp
         rfl
        refine hK.out _ _ ?_
        clear hK K
        refine done_ (mE HT_.o zk) ?_
        try go_wp2
        go_roundg a9
        case measure => have := HJ4.o; have := b3.o; have := HJ35.o; omega
        case rel => exact ⟨(wrap64 (b7 - 1)), (y2), (y3), (n4), (n5), (n6), (n7), (.slice L0 n4.length L1), (.slice L2 n5.length L3), (.slice L4 n6.length L5), (.slice C7 n7.length C8), zr, H', ⟨by have := HJ4.o; have := b3.o; have := HJ35.o; omega⟩, ⟨eX (zR4 (fD ZG.o Zc.o (by decide))) (fun _ hk => ⟨hk.1.1.1.1.1, ⟨hk.1.1.1.1.2.1, hk.1.1.1.1.2.2⟩⟩)⟩, ⟨eX (zR4 (fD ZH.o Zc.o (by decide))) (fun _ hk => ⟨hk.1.1.1.1.1, ⟨hk.1.1.1.1.2.1, hk.1.1.1.1.2.2⟩⟩)⟩, ⟨fN (zN4 (fN ZI.o (fun k_ hk => (⟨hk, hk.2.2.2.2.2.2.2.2.2.1⟩ : _ ∧ k_ ≠ c)))) (fun _ hk => ⟨hk.1.1, ⟨hk.1.2.1, ⟨hk.1.2.2.1, ⟨hk.1.2.2.2.1, ⟨hk.1.2.2.2.2.2.2.2.2.1, ⟨hk.1.2.2.2.2.2.2.2.2.2.1, hk.1.2.2.2.2.2.2.2.2.2.2⟩⟩⟩⟩⟩⟩)⟩, ⟨eX (zR4 (fD ZJ.o Zc.o (by decide))) (fun _ hk => ⟨hk.1.1.1.1.1, ⟨hk.1.1.1.1.2.1, hk.1.1.1.1.2.2⟩⟩)⟩, ⟨by exact zfar4 Zh.o Zi.o⟩, ⟨by exact zput4 Zc.o⟩, ⟨zg_20 b.o Zg.o Zf.o⟩, ⟨zg_21 HK.o Zj.o Zk.o⟩, ⟨zg_22 HB.o b.o Zn.o Zo.o⟩⟩
       rw [if_neg j1] at H
       have C5 : (C == 2) = false := beq_eq_false_iff_ne.mpr j1
       have C6 : (C != 2) = true := bne_iff_ne.mpr j1
       by_cases d5 : C = 3
       ·rw [if_pos d5] at H
        have z2 : (C == 3) = true := beq_iff_eq.mpr d5
        have z3 : (C != 3) = false := bne_eq_false_iff_eq.mpr d5
        clear d5; replace H := eW.mp H
        obtain ⟨⟨n8, z4, z5⟩, q1, H⟩ := H
        try dsimp only at H
        have L8 := zm q1; clear q1; replace H := eW.mp H
        obtain ⟨⟨n9, o0, o1, o2⟩, q2, H⟩ := H
        try dsimp only at H
        have L9 := zm q2; clear q2
        have H' := zm H
        clear H
        try go_wp2_with (first | ((with_reducible refine fJ (f := 29) rfl ?_); refine gU (some 34) rfl rfl jI (by kernel_rfl) rfl #[.pointer (some ⟨g, 0, none⟩), .int .i64 9] rfl zq ?_; (with_reducible refine (aD.calls g q r s 9 C U V y _ ?_ ?_ f2.o).mono ?_); exact (zg_20 b.o Zg.o Zf.o); exact (zg_22 HB.o b.o Zn.o Zo.o); rintro e M0 ⟨rfl, hi, hb, hk⟩; refine ⟨_, rfl, ?_⟩; refine zG9 (eX (hG (IsS62.apart (show IsS62 y _ g q r s from zg_20 b.o Zg.o Zf.o) (zg_6 Za.o) (by decide)) hk (fun _ h => h.2)) (fun _ h => h.1)) (eX (hG (IsS62.apart (show IsS62 y _ g q r s from zg_20 b.o Zg.o Zf.o) (zg_6 Zd.o) (by decide)) hk (fun _ h => h.2)) (fun _ h => h.1)) (fN (lD (fN (ok := fun k_ => (((w.heap.size ≤ k_)) ∧ (some k_ ≠ ob u581000 ∧ (some k_ ≠ ob (.slice u a.length x) ∧ (some k_ ≠ ob u581003 ∧ (k_ ≠ m ∧ (k_ ≠ c ∧ k_ ≠ g))))))) (zg_4 Ze.o) (fun k_ hk_ => (⟨hk_, hk_.2.2.2.2.2.2⟩ : _ ∧ k_ ≠ g))) hk (fun _ h => h.2)) (fun _ h => h.1)) (eX (hG (IsS62.apart (show IsS62 y _ g q r s from zg_20 b.o Zg.o Zf.o) (zg_6 Zb.o) (by decide)) hk (fun _ h => h.2)) (fun _ h => h.1)) (hQ hk (g' := m) (o := .cells #[.slice none 0 0, .slice none 0 0, .slice none 0 0, .slice none 0 0] 31 (0, 0)) (zg_3 Zh.o) Zp.o (by simp)) (hQ hk (g' := c) (o := .cells #[u581000, .slice u a.length x, u581002, u581003] 31 (0, 0)) (zg_3 Zc.o) Zm.o (by simp)) (gS (zg_21 HK.o Zj.o Zk.o) hk (.inl rfl)) (hb) (hi) ?_; clear Za Zd Ze Zb Zh Zc HK HB b; intro Za Zd Ze Zb Zh Zc HK HB b; (try clear hb); (try clear hb2); (try clear hk); (try clear hi)))
        have D := zm (fK Za.o); have E := zm (fK Zd.o); have F := zm (jR Ze.o); have G := zm (fK Zb.o); have I := zm (fU Zh.o); have J := zm (fU Zc.o); have L := zm (IsS62.drew b.o); have O := zm (nR HK.o); have T := zm (gA HB.o); clear Za; clear Zd; clear Ze; clear Zb; clear Zh; clear Zc; clear b; clear HK; clear HB; have Za := D; have Zd := E; have Ze := F; have Zb := G; have Zh := I; have Zc := J; have b := L; have HK := O; have HB := T; clear D E F G I J L O T
        refine mP (n := 5) (S := fun w' => w'.cell? ⟨c, 0, none⟩ = some (u581000) ∧ w'.cell? ⟨c, 1, none⟩ = some (.slice u a.length x) ∧ w'.cell? ⟨c, 2, none⟩ = some (u581002) ∧ w'.cell? ⟨c, 3, none⟩ = some (u581003)) (ds := [4]) #[ff, ff, ff, ff, ff] (by kernel_rfl) rfl rfl ⟨(eY Zc.o 0).trans rfl, (eY Zc.o 1).trans rfl, (eY Zc.o 2).trans rfl, (eY Zc.o 3).trans rfl⟩ (fun hHeld => ?_)
        generalize M0.drew = AV at Za Zd Ze Zb Zh Zc b HK HB hHeld ⊢
        refine gR (i := 1) (N := some 77) (v := ?_) (a' := ?_) #[ff, tt, ff, ff, ff] rfl rfl (by kernel_rfl) (fun _ _ _ h => h) (Or.inl ⟨by rfl, ?_⟩) ?_ ?_
        rotate_left
        ·intro w'
         go_simp
         with_reducible rfl
        rotate_left
        ·simp only [gE, zs, zz, zt, iQ, jF]
         rfl
        refine take_ (i := 0) (N := some 76) (v := ?_) (a' := ?_) #[tt, tt, ff, ff, ff] rfl rfl (by kernel_rfl) (fun _ _ _ h => h) (Or.inl ⟨by rfl, ?_⟩) hHeld ?_ ?_
        rotate_left
        ·rintro w' ⟨s0, s1, s2, s3⟩
         go_simp
         with_reducible rfl
        rotate_left
        ·simp only [gE, zs, zz, zt, iQ, jF]
         rfl
        refine one_ (i := 2) (N := some 78) #[tt, tt, tt, ff, ff] rfl rfl (by kernel_rfl) (by decide) (fun K hK => ?_)
        refine mR jI (by kernel_rfl) rfl #[.pointer (some ⟨g, 0, none⟩), .int .i64 13] (by rfl) rfl rfl zq ?_
        with_reducible refine (aD.calls g q U V 13 n8 z4 z5 y _ ?side1 ?side2 L8.o).mono ?_
        (case side1 => exact (zg_20 b.o Zg.o Zf.o))
        (case side2 => exact (zg_22 HB.o b.o Zn.o Zo.o))
        rintro e AW ⟨rfl, hi, hb, hk⟩
        refine ⟨_, rfl, ?_⟩
        have D := zm (eX (hG (IsS62.apart (show IsS62 y _ g q U V from zg_20 b.o Zg.o Zf.o) (zg_6 Za.o) (by decide)) hk (fun _ h => h.2)) (fun _ h => h.1)); have E := zm (eX (hG (IsS62.apart (show IsS62 y _ g q U V from zg_20 b.o Zg.o Zf.o) (zg_6 Zd.o) (by decide)) hk (fun _ h => h.2)) (fun _ h => h.1)); have F := zm (fN (lD (fN (ok := fun k_ => (((w.heap.size ≤ k_)) ∧ (some k_ ≠ ob u581000 ∧ (some k_ ≠ ob (.slice u a.length x) ∧ (some k_ ≠ ob u581003 ∧ (k_ ≠ m ∧ (k_ ≠ c ∧ k_ ≠ g))))))) (zg_4 Ze.o) (fun k_ hk_ => (⟨hk_, hk_.2.2.2.2.2.2⟩ : _ ∧ k_ ≠ g))) hk (fun _ h => h.2)) (fun _ h => h.1)); have G := zm (eX (hG (IsS62.apart (show IsS62 y _ g q U V from zg_20 b.o Zg.o Zf.o) (zg_6 Zb.o) (by decide)) hk (fun _ h => h.2)) (fun _ h => h.1)); have I := zm (hQ hk (g' := m) (o := .cells #[.slice none 0 0, .slice none 0 0, .slice none 0 0, .slice none 0 0] 31 (0, 0)) (zg_3 Zh.o) Zp.o (by simp)); have J := zm (hQ hk (g' := c) (o := .cells #[u581000, .slice u a.length x, u581002, u581003] 31 (0, 0)) (zg_3 Zc.o) Zm.o (by simp)); have L := zm (gS (zg_21 HK.o Zj.o Zk.o) hk (.inl rfl)); have O := zm (hb); have T := zm (hi); clear Za; clear Zd; clear Ze; clear Zb; clear Zh; clear Zc; clear HK; clear HB; clear b; have Za := D; have Zd := E; have Ze := F; have Zb := G; have Zh := I; have Zc := J; have HK := L; have HB := O; have b := T; clear D E F G I J L O T
        (try clear hb)
        (try clear hb2)
        (try clear hk)
        (try clear hi)
        obtain ⟨d8, d9, q3⟩ := fA Za.o
        (first | subst q3 | (injection q3 with f1_ f2_ f3_; have f4_ := f1_.symm; have f5_ := f3_.symm; clear f1_ f2_ f3_; subst f4_; subst f5_))
        obtain ⟨e0, e1, q4⟩ := iR Ze.o
        (first | subst q4 | (injection q4 with f1_ f2_ f3_; have f4_ := f1_.symm; have f5_ := f3_.symm; clear f1_ f2_ f3_; subst f4_; subst f5_))
        obtain ⟨e2, e3, q5⟩ := fA Zb.o
        (first | subst q5 | (injection q5 with f1_ f2_ f3_; have f4_ := f1_.symm; have f5_ := f3_.symm; clear f1_ f2_ f3_; subst f4_; subst f5_))
        refine hK.out _ _ ⟨(eY Zc.o 0).trans rfl, (eY Zc.o 1).trans rfl, (eY Zc.o 2).trans rfl, (eY Zc.o 3).trans rfl⟩ (fun hHeld => ?_)
        clear hK K
        refine jV (a' := ?_) ?_ ?_
        rotate_left
        ·show gE _ (some 78) _ = _
         simp only [gE, zs, zz, zt, iQ, jF]
         rfl
        refine one_ (i := 3) (N := some 79) #[tt, tt, tt, tt, ff] rfl rfl (by kernel_rfl) (by decide) (fun K hK => ?_)
        refine mR Tryz.func36 (by kernel_rfl) rfl #[.agg #[.slice d8 d.length d9, .slice u a.length x, .slice e0 j.length e1, .slice e2 l.length e3], .int .i64 n8] (by rfl) rfl rfl zq ?_
        with_reducible refine (aU.calls a9 _ _ d _ _ a _ _ j _ _ l n8 n9 o0 o1 o2 _ ?side1 ?side2 ?side3 ?side4 ?side5 ?side6 ?side7 ?side8 L9.o).mono ?_
        (case side1 => exact zC ((fC Za.o).2.2))
        (case side2 => exact (fC Za.o).2.1)
        (case side3 => exact zC ((fC Zd.o).2.2))
        (case side4 => exact (fC Zd.o).2.1)
        (case side5 => exact zC ((gZ Ze.o).2.2))
        (case side6 => exact (gZ Ze.o).2.1)
        (case side7 => exact zC ((fC Zb.o).2.2))
        (case side8 => exact (fC Zb.o).2.1)
        rintro e k0 ⟨M1, M2, AX, M3, rfl, z, A, X, B, hb⟩
        refine ⟨_, rfl, ?_⟩
        have D := zm (eX (gK (gK (gK (kH (zg_6 Za.o) hb) (fH z)) (fH A)) (fH B)) (fun _ h_ => h_.1)); have E := zm (eX (gK (gK (gK (kH (zg_6 Zd.o) hb) (fH z)) (fH A)) (fH B)) (fun _ h_ => h_.1)); have F := zm (fN (iC (iC (iC (iC (nM (zg_4 Ze.o) hb) (fH z)) (fH A)) (lA (mG X))) (fH B)) (fun _ h_ => h_.1)); have G := zm (eX (gK (gK (gK (kH (zg_6 Zb.o) hb) (fH z)) (fH A)) (fH B)) (fun _ h_ => h_.1)); have I := zm (fL (fT (fT (fT (iM (M := fun k_ => (w.heap.size ≤ k_)) z (gI (w := w) (g := g) (row := none) (zg_21 HK.o Zj.o Zk.o)) (fun k_ h_ => h_)) (fO (zg_6 Za.o))) (fO (zg_6 Zd.o))) (fO (zg_6 Zb.o))) (gI (w := w) (g := g) (row := none) (zg_21 HK.o Zj.o Zk.o))); have J := zm (fL (fT (fT (fT (iM (M := fun k_ => (w.heap.size ≤ k_)) A (gI (w := w) (g := g) (row := none) (zg_21 HK.o Zj.o Zk.o)) (fun k_ h_ => h_)) (fO (zg_6 Za.o))) (fO (zg_6 Zd.o))) (fO (zg_6 Zb.o))) (gI (w := w) (g := g) (row := none) (zg_21 HK.o Zj.o Zk.o))); have L := zm (jK (fN (ok' := fun k_ => (w.heap.size ≤ k_) ∧ some k_ ≠ ob M1 ∧ some k_ ≠ ob M2 ∧ some k_ ≠ ob M3 ∧ some k_ ≠ ob (.slice d8 d.length d9) ∧ some k_ ≠ ob (.slice u a.length x) ∧ some k_ ≠ ob (.slice e0 j.length e1) ∧ some k_ ≠ ob (.slice e2 l.length e3) ∧ k_ ≠ m ∧ k_ ≠ c ∧ k_ ≠ g) (mG (kD X)) (fun k_ hk_ => ⟨(hU (gI (w := w) (g := g) (row := none) (zg_21 HK.o Zj.o Zk.o)) hk_.2.1), hk_.1.1, hk_.1.2.1, hk_.1.2.2, (gF (fO (zg_6 Za.o)) k_ hk_.2.1), (gF (fO (zg_6 Zd.o)) k_ hk_.2.1), (gF (nV (zg_4 Ze.o)) k_ hk_.2.1), (gF (fO (zg_6 Zb.o)) k_ hk_.2.1), (iB (g := m) (o := .cells #[.slice none 0 0, .slice none 0 0, .slice none 0 0, .slice none 0 0] 31 (0, 0)) (zg_3 Zh.o) k_ hk_.2.1), (iB (g := c) (o := .cells #[.slice d8 d.length d9, .slice u a.length x, .slice e0 j.length e1, .slice e2 l.length e3] 31 (0, 0)) (zg_3 Zc.o) k_ hk_.2.1), (IsS62.fresh (zg_20 b.o Zg.o Zf.o) k_ hk_.2.1)⟩)) (gI (w := w) (g := g) (row := none) (zg_21 HK.o Zj.o Zk.o))); have O := zm (fL (fT (fT (fT (iM (M := fun k_ => (w.heap.size ≤ k_)) B (gI (w := w) (g := g) (row := none) (zg_21 HK.o Zj.o Zk.o)) (fun k_ h_ => h_)) (fO (zg_6 Za.o))) (fO (zg_6 Zd.o))) (fO (zg_6 Zb.o))) (gI (w := w) (g := g) (row := none) (zg_21 HK.o Zj.o Zk.o))); have T := zm (fB (g := m) (o := .cells #[.slice none 0 0, .slice none 0 0, .slice none 0 0, .slice none 0 0] 31 (0, 0)) (zg_3 Zh.o) hb); have c6 := zm (fB (g := c) (o := .cells #[.slice d8 d.length d9, .slice u a.length x, .slice e0 j.length e1, .slice e2 l.length e3] 31 (0, 0)) (zg_3 Zc.o) hb); have b0 := zm (IsS62.below (zg_20 b.o Zg.o Zf.o) hb); have b1 := zm (gS (zg_21 HK.o Zj.o Zk.o) (jO hb g none) (.inl rfl)); have b2 := zm (eZ (zg_22 HB.o b.o Zn.o Zo.o) hb); clear Za; clear Zd; clear Ze; clear Zb; clear Zh; clear Zc; clear b; clear HK; clear HB; have Za := D; have Zd := E; have Ze := F; have Zb := G; have ZK := I; have ZL := J; have ZM := L; have ZN := O; have Zh := T; have Zc := c6; have b := b0; have HK := b1; have HB := b2; clear D E F G I J L O T c6 b0 b1 b2
        (try clear hb)
        (try clear hb2)
        (try clear hk)
        (try clear hi)
        (try clear z)
        (try clear A)
        (try clear X)
        (try clear B)
        obtain ⟨C9, D0, q6⟩ := fA ZK.o
        (first | subst q6 | (injection q6 with f1_ f2_ f3_; have f4_ := f1_.symm; have f5_ := f3_.symm; clear f1_ f2_ f3_; subst f4_; subst f5_))
        obtain ⟨D1, D2, q7⟩ := fA ZL.o
        (first | subst q7 | (injection q7 with f1_ f2_ f3_; have f4_ := f1_.symm; have f5_ := f3_.symm; clear f1_ f2_ f3_; subst f4_; subst f5_))
        obtain ⟨D3, D4, q8⟩ := iR ZM.o
        (first | subst q8 | (injection q8 with f1_ f2_ f3_; have f4_ := f1_.symm; have f5_ := f3_.symm; clear f1_ f2_ f3_; subst f4_; subst f5_))
        obtain ⟨D5, D6, q9⟩ := fA ZN.o
        (first | subst q9 | (injection q9 with f1_ f2_ f3_; have f4_ := f1_.symm; have f5_ := f3_.symm; clear f1_ f2_ f3_; subst f4_; subst f5_))
        refine hK.out _ _ ⟨(eY Zc.o 0).trans rfl, (eY Zc.o 1).trans rfl, (eY Zc.o 2).trans rfl, (eY Zc.o 3).trans rfl⟩ (fun hHeld => ?_)
        clear hK K
        refine jV (a' := ?_) ?_ ?_
        rotate_left
        ·show gE _ (some 79) _ = _
         simp only [gE, zs, zz, zt, iQ, jF]
         rfl
        refine last_ (i := 4) (N := none) #[tt, tt, tt, tt, tt] rfl rfl (by kernel_rfl) (by decide) (fun K hK => ?_)
        have Y9 : k0.cell? ⟨c, 0, none⟩ = some (.slice d8 d.length d9) := (eY Zc.o 0).trans rfl
        have T7 := gL Zc.o 0; have M4 := Zi.o; have M5 := Zl.o
        have Z0 : k0.cell? ⟨c, 1, none⟩ = some (.slice u a.length x) := (eY Zc.o 1).trans rfl
        have T8 := gL Zc.o 1; have M6 := Zi.o; have M7 := Zl.o
        have Z1 : k0.cell? ⟨c, 2, none⟩ = some (.slice e0 j.length e1) := (eY Zc.o 2).trans rfl
        have T9 := gL Zc.o 2; have M8 := Zi.o; have M9 := Zl.o
        have Z2 : k0.cell? ⟨c, 3, none⟩ = some (.slice e2 l.length e3) := (eY Zc.o 3).trans rfl
        have U0 := gL Zc.o 3; have N0 := Zi.o; have N1 := Zl.o
        refine skip_ (w1 := ?_) (by rfl) rfl ?_ ?_
        rotate_left
        ·go_simp
         rfl
        refine hK.out _ _ ?_
        clear hK K
        refine done_ (by kernel_rfl) ?_
        try go_wp2
        go_roundg a9
        case measure => have := HJ4.o; have := b3.o; have := HJ35.o; omega
        case rel => exact ⟨(wrap64 (b7 - 1)), (z4), (z5), (n9), (o0), (o1), (o2), (.slice C9 n9.length D0), (.slice D1 o0.length D2), (.slice D3 o1.length D4), (.slice D5 o2.length D6), zr, H', ⟨by have := HJ4.o; have := b3.o; have := HJ35.o; omega⟩, ⟨eX (zR4 (fD ZK.o Zc.o (by decide))) (fun _ hk => ⟨hk.1.1.1.1.1, ⟨hk.1.1.1.1.2.1, hk.1.1.1.1.2.2⟩⟩)⟩, ⟨eX (zR4 (fD ZL.o Zc.o (by decide))) (fun _ hk => ⟨hk.1.1.1.1.1, ⟨hk.1.1.1.1.2.1, hk.1.1.1.1.2.2⟩⟩)⟩, ⟨fN (zN4 (fN ZM.o (fun k_ hk => (⟨hk, hk.2.2.2.2.2.2.2.2.2.1⟩ : _ ∧ k_ ≠ c)))) (fun _ hk => ⟨hk.1.1, ⟨hk.1.2.1, ⟨hk.1.2.2.1, ⟨hk.1.2.2.2.1, ⟨hk.1.2.2.2.2.2.2.2.2.1, ⟨hk.1.2.2.2.2.2.2.2.2.2.1, hk.1.2.2.2.2.2.2.2.2.2.2⟩⟩⟩⟩⟩⟩)⟩, ⟨eX (zR4 (fD ZN.o Zc.o (by decide))) (fun _ hk => ⟨hk.1.1.1.1.1, ⟨hk.1.1.1.1.2.1, hk.1.1.1.1.2.2⟩⟩)⟩, ⟨by exact zfar4 Zh.o Zi.o⟩, ⟨by exact zput4 Zc.o⟩, ⟨zg_20 b.o Zg.o Zf.o⟩, ⟨zg_21 HK.o Zj.o Zk.o⟩, ⟨zg_22 HB.o b.o Zn.o Zo.o⟩⟩
       rw [if_neg d5] at H
       have z2 : (C == 3) = false := beq_eq_false_iff_ne.mpr d5
       have z3 : (C != 3) = true := bne_iff_ne.mpr d5
       by_cases d6 : C = 4
       ·rw [if_pos d6] at H
        have z6 : (C == 4) = true := beq_iff_eq.mpr d6
        have z7 : (C != 4) = false := bne_eq_false_iff_eq.mpr d6
        clear d6
        by_cases f0 : (a.length : Int) > 0
        rotate_left
        ·rw [if_neg f0] at H
         have z8 := decide_eq_false f0
         have z9 : decide (0 < a.length) = false := decide_eq_false (by omega)
         clear f0
         have H' := zm H
         clear H
         go_wp2_with (first | ((with_reducible refine fJ (f := 29) rfl ?_); refine gU (some 34) rfl rfl jI (by kernel_rfl) rfl #[.pointer (some ⟨g, 0, none⟩), .int .i64 9] rfl zq ?_; (with_reducible refine (aD.calls g q r s 9 C U V y _ ?_ ?_ f2.o).mono ?_); exact (zg_20 b.o Zg.o Zf.o); exact (zg_22 HB.o b.o Zn.o Zo.o); rintro e AY ⟨rfl, hi, hb, hk⟩; refine ⟨_, rfl, ?_⟩; refine zG9 (eX (hG (IsS62.apart (show IsS62 y _ g q r s from zg_20 b.o Zg.o Zf.o) (zg_6 Za.o) (by decide)) hk (fun _ h => h.2)) (fun _ h => h.1)) (eX (hG (IsS62.apart (show IsS62 y _ g q r s from zg_20 b.o Zg.o Zf.o) (zg_6 Zd.o) (by decide)) hk (fun _ h => h.2)) (fun _ h => h.1)) (fN (lD (fN (ok := fun k_ => (((w.heap.size ≤ k_)) ∧ (some k_ ≠ ob u581000 ∧ (some k_ ≠ ob (.slice u a.length x) ∧ (some k_ ≠ ob u581003 ∧ (k_ ≠ m ∧ (k_ ≠ c ∧ k_ ≠ g))))))) (zg_4 Ze.o) (fun k_ hk_ => (⟨hk_, hk_.2.2.2.2.2.2⟩ : _ ∧ k_ ≠ g))) hk (fun _ h => h.2)) (fun _ h => h.1)) (eX (hG (IsS62.apart (show IsS62 y _ g q r s from zg_20 b.o Zg.o Zf.o) (zg_6 Zb.o) (by decide)) hk (fun _ h => h.2)) (fun _ h => h.1)) (hQ hk (g' := m) (o := .cells #[.slice none 0 0, .slice none 0 0, .slice none 0 0, .slice none 0 0] 31 (0, 0)) (zg_3 Zh.o) Zp.o (by simp)) (hQ hk (g' := c) (o := .cells #[u581000, .slice u a.length x, u581002, u581003] 31 (0, 0)) (zg_3 Zc.o) Zm.o (by simp)) (gS (zg_21 HK.o Zj.o Zk.o) hk (.inl rfl)) (hb) (hi) ?_; clear Za Zd Ze Zb Zh Zc HK HB b; intro Za Zd Ze Zb Zh Zc HK HB b; (try clear hb); (try clear hb2); (try clear hk); (try clear hi); have U1 := Zl.o; have U2 := Zi.o; have U3 := Zm.o; have U4 := Zf.o; obtain ⟨_, _, _, _, _, _, _, _⟩ := zb4 Zc.o))
         go_roundg a9
         case measure => have := HJ4.o; have := b3.o; have := HJ35.o; omega
         case rel => exact ⟨(wrap64 (b7 - 1)), (U), (V), (d), (a), (j), (l), (u581000), (.slice u a.length x), (u581002), (u581003), zr, H', ⟨by have := HJ4.o; have := b3.o; have := HJ35.o; omega⟩, ⟨zlR Za.o⟩, ⟨zlR Zd.o⟩, ⟨zlN Ze.o⟩, ⟨zlR Zb.o⟩, ⟨zl Zh.o⟩, ⟨zl Zc.o⟩, ⟨zg_20 b.o Zg.o Zf.o⟩, ⟨zg_21 HK.o Zj.o Zk.o⟩, ⟨zg_22 HB.o b.o Zn.o Zo.o⟩⟩
        rw [if_pos f0] at H; have z8 := decide_eq_true f0
        have z9 : decide (0 < a.length) = true := decide_eq_true (by omega)
        clear f0; replace H := eW.mp H
        obtain ⟨⟨o3, o4, o5, o6⟩, r0, H⟩ := H
        try dsimp only at H
        have N2 := zm r0; clear r0
        have H' := zm H
        clear H
        go_wp2_with (first | ((with_reducible refine fJ (f := 29) rfl ?_); refine gU (some 34) rfl rfl jI (by kernel_rfl) rfl #[.pointer (some ⟨g, 0, none⟩), .int .i64 9] rfl zq ?_; (with_reducible refine (aD.calls g q r s 9 C U V y _ ?_ ?_ f2.o).mono ?_); exact (zg_20 b.o Zg.o Zf.o); exact (zg_22 HB.o b.o Zn.o Zo.o); rintro e AZ ⟨rfl, hi, hb, hk⟩; refine ⟨_, rfl, ?_⟩; refine zG9 (eX (hG (IsS62.apart (show IsS62 y _ g q r s from zg_20 b.o Zg.o Zf.o) (zg_6 Za.o) (by decide)) hk (fun _ h => h.2)) (fun _ h => h.1)) (eX (hG (IsS62.apart (show IsS62 y _ g q r s from zg_20 b.o Zg.o Zf.o) (zg_6 Zd.o) (by decide)) hk (fun _ h => h.2)) (fun _ h => h.1)) (fN (lD (fN (ok := fun k_ => (((w.heap.size ≤ k_)) ∧ (some k_ ≠ ob u581000 ∧ (some k_ ≠ ob (.slice u a.length x) ∧ (some k_ ≠ ob u581003 ∧ (k_ ≠ m ∧ (k_ ≠ c ∧ k_ ≠ g))))))) (zg_4 Ze.o) (fun k_ hk_ => (⟨hk_, hk_.2.2.2.2.2.2⟩ : _ ∧ k_ ≠ g))) hk (fun _ h => h.2)) (fun _ h => h.1)) (eX (hG (IsS62.apart (show IsS62 y _ g q r s from zg_20 b.o Zg.o Zf.o) (zg_6 Zb.o) (by decide)) hk (fun _ h => h.2)) (fun _ h => h.1)) (hQ hk (g' := m) (o := .cells #[.slice none 0 0, .slice none 0 0, .slice none 0 0, .slice none 0 0] 31 (0, 0)) (zg_3 Zh.o) Zp.o (by simp)) (hQ hk (g' := c) (o := .cells #[u581000, .slice u a.length x, u581002, u581003] 31 (0, 0)) (zg_3 Zc.o) Zm.o (by simp)) (gS (zg_21 HK.o Zj.o Zk.o) hk (.inl rfl)) (hb) (hi) ?_; clear Za Zd Ze Zb Zh Zc HK HB b; intro Za Zd Ze Zb Zh Zc HK HB b; (try clear hb); (try clear hb2); (try clear hk); (try clear hi); have U5 := Zl.o; have U6 := Zi.o; have U7 := Zm.o; have U8 := Zf.o; obtain ⟨_, _, _, _, _, _, _, _⟩ := zb4 Zc.o; obtain ⟨g3, g4, rfl⟩ := fA Za.o; obtain ⟨g5, g6, rfl⟩ := iR Ze.o; obtain ⟨g7, g8, rfl⟩ := fA Zb.o) | ((with_reducible refine fJ (f := 37) rfl ?_); refine gU (some 88) rfl rfl Tryz.func37 (by kernel_rfl) rfl #[.agg #[.slice g3 d.length g4, .slice u a.length x, .slice g5 j.length g6, .slice g7 l.length g8], .int .i64 c9] rfl zq ?_; (with_reducible refine (cD.calls a9 _ _ d _ _ a _ _ j _ _ l c9 o3 o4 o5 o6 _ ?_ ?_ ?_ ?_ ?_ ?_ ?_ ?_ N2.o).mono ?_); exact zC ((fC Za.o).2.2); exact (fC Za.o).2.1; exact zC ((fC Zd.o).2.2); exact (fC Zd.o).2.1; exact zC ((gZ Ze.o).2.2); exact (gZ Ze.o).2.1; exact zC ((fC Zb.o).2.2); exact (fC Zb.o).2.1; rintro e BA ⟨N3, N4, BB, N5, rfl, z, A, X, B, hb⟩; refine ⟨_, rfl, ?_⟩; refine zG13 (eX (gK (gK (gK (kH (zg_6 Za.o) hb) (fH z)) (fH A)) (fH B)) (fun _ h_ => h_.1)) (eX (gK (gK (gK (kH (zg_6 Zd.o) hb) (fH z)) (fH A)) (fH B)) (fun _ h_ => h_.1)) (fN (iC (iC (iC (iC (nM (zg_4 Ze.o) hb) (fH z)) (fH A)) (lA (mG X))) (fH B)) (fun _ h_ => h_.1)) (eX (gK (gK (gK (kH (zg_6 Zb.o) hb) (fH z)) (fH A)) (fH B)) (fun _ h_ => h_.1)) (fL (fT (fT (fT (iM (M := fun k_ => (w.heap.size ≤ k_)) z (gI (w := w) (g := g) (row := none) (zg_21 HK.o Zj.o Zk.o)) (fun k_ h_ => h_)) (fO (zg_6 Za.o))) (fO (zg_6 Zd.o))) (fO (zg_6 Zb.o))) (gI (w := w) (g := g) (row := none) (zg_21 HK.o Zj.o Zk.o))) (fL (fT (fT (fT (iM (M := fun k_ => (w.heap.size ≤ k_)) A (gI (w := w) (g := g) (row := none) (zg_21 HK.o Zj.o Zk.o)) (fun k_ h_ => h_)) (fO (zg_6 Za.o))) (fO (zg_6 Zd.o))) (fO (zg_6 Zb.o))) (gI (w := w) (g := g) (row := none) (zg_21 HK.o Zj.o Zk.o))) (jK (fN (ok' := fun k_ => (w.heap.size ≤ k_) ∧ some k_ ≠ ob N3 ∧ some k_ ≠ ob N4 ∧ some k_ ≠ ob N5 ∧ some k_ ≠ ob (.slice g3 d.length g4) ∧ some k_ ≠ ob (.slice u a.length x) ∧ some k_ ≠ ob (.slice g5 j.length g6) ∧ some k_ ≠ ob (.slice g7 l.length g8) ∧ k_ ≠ m ∧ k_ ≠ c ∧ k_ ≠ g) (mG (kD X)) (fun k_ hk_ => ⟨(hU (gI (w := w) (g := g) (row := none) (zg_21 HK.o Zj.o Zk.o)) hk_.2.1), hk_.1.1, hk_.1.2.1, hk_.1.2.2, (gF (fO (zg_6 Za.o)) k_ hk_.2.1), (gF (fO (zg_6 Zd.o)) k_ hk_.2.1), (gF (nV (zg_4 Ze.o)) k_ hk_.2.1), (gF (fO (zg_6 Zb.o)) k_ hk_.2.1), (iB (g := m) (o := .cells #[.slice none 0 0, .slice none 0 0, .slice none 0 0, .slice none 0 0] 31 (0, 0)) (zg_3 Zh.o) k_ hk_.2.1), (iB (g := c) (o := .cells #[.slice g3 d.length g4, .slice u a.length x, .slice g5 j.length g6, .slice g7 l.length g8] 31 (0, 0)) (zg_3 Zc.o) k_ hk_.2.1), (IsS62.fresh (zg_20 b.o Zg.o Zf.o) k_ hk_.2.1)⟩)) (gI (w := w) (g := g) (row := none) (zg_21 HK.o Zj.o Zk.o))) (fL (fT (fT (fT (iM (M := fun k_ => (w.heap.size ≤ k_)) B (gI (w := w) (g := g) (row := none) (zg_21 HK.o Zj.o Zk.o)) (fun k_ h_ => h_)) (fO (zg_6 Za.o))) (fO (zg_6 Zd.o))) (fO (zg_6 Zb.o))) (gI (w := w) (g := g) (row := none) (zg_21 HK.o Zj.o Zk.o))) (fB (g := m) (o := .cells #[.slice none 0 0, .slice none 0 0, .slice none 0 0, .slice none 0 0] 31 (0, 0)) (zg_3 Zh.o) hb) (fB (g := c) (o := .cells #[.slice g3 d.length g4, .slice u a.length x, .slice g5 j.length g6, .slice g7 l.length g8] 31 (0, 0)) (zg_3 Zc.o) hb) (IsS62.below (zg_20 b.o Zg.o Zf.o) hb) (gS (zg_21 HK.o Zj.o Zk.o) (jO hb g none) (.inl rfl)) (eZ (zg_22 HB.o b.o Zn.o Zo.o) hb) ?_; clear Za Zd Ze Zb Zh Zc b HK HB; intro Za Zd Ze Zb ZO ZP ZQ ZR Zh Zc b HK HB; (try clear hb); (try clear hb2); (try clear hk); (try clear hi); (try clear z); (try clear A); (try clear X); (try clear B); obtain ⟨D7, D8, rfl⟩ := fA ZO.o; obtain ⟨_, _, _, _, _, _, _, _⟩ := zb4 Zc.o; obtain ⟨D9, E0, rfl⟩ := fA ZP.o; obtain ⟨E1, E2, rfl⟩ := iR ZQ.o; obtain ⟨E3, E4, rfl⟩ := fA ZR.o))
        go_roundg a9
        case measure => have := HJ4.o; have := b3.o; have := HJ35.o; omega
        case rel => exact ⟨(wrap64 (b7 - 1)), (U), (V), (o3), (o4), (o5), (o6), (.slice D7 o3.length D8), (.slice D9 o4.length E0), (.slice E1 o5.length E2), (.slice E3 o6.length E4), zr, H', ⟨by have := HJ4.o; have := b3.o; have := HJ35.o; omega⟩, ⟨eX (zR4 (fD ZO.o Zc.o (by decide))) (fun _ hk => ⟨hk.1.1.1.1.1, ⟨hk.1.1.1.1.2.1, hk.1.1.1.1.2.2⟩⟩)⟩, ⟨eX (zR4 (fD ZP.o Zc.o (by decide))) (fun _ hk => ⟨hk.1.1.1.1.1, ⟨hk.1.1.1.1.2.1, hk.1.1.1.1.2.2⟩⟩)⟩, ⟨fN (zN4 (fN ZQ.o (fun k_ hk => (⟨hk, hk.2.2.2.2.2.2.2.2.2.1⟩ : _ ∧ k_ ≠ c)))) (fun _ hk => ⟨hk.1.1, ⟨hk.1.2.1, ⟨hk.1.2.2.1, ⟨hk.1.2.2.2.1, ⟨hk.1.2.2.2.2.2.2.2.2.1, ⟨hk.1.2.2.2.2.2.2.2.2.2.1, hk.1.2.2.2.2.2.2.2.2.2.2⟩⟩⟩⟩⟩⟩)⟩, ⟨eX (zR4 (fD ZR.o Zc.o (by decide))) (fun _ hk => ⟨hk.1.1.1.1.1, ⟨hk.1.1.1.1.2.1, hk.1.1.1.1.2.2⟩⟩)⟩, ⟨by exact zfar4 Zh.o Zi.o⟩, ⟨by exact zput4 Zc.o⟩, ⟨zg_20 b.o Zg.o Zf.o⟩, ⟨zg_21 HK.o Zj.o Zk.o⟩, ⟨zg_22 HB.o b.o Zn.o Zo.o⟩⟩
       rw [if_neg d6] at H
       have z6 : (C == 4) = false := beq_eq_false_iff_ne.mpr d6
       have z7 : (C != 4) = true := bne_iff_ne.mpr d6
       by_cases f1 : (a.length : Int) > 0
       rotate_left
       ·rw [if_neg f1] at H
        have A0 := decide_eq_false f1
        have A1 : decide (0 < a.length) = false := decide_eq_false (by omega)
        clear f1
        have H' := zm H
        clear H
        go_wp2_with (first | ((with_reducible refine fJ (f := 29) rfl ?_); refine gU (some 34) rfl rfl jI (by kernel_rfl) rfl #[.pointer (some ⟨g, 0, none⟩), .int .i64 9] rfl zq ?_; (with_reducible refine (aD.calls g q r s 9 C U V y _ ?_ ?_ f2.o).mono ?_); exact (zg_20 b.o Zg.o Zf.o); exact (zg_22 HB.o b.o Zn.o Zo.o); rintro e BC ⟨rfl, hi, hb, hk⟩; refine ⟨_, rfl, ?_⟩; refine zG9 (eX (hG (IsS62.apart (show IsS62 y _ g q r s from zg_20 b.o Zg.o Zf.o) (zg_6 Za.o) (by decide)) hk (fun _ h => h.2)) (fun _ h => h.1)) (eX (hG (IsS62.apart (show IsS62 y _ g q r s from zg_20 b.o Zg.o Zf.o) (zg_6 Zd.o) (by decide)) hk (fun _ h => h.2)) (fun _ h => h.1)) (fN (lD (fN (ok := fun k_ => (((w.heap.size ≤ k_)) ∧ (some k_ ≠ ob u581000 ∧ (some k_ ≠ ob (.slice u a.length x) ∧ (some k_ ≠ ob u581003 ∧ (k_ ≠ m ∧ (k_ ≠ c ∧ k_ ≠ g))))))) (zg_4 Ze.o) (fun k_ hk_ => (⟨hk_, hk_.2.2.2.2.2.2⟩ : _ ∧ k_ ≠ g))) hk (fun _ h => h.2)) (fun _ h => h.1)) (eX (hG (IsS62.apart (show IsS62 y _ g q r s from zg_20 b.o Zg.o Zf.o) (zg_6 Zb.o) (by decide)) hk (fun _ h => h.2)) (fun _ h => h.1)) (hQ hk (g' := m) (o := .cells #[.slice none 0 0, .slice none 0 0, .slice none 0 0, .slice none 0 0] 31 (0, 0)) (zg_3 Zh.o) Zp.o (by simp)) (hQ hk (g' := c) (o := .cells #[u581000, .slice u a.length x, u581002, u581003] 31 (0, 0)) (zg_3 Zc.o) Zm.o (by simp)) (gS (zg_21 HK.o Zj.o Zk.o) hk (.inl rfl)) (hb) (hi) ?_; clear Za Zd Ze Zb Zh Zc HK HB b; intro Za Zd Ze Zb Zh Zc HK HB b; (try clear hb); (try clear hb2); (try clear hk); (try clear hi); have U9 := Zl.o; have V0 := Zi.o; have V1 := Zm.o; have V2 := Zf.o; obtain ⟨_, _, _, _, _, _, _, _⟩ := zb4 Zc.o))
        go_roundg a9
        case measure => have := HJ4.o; have := b3.o; have := HJ35.o; omega
        case rel => exact ⟨(wrap64 (b7 - 1)), (U), (V), (d), (a), (j), (l), (u581000), (.slice u a.length x), (u581002), (u581003), zr, H', ⟨by have := HJ4.o; have := b3.o; have := HJ35.o; omega⟩, ⟨zlR Za.o⟩, ⟨zlR Zd.o⟩, ⟨zlN Ze.o⟩, ⟨zlR Zb.o⟩, ⟨zl Zh.o⟩, ⟨zl Zc.o⟩, ⟨zg_20 b.o Zg.o Zf.o⟩, ⟨zg_21 HK.o Zj.o Zk.o⟩, ⟨zg_22 HB.o b.o Zn.o Zo.o⟩⟩
       rw [if_pos f1] at H; have A0 := decide_eq_true f1
       have A1 : decide (0 < a.length) = true := decide_eq_true (by omega)
       clear f1; replace H := eW.mp H
       obtain ⟨⟨o7, A5, A6⟩, r7, H⟩ := H
       try dsimp only at H
       have N6 := zm r7; clear r7; replace H := eW.mp H
       obtain ⟨⟨o8, o9, p0, p1, N7⟩, r8, H⟩ := H
       try dsimp only at H
       have N8 := zm r8; clear r8
       have H' := zm H
       clear H
       try go_wp2_with (first | ((with_reducible refine fJ (f := 29) rfl ?_); refine gU (some 34) rfl rfl jI (by kernel_rfl) rfl #[.pointer (some ⟨g, 0, none⟩), .int .i64 9] rfl zq ?_; (with_reducible refine (aD.calls g q r s 9 C U V y _ ?_ ?_ f2.o).mono ?_); exact (zg_20 b.o Zg.o Zf.o); exact (zg_22 HB.o b.o Zn.o Zo.o); rintro e N9 ⟨rfl, hi, hb, hk⟩; refine ⟨_, rfl, ?_⟩; refine zG9 (eX (hG (IsS62.apart (show IsS62 y _ g q r s from zg_20 b.o Zg.o Zf.o) (zg_6 Za.o) (by decide)) hk (fun _ h => h.2)) (fun _ h => h.1)) (eX (hG (IsS62.apart (show IsS62 y _ g q r s from zg_20 b.o Zg.o Zf.o) (zg_6 Zd.o) (by decide)) hk (fun _ h => h.2)) (fun _ h => h.1)) (fN (lD (fN (ok := fun k_ => (((w.heap.size ≤ k_)) ∧ (some k_ ≠ ob u581000 ∧ (some k_ ≠ ob (.slice u a.length x) ∧ (some k_ ≠ ob u581003 ∧ (k_ ≠ m ∧ (k_ ≠ c ∧ k_ ≠ g))))))) (zg_4 Ze.o) (fun k_ hk_ => (⟨hk_, hk_.2.2.2.2.2.2⟩ : _ ∧ k_ ≠ g))) hk (fun _ h => h.2)) (fun _ h => h.1)) (eX (hG (IsS62.apart (show IsS62 y _ g q r s from zg_20 b.o Zg.o Zf.o) (zg_6 Zb.o) (by decide)) hk (fun _ h => h.2)) (fun _ h => h.1)) (hQ hk (g' := m) (o := .cells #[.slice none 0 0, .slice none 0 0, .slice none 0 0, .slice none 0 0] 31 (0, 0)) (zg_3 Zh.o) Zp.o (by simp)) (hQ hk (g' := c) (o := .cells #[u581000, .slice u a.length x, u581002, u581003] 31 (0, 0)) (zg_3 Zc.o) Zm.o (by simp)) (gS (zg_21 HK.o Zj.o Zk.o) hk (.inl rfl)) (hb) (hi) ?_; clear Za Zd Ze Zb Zh Zc HK HB b; intro Za Zd Ze Zb Zh Zc HK HB b; (try clear hb); (try clear hb2); (try clear hk); (try clear hi); have V3 := Zl.o; have V4 := Zi.o; have V5 := Zm.o; have V6 := Zf.o; obtain ⟨_, _, _, _, _, _, _, _⟩ := zb4 Zc.o))
       have D := zm (fK Za.o); have E := zm (fK Zd.o); have F := zm (jR Ze.o); have G := zm (fK Zb.o); have I := zm (fU Zh.o); have J := zm (fU Zc.o); have L := zm (IsS62.drew b.o); have O := zm (nR HK.o); have T := zm (gA HB.o); clear Za; clear Zd; clear Ze; clear Zb; clear Zh; clear Zc; clear b; clear HK; clear HB; have Za := D; have Zd := E; have Ze := F; have Zb := G; have Zh := I; have Zc := J; have b := L; have HK := O; have HB := T; clear D E F G I J L O T
       refine mP (n := 9) (S := fun w' => w'.cell? ⟨c, 0, none⟩ = some (u581000) ∧ w'.cell? ⟨c, 1, none⟩ = some (.slice u a.length x) ∧ w'.cell? ⟨c, 2, none⟩ = some (u581002) ∧ w'.cell? ⟨c, 3, none⟩ = some (u581003)) (ds := [8]) #[ff, ff, ff, ff, ff, ff, ff, ff, ff] (by kernel_rfl) rfl rfl ⟨(eY Zc.o 0).trans rfl, (eY Zc.o 1).trans rfl, (eY Zc.o 2).trans rfl, (eY Zc.o 3).trans rfl⟩ (fun hHeld => ?_); refine kJ aA.tab12 aA.bits12 (fun HT_ HW_ => ?_)
       generalize N9.drew = BD at Za Zd Ze Zb Zh Zc b HK HB hHeld ⊢
       refine gR (i := 1) (N := some 41) #[ff, tt, ff, ff, ff, ff, ff, ff, ff] rfl rfl (gD HT_.o zk) (fun _ _ _ h => h) (.inl ⟨by rfl, zi⟩) zu ?_
       refine gR (i := 2) (N := some 42) #[ff, tt, tt, ff, ff, ff, ff, ff, ff] rfl rfl (gD HT_.o zk) (fun _ _ _ h => h) (.inl ⟨by rfl, zi⟩) zu ?_
       refine take_ (i := 0) (N := some 40) #[tt, tt, tt, ff, ff, ff, ff, ff, ff] rfl rfl (hZ HT_.o HW_.o zk) (fun _ _ _ h => h) (.inl ⟨by rfl, zi4⟩) hHeld zu ?_
       refine one_ (i := 3) (N := some 43) #[tt, tt, tt, tt, ff, ff, ff, ff, ff] rfl rfl (iS HT_.o zk) (by decide) (fun K hK => ?_)
       refine mR Tryz.func39 (by kernel_rfl) rfl #[.pointer (some ⟨g, 0, none⟩)] (by rfl) rfl rfl zq ?_
       with_reducible refine (cK.calls g q U V o7 A5 A6 y _ ?side1 ?side2 N6.o).mono ?_
       (case side1 => exact (zg_20 b.o Zg.o Zf.o))
       (case side2 => exact (zg_22 HB.o b.o Zn.o Zo.o))
       rintro e BE ⟨rfl, hi, hb, hk⟩
       refine ⟨_, rfl, ?_⟩
       have D := zm (eX (hG (IsS62.apart (show IsS62 y _ g q U V from zg_20 b.o Zg.o Zf.o) (zg_6 Za.o) (by decide)) hk (fun _ h => h.2)) (fun _ h => h.1)); have E := zm (eX (hG (IsS62.apart (show IsS62 y _ g q U V from zg_20 b.o Zg.o Zf.o) (zg_6 Zd.o) (by decide)) hk (fun _ h => h.2)) (fun _ h => h.1)); have F := zm (fN (lD (fN (ok := fun k_ => (((w.heap.size ≤ k_)) ∧ (some k_ ≠ ob u581000 ∧ (some k_ ≠ ob (.slice u a.length x) ∧ (some k_ ≠ ob u581003 ∧ (k_ ≠ m ∧ (k_ ≠ c ∧ k_ ≠ g))))))) (zg_4 Ze.o) (fun k_ hk_ => (⟨hk_, hk_.2.2.2.2.2.2⟩ : _ ∧ k_ ≠ g))) hk (fun _ h => h.2)) (fun _ h => h.1)); have G := zm (eX (hG (IsS62.apart (show IsS62 y _ g q U V from zg_20 b.o Zg.o Zf.o) (zg_6 Zb.o) (by decide)) hk (fun _ h => h.2)) (fun _ h => h.1)); have I := zm (hQ hk (g' := m) (o := .cells #[.slice none 0 0, .slice none 0 0, .slice none 0 0, .slice none 0 0] 31 (0, 0)) (zg_3 Zh.o) Zp.o (by simp)); have J := zm (hQ hk (g' := c) (o := .cells #[u581000, .slice u a.length x, u581002, u581003] 31 (0, 0)) (zg_3 Zc.o) Zm.o (by simp)); have L := zm (gS (zg_21 HK.o Zj.o Zk.o) hk (.inl rfl)); have O := zm (hb); have T := zm (hi); clear Za; clear Zd; clear Ze; clear Zb; clear Zh; clear Zc; clear HK; clear HB; clear b; have Za := D; have Zd := E; have Ze := F; have Zb := G; have Zh := I; have Zc := J; have HK := L; have HB := O; have b := T; clear D E F G I J L O T
       (try clear hb)
       (try clear hb2)
       (try clear hk)
       (try clear hi)
       obtain ⟨e4, e5, r9⟩ := fA Za.o
       (first | subst r9 | (injection r9 with f1_ f2_ f3_; have f4_ := f1_.symm; have f5_ := f3_.symm; clear f1_ f2_ f3_; subst f4_; subst f5_))
       obtain ⟨e6, e7, s4⟩ := iR Ze.o
       (first | subst s4 | (injection s4 with f1_ f2_ f3_; have f4_ := f1_.symm; have f5_ := f3_.symm; clear f1_ f2_ f3_; subst f4_; subst f5_))
       obtain ⟨e8, e9, s5⟩ := fA Zb.o
       (first | subst s5 | (injection s5 with f1_ f2_ f3_; have f4_ := f1_.symm; have f5_ := f3_.symm; clear f1_ f2_ f3_; subst f4_; subst f5_))
       refine hK.out _ _ ⟨(eY Zc.o 0).trans rfl, (eY Zc.o 1).trans rfl, (eY Zc.o 2).trans rfl, (eY Zc.o 3).trans rfl⟩ (fun hHeld => ?_)
       clear hK K
       refine jV (a' := ?_) ?_ ?_
       rotate_left
       ·show gE _ (some 43) _ = _
        simp only [gE, zs, zz, zt, iQ, jF]
        rfl
       refine one_ (i := 4) (N := some 44) #[tt, tt, tt, tt, tt, ff, ff, ff, ff] rfl rfl (iS HT_.o zk) (by decide) (fun K hK => ?_)
       refine mR Tryz.func38 (by kernel_rfl) rfl #[.agg #[.slice e4 d.length e5, .slice u a.length x, .slice e6 j.length e7, .slice e8 l.length e9], .int .i64 c9, .int .i64 o7] (by rfl) rfl rfl zq ?_
       with_reducible refine (bQ.calls a9 _ _ d _ _ a _ _ j _ _ l c9 o7 o8 o9 p0 p1 N7 _ ?side1 ?side2 ?side3 ?side4 ?side5 ?side6 ?side7 ?side8 N8.o).mono ?_
       (case side1 => exact zC ((fC Za.o).2.2))
       (case side2 => exact (fC Za.o).2.1)
       (case side3 => exact zC ((fC Zd.o).2.2))
       (case side4 => exact (fC Zd.o).2.1)
       (case side5 => exact zC ((gZ Ze.o).2.2))
       (case side6 => exact (gZ Ze.o).2.1)
       (case side7 => exact zC ((fC Zb.o).2.2))
       (case side8 => exact (fC Zb.o).2.1)
       rintro e k1 ⟨O0, O1, BF, O2, rfl, z, A, X, B, hb⟩
       refine ⟨_, rfl, ?_⟩
       have D := zm (eX (gK (gK (gK (kH (zg_6 Za.o) hb) (fH z)) (fH A)) (fH B)) (fun _ h_ => h_.1)); have E := zm (eX (gK (gK (gK (kH (zg_6 Zd.o) hb) (fH z)) (fH A)) (fH B)) (fun _ h_ => h_.1)); have F := zm (fN (iC (iC (iC (iC (nM (zg_4 Ze.o) hb) (fH z)) (fH A)) (lA (mG X))) (fH B)) (fun _ h_ => h_.1)); have G := zm (eX (gK (gK (gK (kH (zg_6 Zb.o) hb) (fH z)) (fH A)) (fH B)) (fun _ h_ => h_.1)); have I := zm (fL (fT (fT (fT (iM (M := fun k_ => (w.heap.size ≤ k_)) z (gI (w := w) (g := g) (row := none) (zg_21 HK.o Zj.o Zk.o)) (fun k_ h_ => h_)) (fO (zg_6 Za.o))) (fO (zg_6 Zd.o))) (fO (zg_6 Zb.o))) (gI (w := w) (g := g) (row := none) (zg_21 HK.o Zj.o Zk.o))); have J := zm (fL (fT (fT (fT (iM (M := fun k_ => (w.heap.size ≤ k_)) A (gI (w := w) (g := g) (row := none) (zg_21 HK.o Zj.o Zk.o)) (fun k_ h_ => h_)) (fO (zg_6 Za.o))) (fO (zg_6 Zd.o))) (fO (zg_6 Zb.o))) (gI (w := w) (g := g) (row := none) (zg_21 HK.o Zj.o Zk.o))); have L := zm (jK (fN (ok' := fun k_ => (w.heap.size ≤ k_) ∧ some k_ ≠ ob O0 ∧ some k_ ≠ ob O1 ∧ some k_ ≠ ob O2 ∧ some k_ ≠ ob (.slice e4 d.length e5) ∧ some k_ ≠ ob (.slice u a.length x) ∧ some k_ ≠ ob (.slice e6 j.length e7) ∧ some k_ ≠ ob (.slice e8 l.length e9) ∧ k_ ≠ m ∧ k_ ≠ c ∧ k_ ≠ g) (mG (kD X)) (fun k_ hk_ => ⟨(hU (gI (w := w) (g := g) (row := none) (zg_21 HK.o Zj.o Zk.o)) hk_.2.1), hk_.1.1, hk_.1.2.1, hk_.1.2.2, (gF (fO (zg_6 Za.o)) k_ hk_.2.1), (gF (fO (zg_6 Zd.o)) k_ hk_.2.1), (gF (nV (zg_4 Ze.o)) k_ hk_.2.1), (gF (fO (zg_6 Zb.o)) k_ hk_.2.1), (iB (g := m) (o := .cells #[.slice none 0 0, .slice none 0 0, .slice none 0 0, .slice none 0 0] 31 (0, 0)) (zg_3 Zh.o) k_ hk_.2.1), (iB (g := c) (o := .cells #[.slice e4 d.length e5, .slice u a.length x, .slice e6 j.length e7, .slice e8 l.length e9] 31 (0, 0)) (zg_3 Zc.o) k_ hk_.2.1), (IsS62.fresh (zg_20 b.o Zg.o Zf.o) k_ hk_.2.1)⟩)) (gI (w := w) (g := g) (row := none) (zg_21 HK.o Zj.o Zk.o))); have O := zm (fL (fT (fT (fT (iM (M := fun k_ => (w.heap.size ≤ k_)) B (gI (w := w) (g := g) (row := none) (zg_21 HK.o Zj.o Zk.o)) (fun k_ h_ => h_)) (fO (zg_6 Za.o))) (fO (zg_6 Zd.o))) (fO (zg_6 Zb.o))) (gI (w := w) (g := g) (row := none) (zg_21 HK.o Zj.o Zk.o))); have T := zm (fB (g := m) (o := .cells #[.slice none 0 0, .slice none 0 0, .slice none 0 0, .slice none 0 0] 31 (0, 0)) (zg_3 Zh.o) hb); have c6 := zm (fB (g := c) (o := .cells #[.slice e4 d.length e5, .slice u a.length x, .slice e6 j.length e7, .slice e8 l.length e9] 31 (0, 0)) (zg_3 Zc.o) hb); have b0 := zm (IsS62.below (zg_20 b.o Zg.o Zf.o) hb); have b1 := zm (gS (zg_21 HK.o Zj.o Zk.o) (jO hb g none) (.inl rfl)); have b2 := zm (eZ (zg_22 HB.o b.o Zn.o Zo.o) hb); clear Za; clear Zd; clear Ze; clear Zb; clear Zh; clear Zc; clear b; clear HK; clear HB; have Za := D; have Zd := E; have Ze := F; have Zb := G; have ZS := I; have ZT := J; have ZU := L; have ZV := O; have Zh := T; have Zc := c6; have b := b0; have HK := b1; have HB := b2; clear D E F G I J L O T c6 b0 b1 b2
       (try clear hb)
       (try clear hb2)
       (try clear hk)
       (try clear hi)
       (try clear z)
       (try clear A)
       (try clear X)
       (try clear B)
       obtain ⟨E5, E6, s6⟩ := fA ZS.o
       (first | subst s6 | (injection s6 with f1_ f2_ f3_; have f4_ := f1_.symm; have f5_ := f3_.symm; clear f1_ f2_ f3_; subst f4_; subst f5_))
       obtain ⟨E7, E8, s7⟩ := fA ZT.o
       (first | subst s7 | (injection s7 with f1_ f2_ f3_; have f4_ := f1_.symm; have f5_ := f3_.symm; clear f1_ f2_ f3_; subst f4_; subst f5_))
       obtain ⟨E9, F0, s8⟩ := iR ZU.o
       (first | subst s8 | (injection s8 with f1_ f2_ f3_; have f4_ := f1_.symm; have f5_ := f3_.symm; clear f1_ f2_ f3_; subst f4_; subst f5_))
       obtain ⟨F1, F2, s9⟩ := fA ZV.o
       (first | subst s9 | (injection s9 with f1_ f2_ f3_; have f4_ := f1_.symm; have f5_ := f3_.symm; clear f1_ f2_ f3_; subst f4_; subst f5_))
       refine hK.out _ _ ⟨(eY Zc.o 0).trans rfl, (eY Zc.o 1).trans rfl, (eY Zc.o 2).trans rfl, (eY Zc.o 3).trans rfl⟩ (fun hHeld => ?_)
       clear hK K
       refine jV (a' := ?_) ?_ ?_
       rotate_left
       ·show gE _ (some 44) _ = _
        simp only [gE, zs, zz, zt, iQ, jF]
        rfl
       refine gR (i := 5) (N := some 39) #[tt, tt, tt, tt, tt, tt, ff, ff, ff] rfl rfl (gD HT_.o zk) (fun _ _ _ h => h) (.inl ⟨by rfl, zi⟩) zu ?_
       refine gR (i := 6) (N := some 45) #[tt, tt, tt, tt, tt, tt, tt, ff, ff] rfl rfl (gD HT_.o zk) (fun _ _ _ h => h) (.inl ⟨by rfl, zi⟩) zu ?_
       refine gR (i := 7) (N := some 46) #[tt, tt, tt, tt, tt, tt, tt, tt, ff] rfl rfl (gD HT_.o zk) (fun _ _ _ h => h) (.inl ⟨by rfl, zi⟩) zu ?_
       refine last_ (i := 8) (N := none) #[tt, tt, tt, tt, tt, tt, tt, tt, tt] rfl rfl (iS HT_.o zk) (by decide) (fun K hK => ?_)
       have Z3 : k1.cell? ⟨c, 0, none⟩ = some (.slice e4 d.length e5) := (eY Zc.o 0).trans rfl
       have V7 := gL Zc.o 0; have O3 := Zi.o; have O4 := Zl.o
       have Z4 : k1.cell? ⟨c, 1, none⟩ = some (.slice u a.length x) := (eY Zc.o 1).trans rfl
       have V8 := gL Zc.o 1; have O5 := Zi.o; have O6 := Zl.o
       have Z5 : k1.cell? ⟨c, 2, none⟩ = some (.slice e6 j.length e7) := (eY Zc.o 2).trans rfl
       have V9 := gL Zc.o 2; have O7 := Zi.o; have O8 := Zl.o
       have Z6 : k1.cell? ⟨c, 3, none⟩ = some (.slice e8 l.length e9) := (eY Zc.o 3).trans rfl
       have W0 := gL Zc.o 3; have O9 := Zi.o; have P0 := Zl.o
       refine skip_ (w1 := ?_) (by rfl) rfl ?_ ?_
       rotate_left
       ·go_simp
        rfl
       refine hK.out _ _ ?_
       clear hK K
       refine done_ (mE HT_.o zk) ?_
       try go_wp2
       go_roundg a9
       case measure => have := HJ4.o; have := b3.o; have := HJ35.o; omega
       case rel => exact ⟨(wrap64 (b7 - 1)), (A5), (A6), (o8), (o9), (p0), (p1), (.slice E5 o8.length E6), (.slice E7 o9.length E8), (.slice E9 p0.length F0), (.slice F1 p1.length F2), zr, H', ⟨by have := HJ4.o; have := b3.o; have := HJ35.o; omega⟩, ⟨eX (zR4 (fD ZS.o Zc.o (by decide))) (fun _ hk => ⟨hk.1.1.1.1.1, ⟨hk.1.1.1.1.2.1, hk.1.1.1.1.2.2⟩⟩)⟩, ⟨eX (zR4 (fD ZT.o Zc.o (by decide))) (fun _ hk => ⟨hk.1.1.1.1.1, ⟨hk.1.1.1.1.2.1, hk.1.1.1.1.2.2⟩⟩)⟩, ⟨fN (zN4 (fN ZU.o (fun k_ hk => (⟨hk, hk.2.2.2.2.2.2.2.2.2.1⟩ : _ ∧ k_ ≠ c)))) (fun _ hk => ⟨hk.1.1, ⟨hk.1.2.1, ⟨hk.1.2.2.1, ⟨hk.1.2.2.2.1, ⟨hk.1.2.2.2.2.2.2.2.2.1, ⟨hk.1.2.2.2.2.2.2.2.2.2.1, hk.1.2.2.2.2.2.2.2.2.2.2⟩⟩⟩⟩⟩⟩)⟩, ⟨eX (zR4 (fD ZV.o Zc.o (by decide))) (fun _ hk => ⟨hk.1.1.1.1.1, ⟨hk.1.1.1.1.2.1, hk.1.1.1.1.2.2⟩⟩)⟩, ⟨by exact zfar4 Zh.o Zi.o⟩, ⟨by exact zput4 Zc.o⟩, ⟨zg_20 b.o Zg.o Zf.o⟩, ⟨zg_21 HK.o Zj.o Zk.o⟩, ⟨zg_22 HB.o b.o Zn.o Zo.o⟩⟩
def cU.f (k : Nat) (l0 : List Int) : Option (List Int × List Int × (List (S60)) × List Int) := (dJ.f l0).bind fun bt715 => ((aA.f k bt715.1 bt715.2.1 bt715.2.2).bind fun bt719 => (some (bt719.1, bt719.2.1, bt719.2.2.1, bt719.2.2.2.1)))
set_option maxHeartbeats 8000000 in
set_option maxRecDepth 100000 in
theorem cU.calls (k : Nat) (I : Option Addr) (J : Nat) (i : List Int) (Z : List Int) (r2 : List Int) (r3 : List (S60)) (r4 : List Int) (w : World) (x : Kd.C (fG .u8) w I i.length i) (y : i.length ≤ J) (h : cU.f k i = some (Z, r2, r3, r4)) :
    Calls Tryz.prog 5 #[.slice I i.length J] w fun e w' => ∃ b c z d : Value, e = .returned (.agg #[b, c, z, d]) ∧ Kd.R (fG .i64) 3 w' w.heap.size (fun k_ => (w.heap.size ≤ k_) ∧ some k_ ≠ ob c ∧ some k_ ≠ ob d) b Z ∧ Kd.R (fG .i64) 3 w' w.heap.size (fun k_ => (w.heap.size ≤ k_) ∧ some k_ ≠ ob b ∧ some k_ ≠ ob d) c r2 ∧ Kd.N k60 60 w' w.heap.size (fun k_ => (w.heap.size ≤ k_) ∧ some k_ ≠ ob b ∧ some k_ ≠ ob c ∧ some k_ ≠ ob d) z r3 ∧ Kd.R (fG .i64) 3 w' w.heap.size (fun k_ => (w.heap.size ≤ k_) ∧ some k_ ≠ ob b ∧ some k_ ≠ ob c) d r4 ∧ Below w.heap.size w w' := by
 have hu31 := fW; have a3 := zm x; have a4 := zm y; clear x y; have HB := zm (Below.refl w.heap.size w); have H := h
 unfold cU.f at H
 clear h; replace H := eW.mp H
 obtain ⟨⟨n, p, q⟩, A, H⟩ := H
 try dsimp only at H
 have A2 := zm A; clear A; replace H := eW.mp H
 obtain ⟨⟨r, s, u, v, L, O⟩, B, H⟩ := H
 try dsimp only at H
 have A3 := zm B; clear B
 simp only [gC, gP] at H
 obtain ⟨rfl, rfl, rfl, rfl⟩ := H
 go_enter Tryz.func5, Tryz.ntmps5
 go_wp2_with (first | ((with_reducible refine gate_dst (N := 2) rfl ?_); refine fS zo (N := 2) zo (cs := #[.slice none 0 0, .slice none 0 0, .slice none 0 0, .slice none 0 0]) (t := 31) zh ?_; intro a hg w4 hbox hb; refine zG4 (eZ (zg_1 HB.o) hb) (hbox) ((by rw [hg]; exact (eV (zg_1 HB.o)) : w.heap.size ≤ a)) ((by rw [hg]; exact (eV (zg_1 HB.o)) : w.heap.size ≤ a)) ?_; clear HB; intro HB Za Zj Zc; clear hb hbox hg) | ((with_reducible refine fJ (f := 14) rfl ?_); refine gU (some 4) rfl rfl Tryz.func14 (by kernel_rfl) rfl #[.slice I i.length J] rfl zq ?_; (with_reducible refine (dJ.calls _ _ i n p q w _ ?_ ?_ ?_ A2.o).mono ?_); exact (zg_2 HB.o Zc.o); exact a3.o; exact a4.o; rintro e w5 ⟨g718, rfl, hi, hb, hb2⟩; refine ⟨_, rfl, ?_⟩; refine zG5 (fB (g := a) (o := .cells #[.slice none 0 0, .slice none 0 0, .slice none 0 0, .slice none 0 0] 31 (0, 0)) (zg_3 Za.o) hb2) (hb) (hi) (IsS62.ne_blk hi (fB (g := a) (o := .cells #[.slice none 0 0, .slice none 0 0, .slice none 0 0, .slice none 0 0] 31 (0, 0)) (zg_3 Za.o) hb2) (by decide)) (Ne.symm (IsS62.ne_blk hi (fB (g := a) (o := .cells #[.slice none 0 0, .slice none 0 0, .slice none 0 0, .slice none 0 0] 31 (0, 0)) (zg_3 Za.o) hb2) (by decide))) ?_; clear Za HB; intro Za HB Zb Zd Ze; (try clear hb); (try clear hb2); (try clear hk); (try clear hi)) | ((with_reducible refine fJ (f := 15) rfl ?_); refine gU (some 5) rfl rfl Tryz.func15 (by kernel_rfl) rfl #[.pointer (some ⟨g718, 0, none⟩)] rfl zq ?_; (with_reducible refine (aA.calls k g718 n p q r s u v L O w _ ?_ ?_ A3.o).mono ?_); exact (zg_17 Zb.o Zd.o); exact (zg_18 HB.o Zb.o Zc.o); rintro e w6 ⟨j, l, a9, m, rfl, D, E, F, G, hi, hb, hk⟩; refine ⟨_, rfl, ?_⟩; refine zG7 (hQ hk (g' := a) (o := .cells #[.slice none 0 0, .slice none 0 0, .slice none 0 0, .slice none 0 0] 31 (0, 0)) (zg_3 Za.o) Ze.o (by simp)) (fL (iM (M := fun k_ => (w.heap.size ≤ k_)) (eX (ok' := fun k_ => some k_ ≠ ob l ∧ some k_ ≠ ob m) D (fun _ hk_ => hk_.2)) (eV (zg_18 HB.o Zb.o Zc.o)) (fun k_ h_ => h_)) (eV (zg_18 HB.o Zb.o Zc.o))) (fL (iM (M := fun k_ => (w.heap.size ≤ k_)) (eX (ok' := fun k_ => some k_ ≠ ob j ∧ some k_ ≠ ob m) E (fun _ hk_ => hk_.2)) (eV (zg_18 HB.o Zb.o Zc.o)) (fun k_ h_ => h_)) (eV (zg_18 HB.o Zb.o Zc.o))) (jK (fN (ok' := fun k_ => (w.heap.size ≤ k_) ∧ some k_ ≠ ob j ∧ some k_ ≠ ob l ∧ some k_ ≠ ob m ∧ k_ ≠ a ∧ k_ ≠ g718) F (fun k_ hk_ => ⟨(hU (eV (zg_18 HB.o Zb.o Zc.o)) hk_.1), hk_.2.1, hk_.2.2.1, hk_.2.2.2, (iB (g := a) (o := .cells #[.slice none 0 0, .slice none 0 0, .slice none 0 0, .slice none 0 0] 31 (0, 0)) (zg_3 Za.o) k_ hk_.1), (IsS62.fresh (zg_17 Zb.o Zd.o) k_ hk_.1)⟩)) (eV (zg_18 HB.o Zb.o Zc.o))) (fL (iM (M := fun k_ => (w.heap.size ≤ k_)) (eX (ok' := fun k_ => some k_ ≠ ob j ∧ some k_ ≠ ob l) G (fun _ hk_ => hk_.2)) (eV (zg_18 HB.o Zb.o Zc.o)) (fun k_ h_ => h_)) (eV (zg_18 HB.o Zb.o Zc.o))) (hb) (hi) ?_; clear Za HB Zb; intro Za Zf Zg Zh Zi HB Zb; (try clear hb); (try clear hb2); (try clear hk); (try clear hi); (try clear D); (try clear E); (try clear F); (try clear G); obtain ⟨a5, a6, rfl⟩ := fA Zf.o; have b0 := Ze.o; have b1 := Zd.o; obtain ⟨_, _, _, _, _, _, _, _⟩ := zb4 Za.o; obtain ⟨S, T, rfl⟩ := fA Zg.o; obtain ⟨U, V, rfl⟩ := iR Zh.o; obtain ⟨X, Y, rfl⟩ := fA Zi.o))
 refine bodyPost_ret (jE rfl _ _ a 31 #[.slice a5 r.length a6, .slice S s.length T, .slice U u.length V, .slice X v.length Y] (0, 0) _ rfl (by exact zput4 Za.o) fW rfl (by kernel_rfl)) rfl ?_
 exact ⟨_, _, _, _, ze, eX (zR4 (fD Zf.o Za.o (by decide))) (fun _ hk => ⟨hk.1.1, ⟨hk.1.2.1, hk.1.2.2⟩⟩), eX (zR4 (fD Zg.o Za.o (by decide))) (fun _ hk => ⟨hk.1.1, ⟨hk.1.2.1, hk.1.2.2⟩⟩), fN (zN4 (fN Zh.o (fun k_ hk => (⟨hk, hk.2.2.2.2.1⟩ : _ ∧ k_ ≠ a)))) (fun _ hk => ⟨hk.1.1, ⟨hk.1.2.1, ⟨hk.1.2.2.1, hk.1.2.2.2.1⟩⟩⟩), eX (zR4 (fD Zi.o Za.o (by decide))) (fun _ hk => ⟨hk.1.1, ⟨hk.1.2.1, hk.1.2.2⟩⟩), zg_18 HB.o Zb.o Zc.o⟩
end Go.Proofs.YtniceoohmhjjlaaGreatDoor.Q
