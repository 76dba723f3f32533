/- What laws.FnShots reaches, part 7: the functions as Lean functions, the proofs that the program's functions answer so, and plain laws about them. -/
import Derived.Test.YtniceoohmhjjlaaGreatDoorKFnShots1
import Derived.Test.YtniceoohmhjjlaaGreatDoorKFnShots4
import Derived.Test.YtniceoohmhjjlaaGreatDoorKFnShots6
namespace Go.Proofs.YtniceoohmhjjlaaGreatDoor.Q
open Go.RowKit Go.Proofs.YtniceoohmhjjlaaGreatDoor.Ext Go.Proofs.YtniceoohmhjjlaaGreatDoorW.PrintWords Go.Proofs.YtniceoohmhjjlaaGreatDoorW.PrintLast Go.Proofs.YtniceoohmhjjlaaGreatDoorW.PrintMore
attribute [local go_sem] max2_int min2_int max_two min_two max_three min_three max_four min_four   -- for this text's walks alone
open Bool renaming true → tt, false → ff
open Go.Value renaming ownBlock → ob
open Go renaming bodyPost_ret → iD
open Go.Act renaming put → gE
open Go.Addr renaming add → kW
open Go.IntKind renaming i64 → nK
open Go.Proofs.Tryz renaming func40 → lJ, func62 → nL, func65 → lV, prog → fM, underlying31 → fW
open Go.Proofs.YtniceoohmhjjlaaGreatDoorW.PrintLast renaming any_of → gD, goesL_ → gU, i32_w → jF, i64_w → iQ, one_of → iS, pure_ → gR, take_ → kA, take_ofW → hZ, with_tabW → kJ
open Go.Proofs.YtniceoohmhjjlaaGreatDoorW.PrintWords renaming add_block → hY, below_drew1 → gA, below_set → iG, below_size → eV, below_step → eZ, blk_alloc → fV, blk_below → fB, blk_cell → eY, blk_drew → fU, blk_drewN → gG, blk_frozen → gL, blk_grown → gW, blk_kept → mU, blk_lt → hO, blk_put → jS, box_event → fS, cell_far → mA, gate_callee → fJ, gate_dst → fP, gate_store → jG, results_ct → lE
open Go.Proofs.YtniceoohmhjjlaaGreatDoorW.PrintWords.Drawn0 renaming refl → hJ, step → hM
open Go.Proofs.YtniceoohmhjjlaaGreatDoorW.PrintWords.Kd renaming C_alloc → mM, C_below → fE, C_drew → mH, C_drewN → mN, R_after → iK, R_alloc → fY, R_base → fH, R_below → fI, R_celln → jL, R_drew → fK, R_drewN → fZ, R_elder' → iZ, R_far → fR, R_form → mI, R_lower → fL, R_lt → fO, R_mono → eX, R_ne → gJ, R_new' → fT, R_putg → mT, R_reads' → fC, R_slice → fA, R_tight → jH, R_types → fD, S_after → mQ, S_alloc → jA, S_bound → kD, S_drew → iU, S_drewN → jB, S_far → iW, S_lower → mX, S_mono → gQ, S_reads' → lC, S_slice → iF, S_types → hX, at_int → gY, fresh' → gF, int → fG, own_blk → oC
open Go.RowKit.Below renaming refl → fX
open Go.World renaming block_lt_of_cell? → eU, drewN → mK
open _root_.Nat renaming le_refl → fQ, ne_of_gt → gT, ne_of_lt → gN
open _root_.Option renaming bind_eq_some_iff → eW
open _root_.Option.some renaming inj → fF, injEq → gC
open _root_.Or renaming elim → gM
open _root_.Prod.mk renaming injEq → gP
set_option linter.unusedVariables false
set_option linter.unusedSimpArgs false

set_option linter.unusedVariables false
set_option linter.unusedSimpArgs false
def aM.l0 : Nat → Int → Int → List Int → List Int → List (S60) → List Int → Option (List Int × List Int × (List (S60)) × List Int × Int)
  | 0, _, _, _, _, _, _ => none
  | k + 1, x6, x7, x402000, x402001, x402002, x402003 => if x7 < (x402001.length : Int) then (if 0 ≤ x7 then ((cC.f x402000 x402001 x402002 x402003 (rd x402001 x7)).bind fun bt430 => (aM.l0 k x6 (wrap64 (x7 + 1)) bt430.1 bt430.2.1 bt430.2.2.1 bt430.2.2.2)) else (none)) else ((some (([] : List Int) : List Int)).bind fun y442 => (if 0 ≤ x6 then (if x6 < (x402002.length : Int) then (if y442.length + ((aH x402002 x6).f1).length < 17592186044416 then (some (x402000, (y442 ++ ((aH x402002 x6).f1)), x402002, x402003, 0)) else (none)) else (none)) else (none)))
def aM.f (k : Nat) (l0_0 : List Int) (l0_1 : List Int) (l0_2 : List (S60)) (l0_3 : List Int) (a1 : ByteArray) : Option (List Int × List Int × (List (S60)) × List Int × Int) := (aE.f k l0_0 l0_1 l0_2 l0_3).bind fun bt403 => ((bE.f k bt403.1 bt403.2.1 bt403.2.2.1 bt403.2.2.2 a1).bind fun t415 => (if t415 < 0 then (some (bt403.1, bt403.2.1, bt403.2.2.1, bt403.2.2.2, 5)) else (if 0 ≤ t415 then (if t415 < (bt403.2.2.1.length : Int) then ((aV.f k bt403.1 bt403.2.1 bt403.2.2.1 bt403.2.2.2 ((aH bt403.2.2.1 t415).f1)).bind fun bt417 => (aM.l0 k t415 0 bt417.1 bt417.2.1 bt417.2.2.1 bt417.2.2.2)) else (none)) else (none))))
def aM.T5 : Bool × List (List Nat × List Nat) := (true, [([], []), ([], []), ([1], [1]), ([], []), ([2, 3], [2, 3]), ([4], [4]), ([5], [5]), ([0, 6], [0, 6]), ([7, 7, 0, 1, 2, 3, 4, 5, 6, 7], [7])])
def aM.B5 : List Nat := [0, 0, 2, 0, 14, 30, 62, 127, 255]
theorem aM.tab5 : rtab .any (opsOf Tryz.f35 5) = aM.T5 := by kernel_rfl
theorem aM.bits5 : waitsOk aM.T5.2 aM.B5 = true := by kernel_rfl
def aM.T9 : Bool × List (List Nat × List Nat) := (true, [([], []), ([], []), ([1], [1]), ([], []), ([2, 3], [2, 3]), ([4], [4]), ([0, 5], [0, 5]), ([6, 6, 0, 1, 2, 3, 4, 5, 6], [6])])
def aM.B9 : List Nat := [0, 0, 2, 0, 14, 30, 63, 127]
theorem aM.tab9 : rtab .any (opsOf Tryz.f35 9) = aM.T9 := by kernel_rfl
theorem aM.bits9 : waitsOk aM.T9.2 aM.B9 = true := by kernel_rfl
set_option maxHeartbeats 8000000 in
set_option maxRecDepth 100000 in
theorem aM.calls (k : Nat) (B : Option Addr) (D : Nat) (x : List Int) (F : Option Addr) (G : Nat) (y : List Int) (I : Option Addr) (J : Nat) (z : List (S60)) (L : Option Addr) (M : Nat) (A : List Int) (a1 : ByteArray) (r1 : List Int) (r2 : List Int) (r3 : List (S60)) (r4 : List Int) (r5 : Int) (w : World) (i3 : Kd.C (fG .i64) w B x.length x) (i4 : x.length ≤ D) (i5 : Kd.C (fG .i64) w F y.length y) (i6 : y.length ≤ G) (i7 : Kd.C k60 w I z.length z) (i8 : z.length ≤ J) (i9 : Kd.C (fG .i64) w L A.length A) (j0 : A.length ≤ M) (h : aM.f k x y z A a1 = some (r1, r2, r3, r4, r5)) :
    Calls fM 35 #[.agg #[.slice B x.length D, .slice F y.length G, .slice I z.length J, .slice L A.length M], .string a1] w fun e w' => ∃ g1 g2 m1 g3 : Value, e = .returned (.tuple #[.agg #[g1, g2, m1, g3], .int .i64 r5]) ∧ Kd.R (fG .i64) 3 w' w.heap.size (fun k_ => some k_ ≠ ob g2 ∧ some k_ ≠ ob g3) g1 r1 ∧ Kd.R (fG .i64) 3 w' w.heap.size (fun k_ => some k_ ≠ ob g1 ∧ some k_ ≠ ob g3) g2 r2 ∧ Kd.S k60 60 w' w.heap.size (fun k_ => some k_ ≠ ob g1 ∧ some k_ ≠ ob g2 ∧ some k_ ≠ ob g3) m1 r3 ∧ Kd.R (fG .i64) 3 w' w.heap.size (fun k_ => some k_ ≠ ob g1 ∧ some k_ ≠ ob g2) g3 r4 ∧ Below w.heap.size w w' := by
 have hu31 := fW; have Zu := zm i3; have Zv := zm i4; clear i3 i4; have Zw := zm i5; have Zx := zm i6; clear i5 i6; have Zy := zm i7; have Zz := zm i8; clear i7 i8; have ZA := zm i9; have ZB := zm j0; clear i9 j0; have HB := zm (fX w.heap.size w); have H := h
 unfold aM.f at H
 clear h; replace H := eW.mp H
 obtain ⟨⟨q, r, u, s⟩, m2, H⟩ := H
 try dsimp only at H
 have A3 := zm m2; clear m2; replace H := eW.mp H
 obtain ⟨v, m3, H⟩ := H
 try dsimp only at H
 have A4 := zm m3; clear m3
 by_cases c5 : v < 0
 ·rw [if_pos c5] at H
  have j9 := decide_eq_true c5; clear c5
  simp only [gC, gP] at H
  obtain ⟨rfl, rfl, rfl, rfl, rfl⟩ := H
  go_enter Tryz.func35, Tryz.ntmps35
  go_wp2_with (first | ((with_reducible refine fP (N := 2) rfl ?_); refine fS zo (N := 2) zo (cs := #[.slice B x.length D, .slice F y.length G, .slice I z.length J, .slice L A.length M]) (t := 31) zh ?_; intro a hg w6 hbox hb; refine zG4 (eZ (zg_1 HB.o) hb) (hbox) ((by rw [hg]; exact (eV (zg_1 HB.o)) : w.heap.size ≤ a)) ((by rw [hg]; exact (eV (zg_1 HB.o)) : w.heap.size ≤ a)) ?_; clear HB; intro HB Za ZL Zi; clear hb hbox hg) | ((with_reducible refine fP (N := 4) rfl ?_); refine fS zo (N := 4) zo (cs := #[.slice none 0 0, .slice none 0 0, .slice none 0 0, .slice none 0 0]) (t := 31) zh ?_; intro l hg w7 hbox hb; refine zG7 (fB (g := a) (o := .cells #[.slice B x.length D, .slice F y.length G, .slice I z.length J, .slice L A.length M] 31 (0, 0)) (zg_3 Za.o) hb) (eZ (zg_2 HB.o Zi.o) hb) (hbox) ((by rw [hg]; exact (eV (zg_2 HB.o Zi.o)) : w.heap.size ≤ l)) ((by rw [hg]; exact (eV (zg_2 HB.o Zi.o)) : w.heap.size ≤ l)) ((by rw [hg]; exact gN (hO (g := a) (o := .cells #[.slice B x.length D, .slice F y.length G, .slice I z.length J, .slice L A.length M] 31 (0, 0)) (zg_3 Za.o)) : a ≠ l)) ((by rw [hg]; exact gT (hO (g := a) (o := .cells #[.slice B x.length D, .slice F y.length G, .slice I z.length J, .slice L A.length M] 31 (0, 0)) (zg_3 Za.o)) : l ≠ a)) ?_; clear Za HB; intro Za HB Zb ZM Zn Zh Zc; clear hb hbox hg; have u5 := Zh.o; have u6 := Zc.o; obtain ⟨_, _, _, _, _, _, _, _⟩ := zb4 Za.o) | ((with_reducible refine fJ (f := 40) rfl ?_); refine gU (some 9) rfl rfl lJ (by kernel_rfl) rfl #[.agg #[.slice B x.length D, .slice F y.length G, .slice I z.length J, .slice L A.length M]] rfl zq ?_; (with_reducible refine (aE.calls k _ _ x _ _ y _ _ z _ _ A q r u s _ ?_ ?_ ?_ ?_ ?_ ?_ ?_ ?_ A3.o).mono ?_); exact zC (fE Zu.o HB.o); exact Zv.o; exact zC (fE Zw.o HB.o); exact Zx.o; exact zC (fE Zy.o HB.o); exact Zz.o; exact zC (fE ZA.o HB.o); exact ZB.o; rintro e r9 ⟨m7, m8, m9, n0, rfl, b5, b6, b7, b8, hb⟩; refine ⟨_, rfl, ?_⟩; refine zG7 (fL b5 (eV (zg_5 HB.o Zi.o Zn.o))) (fL b6 (eV (zg_5 HB.o Zi.o Zn.o))) (mX b7 (eV (zg_5 HB.o Zi.o Zn.o))) (fL b8 (eV (zg_5 HB.o Zi.o Zn.o))) (fB (g := a) (o := .cells #[.slice B x.length D, .slice F y.length G, .slice I z.length J, .slice L A.length M] 31 (0, 0)) (zg_3 Za.o) hb) (fB (g := l) (o := .cells #[.slice none 0 0, .slice none 0 0, .slice none 0 0, .slice none 0 0] 31 (0, 0)) (zg_3 Zb.o) hb) (eZ (zg_5 HB.o Zi.o Zn.o) hb) ?_; clear Za Zb HB; intro Zj Zk Zm Zl Za Zb HB; (try clear hb); (try clear hb2); (try clear hk); (try clear hi); (try clear b5); (try clear b6); (try clear b7); (try clear b8); obtain ⟨a5, a6, rfl⟩ := fA Zj.o; obtain ⟨_, _, _, _, _, _, _, _⟩ := zb4 Za.o; obtain ⟨a7, a8, rfl⟩ := fA Zk.o; obtain ⟨d7, d8, rfl⟩ := iF Zm.o; obtain ⟨a9, b0, rfl⟩ := fA Zl.o) | ((with_reducible refine jG (t := 31) (p := 2) rfl ?_); refine zst (w1 := ((((r9.setCell ⟨a, 0, none⟩ (.slice a5 q.length a6)).setCell ⟨a, 1, none⟩ (.slice a7 r.length a8)).setCell ⟨a, 2, none⟩ (.slice d7 u.length d8)).setCell ⟨a, 3, none⟩ (.slice a9 s.length b0))) rfl rfl rfl zh ?_; intro e4 hw; refine zG7 (by rw [hw]; exact (eX (zR4 (fD Zj.o Za.o (by decide))) (fun _ hk => ⟨hk.1.1, hk.1.2⟩)) : Kd.R (fG .i64) 3 e4 w.heap.size (fun k_ => some k_ ≠ ob (.slice a7 r.length a8) ∧ some k_ ≠ ob (.slice a9 s.length b0)) (.slice a5 q.length a6) q) (by rw [hw]; exact (eX (zR4 (fD Zk.o Za.o (by decide))) (fun _ hk => ⟨hk.1.1, hk.1.2⟩)) : Kd.R (fG .i64) 3 e4 w.heap.size (fun k_ => some k_ ≠ ob (.slice a5 q.length a6) ∧ some k_ ≠ ob (.slice a9 s.length b0)) (.slice a7 r.length a8) r) (by rw [hw]; exact (gQ (zS4 (hX Zm.o Za.o (by decide))) (fun _ hk => ⟨hk.1.1, ⟨hk.1.2.1, hk.1.2.2⟩⟩)) : Kd.S k60 60 e4 w.heap.size (fun k_ => some k_ ≠ ob (.slice a5 q.length a6) ∧ some k_ ≠ ob (.slice a7 r.length a8) ∧ some k_ ≠ ob (.slice a9 s.length b0)) (.slice d7 u.length d8) u) (by rw [hw]; exact (eX (zR4 (fD Zl.o Za.o (by decide))) (fun _ hk => ⟨hk.1.1, hk.1.2⟩)) : Kd.R (fG .i64) 3 e4 w.heap.size (fun k_ => some k_ ≠ ob (.slice a5 q.length a6) ∧ some k_ ≠ ob (.slice a7 r.length a8)) (.slice a9 s.length b0) s) (by rw [hw]; exact (by exact zput4 Za.o) : e4.heap[a]? = some (.cells #[.slice a5 q.length a6, .slice a7 r.length a8, .slice d7 u.length d8, .slice a9 s.length b0] 31 (0, 0))) (by rw [hw]; exact (by exact zfar4 Zb.o Zc.o) : e4.heap[l]? = some (.cells #[.slice none 0 0, .slice none 0 0, .slice none 0 0, .slice none 0 0] 31 (0, 0))) (by rw [hw]; exact (zg_5 HB.o Zi.o Zn.o) : Below w.heap.size w e4) ?_; clear hw Zj Zk Zm Zl Za Zb HB; intro Zj Zk Zm Zl Za Zb HB; obtain ⟨_, _, _, _, _, _, _, _⟩ := zb4 Za.o) | ((with_reducible refine fJ (f := 62) rfl ?_); refine gU (some 12) rfl rfl nL (by kernel_rfl) rfl #[.agg #[.slice a5 q.length a6, .slice a7 r.length a8, .slice d7 u.length d8, .slice a9 s.length b0], .string a1] rfl zq ?_; (with_reducible refine (bE.calls k _ _ q _ _ r _ _ u _ _ s a1 v _ ?_ ?_ ?_ ?_ ?_ ?_ ?_ ?_ A4.o).mono ?_); exact zC ((fC Zj.o).2.2); exact (fC Zj.o).2.1; exact zC ((fC Zk.o).2.2); exact (fC Zk.o).2.1; exact zC ((lC Zm.o).2.2); exact (lC Zm.o).2.1; exact zC ((fC Zl.o).2.2); exact (fC Zl.o).2.1; rintro e w4 ⟨rfl, hb⟩; refine ⟨_, rfl, ?_⟩; refine zG7 (fI (zg_6 Zj.o) hb) (fI (zg_6 Zk.o) hb) (Kd.S_below (zg_7 Zm.o) hb) (fI (zg_6 Zl.o) hb) (fB (g := a) (o := .cells #[.slice a5 q.length a6, .slice a7 r.length a8, .slice d7 u.length d8, .slice a9 s.length b0] 31 (0, 0)) (zg_3 Za.o) hb) (fB (g := l) (o := .cells #[.slice none 0 0, .slice none 0 0, .slice none 0 0, .slice none 0 0] 31 (0, 0)) (zg_3 Zb.o) hb) (eZ (zg_5 HB.o Zi.o Zn.o) hb) ?_; clear Zj Zk Zm Zl Za Zb HB; intro Zj Zk Zm Zl Za Zb HB; (try clear hb); (try clear hb2); (try clear hk); (try clear hi); obtain ⟨_, _, _, _, _, _, _, _⟩ := zb4 Za.o; obtain ⟨_, _, _, _, _, _, _, _⟩ := zb4 Zb.o))
  refine iD (lE rfl _ _ l 31 #[.slice a5 q.length a6, .slice a7 r.length a8, .slice d7 u.length d8, .slice a9 s.length b0] (0, 0) _ rfl (by exact zput4 Zb.o) fW rfl (by kernel_rfl)) rfl ?_
  exact ⟨_, _, _, _, ze, eX (zR4 (fD Zj.o Zb.o (by decide))) (fun _ hk => ⟨hk.1.1, hk.1.2⟩), eX (zR4 (fD Zk.o Zb.o (by decide))) (fun _ hk => ⟨hk.1.1, hk.1.2⟩), gQ (zS4 (hX Zm.o Zb.o (by decide))) (fun _ hk => ⟨hk.1.1, ⟨hk.1.2.1, hk.1.2.2⟩⟩), eX (zR4 (fD Zl.o Zb.o (by decide))) (fun _ hk => ⟨hk.1.1, hk.1.2⟩), zg_5 HB.o Zi.o Zn.o⟩
 rw [if_neg c5] at H; have j9 := decide_eq_false c5; clear c5
 replace H := zid H; obtain ⟨l6, H⟩ := H
 replace H := zif H; obtain ⟨k0, H⟩ := H; have l7 := decide_eq_true k0; clear k0; replace H := eW.mp H
 obtain ⟨⟨g7, g8, g9, h0⟩, k2, H⟩ := H
 try dsimp only at H
 have s0 := zm k2; clear k2
 have H' := zm H
 clear H
 go_enter Tryz.func35, Tryz.ntmps35
 try go_wp2_with (first | ((with_reducible refine fP (N := 2) rfl ?_); refine fS zo (N := 2) zo (cs := #[.slice B x.length D, .slice F y.length G, .slice I z.length J, .slice L A.length M]) (t := 31) zh ?_; intro a hg w5 hbox hb; refine zG4 (eZ (zg_1 HB.o) hb) (hbox) ((by rw [hg]; exact (eV (zg_1 HB.o)) : w.heap.size ≤ a)) ((by rw [hg]; exact (eV (zg_1 HB.o)) : w.heap.size ≤ a)) ?_; clear HB; intro HB Za ZL Zi; clear hb hbox hg) | ((with_reducible refine fP (N := 4) rfl ?_); refine fS zo (N := 4) zo (cs := #[.slice none 0 0, .slice none 0 0, .slice none 0 0, .slice none 0 0]) (t := 31) zh ?_; intro l hg w8 hbox hb; refine zG7 (fB (g := a) (o := .cells #[.slice B x.length D, .slice F y.length G, .slice I z.length J, .slice L A.length M] 31 (0, 0)) (zg_3 Za.o) hb) (eZ (zg_2 HB.o Zi.o) hb) (hbox) ((by rw [hg]; exact (eV (zg_2 HB.o Zi.o)) : w.heap.size ≤ l)) ((by rw [hg]; exact (eV (zg_2 HB.o Zi.o)) : w.heap.size ≤ l)) ((by rw [hg]; exact gN (hO (g := a) (o := .cells #[.slice B x.length D, .slice F y.length G, .slice I z.length J, .slice L A.length M] 31 (0, 0)) (zg_3 Za.o)) : a ≠ l)) ((by rw [hg]; exact gT (hO (g := a) (o := .cells #[.slice B x.length D, .slice F y.length G, .slice I z.length J, .slice L A.length M] 31 (0, 0)) (zg_3 Za.o)) : l ≠ a)) ?_; clear Za HB; intro Za HB Zb ZM Zn Zh Zc; clear hb hbox hg; have s8 := Zh.o; have s9 := Zc.o; obtain ⟨_, _, _, _, _, _, _, _⟩ := zb4 Za.o) | ((with_reducible refine fJ (f := 40) rfl ?_); refine gU (some 9) rfl rfl lJ (by kernel_rfl) rfl #[.agg #[.slice B x.length D, .slice F y.length G, .slice I z.length J, .slice L A.length M]] rfl zq ?_; (with_reducible refine (aE.calls k _ _ x _ _ y _ _ z _ _ A q r u s _ ?_ ?_ ?_ ?_ ?_ ?_ ?_ ?_ A3.o).mono ?_); exact zC (fE Zu.o HB.o); exact Zv.o; exact zC (fE Zw.o HB.o); exact Zx.o; exact zC (fE Zy.o HB.o); exact Zz.o; exact zC (fE ZA.o HB.o); exact ZB.o; rintro e s1 ⟨m7, m8, m9, n0, rfl, b5, b6, b7, b8, hb⟩; refine ⟨_, rfl, ?_⟩; refine zG7 (fL b5 (eV (zg_5 HB.o Zi.o Zn.o))) (fL b6 (eV (zg_5 HB.o Zi.o Zn.o))) (mX b7 (eV (zg_5 HB.o Zi.o Zn.o))) (fL b8 (eV (zg_5 HB.o Zi.o Zn.o))) (fB (g := a) (o := .cells #[.slice B x.length D, .slice F y.length G, .slice I z.length J, .slice L A.length M] 31 (0, 0)) (zg_3 Za.o) hb) (fB (g := l) (o := .cells #[.slice none 0 0, .slice none 0 0, .slice none 0 0, .slice none 0 0] 31 (0, 0)) (zg_3 Zb.o) hb) (eZ (zg_5 HB.o Zi.o Zn.o) hb) ?_; clear Za Zb HB; intro Zj Zk Zm Zl Za Zb HB; (try clear hb); (try clear hb2); (try clear hk); (try clear hi); (try clear b5); (try clear b6); (try clear b7); (try clear b8); obtain ⟨O, T, rfl⟩ := fA Zj.o; obtain ⟨_, _, _, _, _, _, _, _⟩ := zb4 Za.o; obtain ⟨U, V, rfl⟩ := fA Zk.o; obtain ⟨e5, b1, rfl⟩ := iF Zm.o; obtain ⟨X, Y, rfl⟩ := fA Zl.o) | ((with_reducible refine jG (t := 31) (p := 2) rfl ?_); refine zst (w1 := ((((s1.setCell ⟨a, 0, none⟩ (.slice O q.length T)).setCell ⟨a, 1, none⟩ (.slice U r.length V)).setCell ⟨a, 2, none⟩ (.slice e5 u.length b1)).setCell ⟨a, 3, none⟩ (.slice X s.length Y))) rfl rfl rfl zh ?_; intro e6 hw; refine zG7 (by rw [hw]; exact (eX (zR4 (fD Zj.o Za.o (by decide))) (fun _ hk => ⟨hk.1.1, hk.1.2⟩)) : Kd.R (fG .i64) 3 e6 w.heap.size (fun k_ => some k_ ≠ ob (.slice U r.length V) ∧ some k_ ≠ ob (.slice X s.length Y)) (.slice O q.length T) q) (by rw [hw]; exact (eX (zR4 (fD Zk.o Za.o (by decide))) (fun _ hk => ⟨hk.1.1, hk.1.2⟩)) : Kd.R (fG .i64) 3 e6 w.heap.size (fun k_ => some k_ ≠ ob (.slice O q.length T) ∧ some k_ ≠ ob (.slice X s.length Y)) (.slice U r.length V) r) (by rw [hw]; exact (gQ (zS4 (hX Zm.o Za.o (by decide))) (fun _ hk => ⟨hk.1.1, ⟨hk.1.2.1, hk.1.2.2⟩⟩)) : Kd.S k60 60 e6 w.heap.size (fun k_ => some k_ ≠ ob (.slice O q.length T) ∧ some k_ ≠ ob (.slice U r.length V) ∧ some k_ ≠ ob (.slice X s.length Y)) (.slice e5 u.length b1) u) (by rw [hw]; exact (eX (zR4 (fD Zl.o Za.o (by decide))) (fun _ hk => ⟨hk.1.1, hk.1.2⟩)) : Kd.R (fG .i64) 3 e6 w.heap.size (fun k_ => some k_ ≠ ob (.slice O q.length T) ∧ some k_ ≠ ob (.slice U r.length V)) (.slice X s.length Y) s) (by rw [hw]; exact (by exact zput4 Za.o) : e6.heap[a]? = some (.cells #[.slice O q.length T, .slice U r.length V, .slice e5 u.length b1, .slice X s.length Y] 31 (0, 0))) (by rw [hw]; exact (by exact zfar4 Zb.o Zc.o) : e6.heap[l]? = some (.cells #[.slice none 0 0, .slice none 0 0, .slice none 0 0, .slice none 0 0] 31 (0, 0))) (by rw [hw]; exact (zg_5 HB.o Zi.o Zn.o) : Below w.heap.size w e6) ?_; clear hw Zj Zk Zm Zl Za Zb HB; intro Zj Zk Zm Zl Za Zb HB; obtain ⟨_, _, _, _, _, _, _, _⟩ := zb4 Za.o) | ((with_reducible refine fJ (f := 62) rfl ?_); refine gU (some 12) rfl rfl nL (by kernel_rfl) rfl #[.agg #[.slice O q.length T, .slice U r.length V, .slice e5 u.length b1, .slice X s.length Y], .string a1] rfl zq ?_; (with_reducible refine (bE.calls k _ _ q _ _ r _ _ u _ _ s a1 v _ ?_ ?_ ?_ ?_ ?_ ?_ ?_ ?_ A4.o).mono ?_); exact zC ((fC Zj.o).2.2); exact (fC Zj.o).2.1; exact zC ((fC Zk.o).2.2); exact (fC Zk.o).2.1; exact zC ((lC Zm.o).2.2); exact (lC Zm.o).2.1; exact zC ((fC Zl.o).2.2); exact (fC Zl.o).2.1; rintro e s2 ⟨rfl, hb⟩; refine ⟨_, rfl, ?_⟩; refine zG7 (fI (zg_6 Zj.o) hb) (fI (zg_6 Zk.o) hb) (Kd.S_below (zg_7 Zm.o) hb) (fI (zg_6 Zl.o) hb) (fB (g := a) (o := .cells #[.slice O q.length T, .slice U r.length V, .slice e5 u.length b1, .slice X s.length Y] 31 (0, 0)) (zg_3 Za.o) hb) (fB (g := l) (o := .cells #[.slice none 0 0, .slice none 0 0, .slice none 0 0, .slice none 0 0] 31 (0, 0)) (zg_3 Zb.o) hb) (eZ (zg_5 HB.o Zi.o Zn.o) hb) ?_; clear Zj Zk Zm Zl Za Zb HB; intro Zj Zk Zm Zl Za Zb HB; (try clear hb); (try clear hb2); (try clear hk); (try clear hi)))
 have b9 := zm (fK Zj.o); have c0 := zm (fK Zk.o); have c1 := zm (iU Zm.o); have c7 := zm (fK Zl.o); have c9 := zm (fU Za.o); have d0 := zm (fU Zb.o); have d1 := zm (gA HB.o); clear Zj; clear Zk; clear Zm; clear Zl; clear Za; clear Zb; clear HB; have Zj := b9; have Zk := c0; have Zm := c1; have Zl := c7; have Za := c9; have Zb := d0; have HB := d1; clear b9 c0 c1 c7 c9 d0 d1
 have e7 : 0 ≤ (v : Int) := zd
 have e8 : v < (u.length : Int) := zd
 obtain ⟨b2, g4, g5, n1, hx416_0, hx416_1, hl416_1, hi416_1⟩ := at_T60 (lC Zm.o).2.2 v e7 e8
 cases n1
 obtain ⟨ce416, hce416, hMe416, hcc416⟩ := Kd.S_get Zm.o z60 v e7 (by first | exact e8 | exact zd | (have e_ := (lC Zm.o).1; omega))
 obtain ⟨ve416_1, rfl, ge416_1⟩ := k60_openM hMe416
 have hv416_1 := hcc416 1 _ rfl
 rw [add_field _ _ 1 (by omega)] at hv416_1
 replace hv416_1 := fF (hv416_1.symm.trans hx416_1)
 rw [hv416_1] at ge416_1
 have Zq := zm (show Kd.R (fG .i64) 3 _ _ _ _ ((aH u v).f1) from ge416_1); clear hv416_1 ge416_1; clear hcc416 hce416; have Zo := zm hi416_1; have Zt := zm hl416_1; clear hi416_1 hl416_1; replace e7 := eq_true e7; replace e8 := eq_true e8
 refine start_ (n := 9) (S := fun w' => w'.cell? ⟨a, 0, none⟩ = some (.slice O q.length T) ∧ w'.cell? ⟨a, 1, none⟩ = some (.slice U r.length V) ∧ w'.cell? ⟨a, 2, none⟩ = some (.slice (some b2) u.length b1) ∧ w'.cell? ⟨a, 3, none⟩ = some (.slice X s.length Y) ∧ w'.cell? (b2.add ((v).toNat * 2)) = some (.string ((aH u v).f0)) ∧ w'.cell? ⟨(b2.add ((v).toNat * 2)).block, (b2.add ((v).toNat * 2)).off + 1, none⟩ = some (.slice g4 ((aH u v).f1).length g5)) (ds := [7, 8]) #[ff, ff, ff, ff, ff, ff, ff, ff, ff] (by kernel_rfl) rfl rfl ⟨(eY Za.o 0).trans rfl, (eY Za.o 1).trans rfl, (eY Za.o 2).trans rfl, (eY Za.o 3).trans rfl, hx416_0, hx416_1⟩ (fun hHeld => ?_); refine kJ aM.tab5 aM.bits5 (fun HT_ HW_ => ?_)
 generalize s2.drew = s3 at Zj Zk Zm Zl Za Zb HB Zq Zo hx416_0 hx416_1 hHeld ⊢
 refine gR (i := 1) (N := some 17) #[ff, tt, ff, ff, ff, ff, ff, ff, ff] rfl rfl (gD HT_.o zk) (fun _ _ _ h => h) (.inl ⟨by rfl, zi⟩) zu ?_
 refine gR (i := 3) (N := some 19) #[ff, tt, ff, tt, ff, ff, ff, ff, ff] rfl rfl (gD HT_.o zk) (fun _ _ _ h => h) (.inl ⟨by rfl, zi⟩) zu ?_
 refine kA (i := 0) (N := some 16) #[tt, tt, ff, tt, ff, ff, ff, ff, ff] rfl rfl (hZ HT_.o HW_.o zk) (fun _ _ _ h => h) (.inl ⟨by rfl, zi6⟩) hHeld zu ?_
 refine kA (i := 2) (N := some 18) #[tt, tt, tt, tt, ff, ff, ff, ff, ff] rfl rfl (hZ HT_.o HW_.o zk) (fun _ _ _ h => h) (.inl ⟨by rfl, zi6⟩) hHeld zu ?_
 refine gR (i := 4) (N := some 20) #[tt, tt, tt, tt, tt, ff, ff, ff, ff] rfl rfl (gD HT_.o zk) (fun _ _ _ h => h) (.inl ⟨by rfl, zi⟩) zu ?_
 refine gR (i := 5) (N := some 21) #[tt, tt, tt, tt, tt, tt, ff, ff, ff] rfl rfl (gD HT_.o zk) (fun _ _ _ h => h) (.inl ⟨by rfl, zi⟩) zu ?_
 refine kA (i := 6) (N := some 22) #[tt, tt, tt, tt, tt, tt, tt, ff, ff] rfl rfl (hZ HT_.o HW_.o zk) (fun _ _ _ h => h) (.inl ⟨by rfl, zi6⟩) hHeld zu ?_
 refine last_ (i := 7) (N := some 23) #[tt, tt, tt, tt, tt, tt, tt, tt, ff] rfl rfl (iS HT_.o zk) (by decide) (fun K hK => ?_)
 refine goes_ Tryz.func63 (by kernel_rfl) rfl #[.agg #[.slice O q.length T, .slice U r.length V, .slice (some b2) u.length b1, .slice X s.length Y], .slice g4 ((aH u v).f1).length g5] (by rfl) rfl rfl zq ?_
 with_reducible refine (aV.calls k (fun k_ => some k_ = ob (.slice O q.length T)) (.slice O q.length T) q (fun k_ => some k_ = ob (.slice U r.length V)) (.slice U r.length V) r (fun k_ => ((some k_ ≠ ob (.slice O q.length T) ∧ (some k_ ≠ ob (.slice U r.length V) ∧ some k_ ≠ ob (.slice X s.length Y)))) ∧ ∃ q_, q_ ∈ (60 :: (k60).E) ∧ ∃ cs_, s3.heap[k_]? = some (.cells cs_ q_ (0, 0))) (.slice (some b2) u.length b1) u (fun k_ => some k_ = ob (.slice X s.length Y)) (.slice X s.length Y) s _ _ ((aH u v).f1) g7 g8 g9 h0 w _ ?side1 ?side2 ?side3 ?side4 ?side5 ?side6 ?side7 ?side8 ?side9 ?side10 ?side11 ?side12 ?side13 ?side14 ?side15 ?side16 ?side17 ?side18 ?side19 s0.o).mono ?_
 (case side1 => exact (zg_5 HB.o Zi.o Zn.o))
 (case side2 => exact jH rfl Zj.o)
 (case side3 => exact fun k_ e_ => (Zj.o.1 k_ e_.symm).1)
 (case side4 => exact fun k_ e_ hP_ => (hP_.1.1) e_)
 (case side5 => exact fun k_ e_ => (Zj.o.1 k_ e_.symm).2)
 (case side6 => exact jH rfl Zk.o)
 (case side7 => exact fun k_ e_ => (Zk.o.1 k_ e_.symm).1)
 (case side8 => exact fun k_ e_ hP_ => (hP_.1.2.1) e_)
 (case side9 => exact fun k_ e_ => (Zk.o.1 k_ e_.symm).2)
 (case side10 => exact gQ (kD (Zm.o)) (fun k_ h_ => ⟨h_.1, h_.2.2.2⟩))
 (case side11 => exact fun k_ hP_ e_ => (hP_.1.1) e_)
 (case side12 => exact fun k_ hP_ e_ => (hP_.1.2.1) e_)
 (case side13 => exact fun k_ hP_ e_ => (hP_.1.2.2) e_)
 (case side14 => exact jH rfl Zl.o)
 (case side15 => exact fun k_ e_ => (Zl.o.1 k_ e_.symm).1)
 (case side16 => exact fun k_ e_ => (Zl.o.1 k_ e_.symm).2)
 (case side17 => exact fun k_ e_ hP_ => (hP_.1.2.2) e_)
 (case side18 => refine Kd.C_entry (Kd.heap_int .i64) ?_; repeat (first | exact (by repeat (first | (with_reducible exact Zo.o) | (with_reducible refine mM ?_ _) | (with_reducible refine mN ?_ _) | (with_reducible refine mH ?_) | exact Zo.o)) | (with_reducible refine mM ?_ _) | (with_reducible refine mN ?_ _) | (with_reducible refine mH ?_)))
 (case side19 => exact Zt.o)
 rintro e j1 ⟨h1, h2, u7, h3, rfl, b5, b6, b7, b8, hb, hkp⟩
 refine ⟨_, rfl, ?_⟩
 have b9 := zm (mU (zg_3 Za.o) hkp (fun hs_ => gM hs_ (fun e_ => (fun e_ => (gJ Zj.o Za.o (by decide)) e_) e_) (fun e_ => gM e_ (fun e_ => (fun e_ => (gJ Zk.o Za.o (by decide)) e_) e_) (fun e_ => gM e_ (fun e_ => (fun hP_ => (by obtain ⟨_, q_, hq_, cs_, hc_⟩ := hP_; have hb_ := Za.o; rw [hb_] at hc_; injection hc_ with hc_; injection hc_ with _ h2_; rw [← h2_] at hq_; exact absurd hq_ (by decide))) e_) (fun e_ => (fun e_ => (gJ Zl.o Za.o (by decide)) e_) e_))))); have c0 := zm (mU (zg_3 Zb.o) hkp (fun hs_ => gM hs_ (fun e_ => (fun e_ => (gJ Zj.o Zb.o (by decide)) e_) e_) (fun e_ => gM e_ (fun e_ => (fun e_ => (gJ Zk.o Zb.o (by decide)) e_) e_) (fun e_ => gM e_ (fun e_ => (fun hP_ => (by obtain ⟨_, q_, hq_, cs_, hc_⟩ := hP_; have hb_ := Zb.o; rw [hb_] at hc_; injection hc_ with hc_; injection hc_ with _ h2_; rw [← h2_] at hq_; exact absurd hq_ (by decide))) e_) (fun e_ => (fun e_ => (gJ Zl.o Zb.o (by decide)) e_) e_))))); have c1 := zm (eX (ok' := fun k_ => some k_ ≠ ob h2 ∧ some k_ ≠ ob h3) b5 (fun k_ hk_ => ⟨hk_.2.1, hk_.2.2⟩)); have c7 := zm (eX (ok' := fun k_ => some k_ ≠ ob h1 ∧ some k_ ≠ ob h3) b6 (fun k_ hk_ => ⟨hk_.2.1, hk_.2.2⟩)); have c9 := zm (gQ (ok' := fun k_ => some k_ ≠ ob h1 ∧ some k_ ≠ ob h2 ∧ some k_ ≠ ob h3) b7 (fun k_ hk_ => ⟨hk_.2.1, hk_.2.2.1, hk_.2.2.2⟩)); have d0 := zm (eX (ok' := fun k_ => some k_ ≠ ob h1 ∧ some k_ ≠ ob h2) b8 (fun k_ hk_ => ⟨hk_.2.1, hk_.2.2⟩)); have d1 := zm (hb); clear Za; clear Zb; clear HB; clear Zj; clear Zk; clear Zm; clear Zl; clear Zq; have Za := b9; have Zb := c0; have ZC := c1; have ZD := c7; have ZE := c9; have ZF := d0; have HB := d1; clear b9 c0 c1 c7 c9 d0 d1
 (try clear hb)
 (try clear hkp)
 (try clear b5)
 (try clear b6)
 (try clear b7)
 (try clear b8)
 obtain ⟨n2, n3, k3⟩ := fA ZC.o
 (first | subst k3 | (injection k3 with f1_ f2_ f3_; have f4_ := f1_.symm; have f5_ := f3_.symm; clear f1_ f2_ f3_; subst f4_; subst f5_))
 obtain ⟨n4, n5, k4⟩ := fA ZD.o
 (first | subst k4 | (injection k4 with f1_ f2_ f3_; have f4_ := f1_.symm; have f5_ := f3_.symm; clear f1_ f2_ f3_; subst f4_; subst f5_))
 obtain ⟨n6, n7, k5⟩ := iF ZE.o
 (first | subst k5 | (injection k5 with f1_ f2_ f3_; have f4_ := f1_.symm; have f5_ := f3_.symm; clear f1_ f2_ f3_; subst f4_; subst f5_))
 obtain ⟨n8, n9, k6⟩ := fA ZF.o
 (first | subst k6 | (injection k6 with f1_ f2_ f3_; have f4_ := f1_.symm; have f5_ := f3_.symm; clear f1_ f2_ f3_; subst f4_; subst f5_))
 refine hK.out _ _ ?_
 clear hK K
 refine norm_ (a' := ?_) ?_ ?_
 rotate_left
 ·show gE _ (some 23) _ = _
  simp only [gE, zs, zz, zt, iQ, jF]
  rfl
 refine last_ (i := 8) (N := none) #[tt, tt, tt, tt, tt, tt, tt, tt, tt] rfl rfl (iS HT_.o zk) (by decide) (fun K hK => ?_)
 have u8 : j1.cell? ⟨a, 0, none⟩ = some (.slice O q.length T) := (eY Za.o 0).trans rfl
 have t0 := gL Za.o 0; have p5 := Zc.o; have p6 := Zh.o
 have u9 : j1.cell? ⟨a, 1, none⟩ = some (.slice U r.length V) := (eY Za.o 1).trans rfl
 have t1 := gL Za.o 1; have p7 := Zc.o; have p8 := Zh.o
 have v0 : j1.cell? ⟨a, 2, none⟩ = some (.slice (some b2) u.length b1) := (eY Za.o 2).trans rfl
 have t2 := gL Za.o 2; have p9 := Zc.o; have q0 := Zh.o
 have v1 : j1.cell? ⟨a, 3, none⟩ = some (.slice X s.length Y) := (eY Za.o 3).trans rfl
 have t3 := gL Za.o 3; have q1 := Zc.o; have q2 := Zh.o
 refine skip_ (w1 := ?_) (by rfl) rfl ?_ ?_
 rotate_left
 ·go_simp
  rfl
 refine hK.out _ _ ?_
 clear hK K
 refine done_ (done_of HT_.o zk) ?_
 try go_wp2
 go_loopg [7] k (fun kq v7 w' => ∃ (Z : Int) (j : List Int) (d : List Int) (c : List (S60)) (m : List Int) (u402000 : Value) (u402001 : Value) (u402002 : Value) (u402003 : Value), v7 = .int .i64 Z ∧ Aside0 (aM.l0 kq v Z j d c m = some (r1, r2, r3, r4, r5)) ∧ Aside0 (kq ≤ k) ∧ Aside0 (Kd.R (fG .i64) 3 w' w.heap.size (fun k_ => some k_ ≠ ob u402001 ∧ some k_ ≠ ob u402003) u402000 j) ∧ Aside0 (Kd.R (fG .i64) 3 w' w.heap.size (fun k_ => some k_ ≠ ob u402000 ∧ some k_ ≠ ob u402003) u402001 d) ∧ Aside0 (Kd.S k60 60 w' w.heap.size (fun k_ => some k_ ≠ ob u402000 ∧ some k_ ≠ ob u402001 ∧ some k_ ≠ ob u402003) u402002 c) ∧ Aside0 (Kd.R (fG .i64) 3 w' w.heap.size (fun k_ => some k_ ≠ ob u402000 ∧ some k_ ≠ ob u402001) u402003 m) ∧ Aside0 (w'.heap[a]? = some (.cells #[u402000, u402001, u402002, u402003] 31 (0, 0))) ∧ Aside0 (w'.heap[l]? = some (.cells #[(.slice none 0 0), (.slice none 0 0), (.slice none 0 0), (.slice none 0 0)] 31 (0, 0))) ∧ Aside0 (Below w.heap.size w w'))
 case atStart => exact ⟨(0), (g7), (g8), (g9), (h0), (.slice n2 g7.length n3), (.slice n4 g8.length n5), (.slice n6 g9.length n7), (.slice n8 h0.length n9), zr, H', ⟨fQ _⟩, ⟨eX (zR4 (fD ZC.o Za.o (by decide))) (fun _ hk => ⟨hk.1.1, hk.1.2⟩)⟩, ⟨eX (zR4 (fD ZD.o Za.o (by decide))) (fun _ hk => ⟨hk.1.1, hk.1.2⟩)⟩, ⟨gQ (zS4 (hX ZE.o Za.o (by decide))) (fun _ hk => ⟨hk.1.1, ⟨hk.1.2.1, hk.1.2.2⟩⟩)⟩, ⟨eX (zR4 (fD ZF.o Za.o (by decide))) (fun _ hk => ⟨hk.1.1, hk.1.2⟩)⟩, ⟨by exact zput4 Za.o⟩, ⟨by exact zfar4 Zb.o Zc.o⟩, ⟨zg_5 HB.o Zi.o Zn.o⟩⟩
 case round =>
  clear H'
  try clear c2
  try clear p2
  try clear c3
  try clear c4
  try clear p4
  try clear q4
  try clear hx4
  try clear c5
  try clear j9
  try clear c6
  try clear c8
  try clear w9
  try clear l6
  try clear k0
  try clear l7
  try clear x0
  try clear x1
  try clear x2
  try clear x3
  try clear x4
  try clear x5
  try clear hx41
  try clear hx416_0
  try clear hx416_1
  try clear e7
  try clear e8
  obtain ⟨Z, j, d, c, m, u402000, u402001, u402002, u402003, rfl, HA, m4, Zd, Ze, Zg, Zf, Za, Zb, HB⟩ := hrel
  cases gk with
  | zero => exact absurd HA.o (by simp [aM.l0])
  | succ k1 =>
   have H := HA.o; clear HA
   simp only [aM.l0] at H
   by_cases f3 : Z < (d.length : Int)
   rotate_left
   ·rw [if_neg f3] at H
    have l8 := decide_eq_false f3; clear f3
    obtain ⟨f4, f5⟩ : ∃ y_ : List Int, y_ = (([] : List Int)) := ⟨_, rfl⟩
    replace H : (if 0 ≤ v then (if v < (c.length : Int) then (if f4.length + ((aH c v).f1).length < 17592186044416 then (some (j, (f4 ++ ((aH c v).f1)), c, m, 0)) else (none)) else (none)) else (none)) = some (r1, r2, r3, r4, r5) := zy H f5
    have j2 := zm f5; clear f5
    replace H := zid H; obtain ⟨t4, H⟩ := H
    replace H := zid H; obtain ⟨t5, H⟩ := H
    replace H := zif H; obtain ⟨m5, H⟩ := H; have l9 := zm m5; clear m5
    obtain ⟨a0, f6⟩ : ∃ y_ : List Int, y_ = (f4 ++ ((aH c v).f1)) := ⟨_, rfl⟩
    replace H : (some (j, a0, c, m, 0)) = some (r1, r2, r3, r4, r5) := zy H f6
    have m0 := zm f6; clear f6
    simp only [gC, gP] at H
    obtain ⟨rfl, rfl, rfl, rfl, rfl⟩ := H
    have t6 := Zh.o; have t7 := Zc.o
    obtain ⟨_, _, _, _, _, _, _, _⟩ := zb4 Za.o
    obtain ⟨d5, d6, o0⟩ := fA Ze.o
    subst o0
    go_wp2_with (first | ((with_reducible refine fP (N := 38) rfl ?_); refine Kd.R_lit (fG .i64) _ 3 ?hg (N := 38) ?hd (xs := ([] : List Int)) (inner := []) (ok := fun _ => True) (okp := fun _ => True) ?hr ?hp (fun _ hk => hk) trivial (fX _ _) (fQ _) (by simp) ?_; (case hd => rfl); (case hg => rfl); (case hr => first | (go_simp; done) | (go_simp; rfl)); (case hp => exact (Reps.none _ _)); intro o1 x8 b3 hb hg_ hnew_; clear hg_ hnew_; (first | rw [← j2.o] at b3 | (simp only [Int.reduceToNat] at b3; rw [← j2.o] at b3)); refine zG8 (iZ (zg_6 Zd.o) (fH b3) hb) (iZ (zg_6 Ze.o) (fH b3) hb) (Kd.S_elder' (zg_7 Zg.o) (fH b3) hb) (iZ (zg_6 Zf.o) (fH b3) hb) (fL (fT (fT (fT b3 (fO (zg_6 Zd.o))) (fO (zg_6 Ze.o))) (fO (zg_6 Zf.o))) (eV (zg_5 HB.o Zi.o Zn.o))) (fB (g := a) (o := .cells #[u402000, .slice d5 d.length d6, u402002, u402003] 31 (0, 0)) (zg_3 Za.o) hb) (fB (g := l) (o := .cells #[.slice none 0 0, .slice none 0 0, .slice none 0 0, .slice none 0 0] 31 (0, 0)) (zg_3 Zb.o) hb) (eZ (zg_5 HB.o Zi.o Zn.o) hb) ?_; clear Zd Ze Zg Zf Za Zb HB; intro Zd Ze Zg Zf Zr Za Zb HB; clear hb b3; obtain ⟨_, _, _, _, _, _, _, _⟩ := zb4 Za.o; obtain ⟨v3, d2, rfl⟩ := iF Zg.o; have f7 : 0 ≤ (v : Int) := zd; have f8 : v < (c.length : Int) := zd; obtain ⟨a4, s4, s5, o2, hx445_0, hx445_1, hl445_1, hi445_1⟩ := at_T60 (lC Zg.o).2.2 v f7 f8; cases o2; obtain ⟨ce445, hce445, hMe445, hcc445⟩ := Kd.S_get Zg.o z60 v f7 (by first | exact f8 | exact zd | (have e_ := (lC Zg.o).1; omega)); obtain ⟨ve445_1, rfl, ge445_1⟩ := k60_openM hMe445; have hv445_1 := hcc445 1 _ rfl; rw [add_field _ _ 1 (by omega)] at hv445_1; replace hv445_1 := fF (hv445_1.symm.trans hx445_1); rw [hv445_1] at ge445_1; have Zp := zm (show Kd.R (fG .i64) 3 _ _ _ _ ((aH c v).f1) from ge445_1); clear hv445_1 ge445_1; clear hcc445 hce445; have Zs := zm hi445_1; have ZN := zm hl445_1; clear hi445_1 hl445_1; replace f7 := eq_true f7; replace f8 := eq_true f8) | ((with_reducible refine gate_builtin (b := .append) (xs := #[.tmp 38, .tmp 44]) rfl ?_); at_builtin; refine Kd.R_append_rows (fG .i64) (w0 := w) w.heap.size rfl (.tmp 38) (.tmp 44) 23 3 (.int .i64 0) 8 rfl Tryz.underlying23 info3 rfl (by decide) (by omega) o1 f4 ((aH c v).f1) _ _ _ (fun k_ => some k_ ≠ ob u402000 ∧ some k_ ≠ ob (.slice d5 d.length d6) ∧ some k_ ≠ ob u402003) (fun _ => False) rfl rfl ?aO ?aR (fun _ _ h => h) (fun _ h => h.elim) ?aF ?aB ?aS ?aL ?_; (case aR => repeat (first | exact (by repeat (first | (with_reducible exact Zs.o) | (with_reducible refine mM ?_ _) | (with_reducible refine mN ?_ _) | (with_reducible refine mH ?_) | exact Zs.o)) | (with_reducible refine mM ?_ _) | (with_reducible refine mN ?_ _) | (with_reducible refine mH ?_))); (case aB => exact (zg_5 HB.o Zi.o Zn.o)); (case aF => exact (fun k_ hk => ⟨gF (fO (zg_6 Zd.o)) k_ hk, gF (fO (zg_6 Ze.o)) k_ hk, gF (fO (zg_6 Zf.o)) k_ hk⟩)); (case aO => exact (by (with_reducible repeat (first | apply fY | apply fZ | apply fK)); exact eX Zr.o (fun _ hk => ⟨hk.1.1.2, ⟨hk.1.2, hk.2⟩⟩))); (case aS => exact (eV (zg_5 HB.o Zi.o Zn.o))); (case aL => have := l9.o; omega); intro v4 x9 ho hb hg hat; rw [← m0.o] at ho; refine zG9 (iK (ok := (fun k_ => some k_ ≠ ob (.slice d5 d.length d6) ∧ some k_ ≠ ob u402003)) (zg_6 Zd.o) hg hat) (iK (ok := (fun k_ => some k_ ≠ ob u402000 ∧ some k_ ≠ ob u402003)) (zg_6 Ze.o) hg hat) (mQ (ok := (fun k_ => some k_ ≠ ob u402000 ∧ some k_ ≠ ob (.slice d5 d.length d6) ∧ some k_ ≠ ob u402003)) (zg_7 Zg.o) hg hat) (iK (ok := (fun k_ => some k_ ≠ ob u402000 ∧ some k_ ≠ ob (.slice d5 d.length d6))) (zg_6 Zf.o) hg hat) (gW (g := a) (o := .cells #[u402000, .slice d5 d.length d6, .slice (some a4) c.length d2, u402003] 31 (0, 0)) (zg_3 Za.o) hg (gJ Zr.o Za.o (by decide))) (gW (g := l) (o := .cells #[.slice none 0 0, .slice none 0 0, .slice none 0 0, .slice none 0 0] 31 (0, 0)) (zg_3 Zb.o) hg (gJ Zr.o Zb.o (by decide))) (iK (ok := (fun k_ => some k_ ≠ ob u402000 ∧ some k_ ≠ ob (.slice d5 d.length d6) ∧ some k_ ≠ ob (.slice (some a4) c.length d2) ∧ some k_ ≠ ob u402003)) (by (with_reducible repeat (first | apply fY | apply fZ | apply fK)); exact eX Zp.o (fun _ hk => ⟨⟨hk.1.1.1, ⟨hk.1.1.2.1, ⟨hk.2, hk.1.1.2.2⟩⟩⟩, hk.1.2⟩)) hg hat) (hb) (ho) ?_; clear Zr Zd Ze Zg Zf Za Zb Zp HB; intro Zd Ze Zg Zf Za Zb Zp HB ZK; clear ho hb hg hat; obtain ⟨a2, a3, rfl⟩ := fA ZK.o; obtain ⟨_, _, _, _, _, _, _, _⟩ := zb4 Za.o; obtain ⟨d3, d4, rfl⟩ := fA Zd.o; obtain ⟨_, _, _, _, _, _, _, _⟩ := zb4 Zb.o; obtain ⟨e9, f2, rfl⟩ := fA Zf.o))
    refine iD (lE rfl _ _ l 31 #[.slice d3 j.length d4, .slice a2 a0.length a3, .slice (some a4) c.length d2, .slice e9 m.length f2] (0, 0) _ rfl (by (with_reducible repeat (first | refine gG ?_ _ | refine fU ?_ | refine fV ?_ _)); refine jS (cs := #[.slice d3 j.length d4, .slice a2 a0.length a3, .slice (some a4) c.length d2, .slice none 0 0]) ?_ 3 _ rfl; (with_reducible repeat (first | refine gG ?_ _ | refine fU ?_ | refine fV ?_ _)); refine jS (cs := #[.slice d3 j.length d4, .slice a2 a0.length a3, .slice none 0 0, .slice none 0 0]) ?_ 2 _ rfl; (with_reducible repeat (first | refine gG ?_ _ | refine fU ?_ | refine fV ?_ _)); refine jS (cs := #[.slice d3 j.length d4, .slice none 0 0, .slice none 0 0, .slice none 0 0]) ?_ 1 _ rfl; (with_reducible repeat (first | refine gG ?_ _ | refine fU ?_ | refine fV ?_ _)); refine jS (cs := #[.slice none 0 0, .slice none 0 0, .slice none 0 0, .slice none 0 0]) ?_ 0 _ rfl; (with_reducible repeat (first | refine gG ?_ _ | refine fU ?_ | refine fV ?_ _)); refine blk_far ?_ Zc.o _; (with_reducible repeat (first | refine gG ?_ _ | refine fU ?_ | refine fV ?_ _)); exact Zb.o) fW rfl (by kernel_rfl)) rfl ?_
    exact ⟨_, _, _, _, ze, by (with_reducible repeat (first | apply fY | apply fZ | apply fK)); exact eX (fR (p := ⟨l, 3, none⟩) (fR (p := ⟨l, 2, none⟩) (fR (p := ⟨l, 1, none⟩) (fR (p := ⟨l, 0, none⟩) (fR (p := ⟨a, 1, none⟩) (fD (fD Zd.o Za.o (by decide)) Zb.o (by decide)) (fun _ hk => hk.1.2) (.slice a2 a0.length a3)) (fun _ hk => hk.2) (.slice d3 j.length d4)) (fun _ hk => hk.2) (.slice a2 a0.length a3)) (fun _ hk => hk.2) (.slice (some a4) c.length d2)) (fun _ hk => hk.2) (.slice e9 m.length f2)) (fun _ hk => ⟨hk.1.1.2, hk.1.1.1.2⟩), by (with_reducible repeat (first | apply fY | apply fZ | apply fK)); exact eX (fR (p := ⟨l, 3, none⟩) (fR (p := ⟨l, 2, none⟩) (fR (p := ⟨l, 1, none⟩) (fR (p := ⟨l, 0, none⟩) (fR (p := ⟨a, 1, none⟩) (fD (fD ZK.o Za.o (by decide)) Zb.o (by decide)) (fun _ hk => hk.1.2) (.slice a2 a0.length a3)) (fun _ hk => hk.2) (.slice d3 j.length d4)) (fun _ hk => hk.2) (.slice a2 a0.length a3)) (fun _ hk => hk.2) (.slice (some a4) c.length d2)) (fun _ hk => hk.2) (.slice e9 m.length f2)) (fun _ hk => ⟨hk.1.1.1, hk.1.1.2.2⟩), by (with_reducible repeat (first | apply jA | apply jB | apply iU)); exact gQ (iW (p := ⟨l, 3, none⟩) (iW (p := ⟨l, 2, none⟩) (iW (p := ⟨l, 1, none⟩) (iW (p := ⟨l, 0, none⟩) (iW (p := ⟨a, 1, none⟩) (hX (hX Zg.o Za.o (by decide)) Zb.o (by decide)) (fun _ hk => hk.1.2) (.slice a2 a0.length a3)) (fun _ hk => hk.2) (.slice d3 j.length d4)) (fun _ hk => hk.2) (.slice a2 a0.length a3)) (fun _ hk => hk.2) (.slice (some a4) c.length d2)) (fun _ hk => hk.2) (.slice e9 m.length f2)) (fun _ hk => ⟨hk.1.1.1.1, ⟨hk.1.1.2, hk.1.1.1.2.2⟩⟩), by (with_reducible repeat (first | apply fY | apply fZ | apply fK)); exact eX (fR (p := ⟨l, 3, none⟩) (fR (p := ⟨l, 2, none⟩) (fR (p := ⟨l, 1, none⟩) (fR (p := ⟨l, 0, none⟩) (fR (p := ⟨a, 1, none⟩) (fD (fD Zf.o Za.o (by decide)) Zb.o (by decide)) (fun _ hk => hk.1.2) (.slice a2 a0.length a3)) (fun _ hk => hk.2) (.slice d3 j.length d4)) (fun _ hk => hk.2) (.slice a2 a0.length a3)) (fun _ hk => hk.2) (.slice (some a4) c.length d2)) (fun _ hk => hk.2) (.slice e9 m.length f2)) (fun _ hk => ⟨hk.1.1.1.1, hk.1.1.2⟩), zg_5 HB.o Zi.o Zn.o⟩
   rw [if_pos f3] at H; have l8 := decide_eq_true f3; clear f3
   replace H := zif H; obtain ⟨m6, H⟩ := H; have t8 := decide_eq_true m6; clear m6; replace H := eW.mp H
   obtain ⟨⟨h4, h5, h6, h7⟩, k7, H⟩ := H
   try dsimp only at H
   have s6 := zm k7; clear k7
   have H' := zm H
   clear H; have t9 := Zh.o; have u0 := Zc.o
   obtain ⟨_, _, _, _, _, _, _, _⟩ := zb4 Za.o
   obtain ⟨v5, d9, o3⟩ := fA Ze.o
   subst o3
   try go_wp2
   have b9 := zm (fK Zd.o); have c0 := zm (fK Ze.o); have c1 := zm (iU Zg.o); have c7 := zm (fK Zf.o); have c9 := zm (fU Za.o); have d0 := zm (fU Zb.o); have d1 := zm (gA HB.o); clear Zd; clear Ze; clear Zg; clear Zf; clear Za; clear Zb; clear HB; have Zd := b9; have Ze := c0; have Zg := c1; have Zf := c7; have Za := c9; have Zb := d0; have HB := d1; clear b9 c0 c1 c7 c9 d0 d1
   have h8 : 0 ≤ (Z : Int) := zd
   have h9 : Z < (d.length : Int) := zd
   obtain ⟨b4, o4, hx429_0⟩ := gY (fC Ze.o).2.2 Z h8 h9
   cases o4; replace h8 := eq_true h8; replace h9 := eq_true h9
   obtain ⟨e0, e1, k8⟩ := fA Zd.o
   (first | subst k8 | (injection k8 with f1_ f2_ f3_; have f4_ := f1_.symm; have f5_ := f3_.symm; clear f1_ f2_ f3_; subst f4_; subst f5_))
   obtain ⟨f9, g0, k9⟩ := iF Zg.o
   (first | subst k9 | (injection k9 with f1_ f2_ f3_; have f4_ := f1_.symm; have f5_ := f3_.symm; clear f1_ f2_ f3_; subst f4_; subst f5_))
   obtain ⟨e2, e3, l1⟩ := fA Zf.o
   (first | subst l1 | (injection l1 with f1_ f2_ f3_; have f4_ := f1_.symm; have f5_ := f3_.symm; clear f1_ f2_ f3_; subst f4_; subst f5_))
   refine start_ (n := 8) (S := fun w' => w'.cell? ⟨a, 0, none⟩ = some (.slice e0 j.length e1) ∧ w'.cell? ⟨a, 1, none⟩ = some (.slice (some b4) d.length d9) ∧ w'.cell? ⟨a, 2, none⟩ = some (.slice f9 c.length g0) ∧ w'.cell? ⟨a, 3, none⟩ = some (.slice e2 m.length e3) ∧ w'.cell? (b4.add (Z).toNat) = some (.int .i64 (rd d Z))) (ds := [6, 7]) #[ff, ff, ff, ff, ff, ff, ff, ff] (by kernel_rfl) rfl rfl ⟨(eY Za.o 0).trans rfl, (eY Za.o 1).trans rfl, (eY Za.o 2).trans rfl, (eY Za.o 3).trans rfl, hx429_0⟩ (fun hHeld => ?_); refine kJ aM.tab9 aM.bits9 (fun HT_ HW_ => ?_)
   generalize wr.drew = s7 at Zd Ze Zg Zf Za Zb HB hx429_0 hHeld ⊢
   refine gR (i := 1) (N := some 32) #[ff, tt, ff, ff, ff, ff, ff, ff] rfl rfl (gD HT_.o zk) (fun _ _ _ h => h) (.inl ⟨by rfl, zi⟩) zu ?_
   refine gR (i := 3) (N := some 34) #[ff, tt, ff, tt, ff, ff, ff, ff] rfl rfl (gD HT_.o zk) (fun _ _ _ h => h) (.inl ⟨by rfl, zi⟩) zu ?_
   refine kA (i := 0) (N := some 31) #[tt, tt, ff, tt, ff, ff, ff, ff] rfl rfl (hZ HT_.o HW_.o zk) (fun _ _ _ h => h) (.inl ⟨by rfl, zi5⟩) hHeld zu ?_
   refine kA (i := 2) (N := some 33) #[tt, tt, tt, tt, ff, ff, ff, ff] rfl rfl (hZ HT_.o HW_.o zk) (fun _ _ _ h => h) (.inl ⟨by rfl, zi5⟩) hHeld zu ?_
   refine gR (i := 4) (N := some 35) #[tt, tt, tt, tt, tt, ff, ff, ff] rfl rfl (gD HT_.o zk) (fun _ _ _ h => h) (.inl ⟨by rfl, zi⟩) zu ?_
   refine kA (i := 5) (N := some 36) #[tt, tt, tt, tt, tt, tt, ff, ff] rfl rfl (hZ HT_.o HW_.o zk) (fun _ _ _ h => h) (.inl ⟨by rfl, zi5⟩) hHeld zu ?_
   refine last_ (i := 6) (N := some 37) #[tt, tt, tt, tt, tt, tt, tt, ff] rfl rfl (iS HT_.o zk) (by decide) (fun K hK => ?_)
   refine goes_ lV (by kernel_rfl) rfl #[.agg #[.slice e0 j.length e1, .slice (some b4) d.length d9, .slice f9 c.length g0, .slice e2 m.length e3], .int .i64 (rd d Z)] (by rfl) rfl rfl zq ?_
   with_reducible refine (cC.calls (fun k_ => some k_ = ob (.slice e0 j.length e1)) (.slice e0 j.length e1) j (fun k_ => some k_ = ob (.slice (some b4) d.length d9)) (.slice (some b4) d.length d9) d (fun k_ => ((some k_ ≠ ob (.slice e0 j.length e1) ∧ (some k_ ≠ ob (.slice (some b4) d.length d9) ∧ some k_ ≠ ob (.slice e2 m.length e3)))) ∧ ∃ q_, q_ ∈ (60 :: (k60).E) ∧ ∃ cs_, s7.heap[k_]? = some (.cells cs_ q_ (0, 0))) (.slice f9 c.length g0) c (fun k_ => some k_ = ob (.slice e2 m.length e3)) (.slice e2 m.length e3) m (rd d Z) h4 h5 h6 h7 w _ ?side1 ?side2 ?side3 ?side4 ?side5 ?side6 ?side7 ?side8 ?side9 ?side10 ?side11 ?side12 ?side13 ?side14 ?side15 ?side16 ?side17 s6.o).mono ?_
   (case side1 => exact (zg_5 HB.o Zi.o Zn.o))
   (case side2 => exact jH rfl Zd.o)
   (case side3 => exact fun k_ e_ => (Zd.o.1 k_ e_.symm).1)
   (case side4 => exact fun k_ e_ hP_ => (hP_.1.1) e_)
   (case side5 => exact fun k_ e_ => (Zd.o.1 k_ e_.symm).2)
   (case side6 => exact jH rfl Ze.o)
   (case side7 => exact fun k_ e_ => (Ze.o.1 k_ e_.symm).1)
   (case side8 => exact fun k_ e_ hP_ => (hP_.1.2.1) e_)
   (case side9 => exact fun k_ e_ => (Ze.o.1 k_ e_.symm).2)
   (case side10 => exact gQ (kD (Zg.o)) (fun k_ h_ => ⟨h_.1, h_.2.2.2⟩))
   (case side11 => exact fun k_ hP_ e_ => (hP_.1.1) e_)
   (case side12 => exact fun k_ hP_ e_ => (hP_.1.2.1) e_)
   (case side13 => exact fun k_ hP_ e_ => (hP_.1.2.2) e_)
   (case side14 => exact jH rfl Zf.o)
   (case side15 => exact fun k_ e_ => (Zf.o.1 k_ e_.symm).1)
   (case side16 => exact fun k_ e_ => (Zf.o.1 k_ e_.symm).2)
   (case side17 => exact fun k_ e_ hP_ => (hP_.1.2.2) e_)
   rintro e j3 ⟨i0, i1, v6, i2, rfl, b5, b6, b7, b8, hb, hkp⟩
   refine ⟨_, rfl, ?_⟩
   have b9 := zm (mU (zg_3 Za.o) hkp (fun hs_ => gM hs_ (fun e_ => (fun e_ => (gJ Zd.o Za.o (by decide)) e_) e_) (fun e_ => gM e_ (fun e_ => (fun e_ => (gJ Ze.o Za.o (by decide)) e_) e_) (fun e_ => gM e_ (fun e_ => (fun hP_ => (by obtain ⟨_, q_, hq_, cs_, hc_⟩ := hP_; have hb_ := Za.o; rw [hb_] at hc_; injection hc_ with hc_; injection hc_ with _ h2_; rw [← h2_] at hq_; exact absurd hq_ (by decide))) e_) (fun e_ => (fun e_ => (gJ Zf.o Za.o (by decide)) e_) e_))))); have c0 := zm (mU (zg_3 Zb.o) hkp (fun hs_ => gM hs_ (fun e_ => (fun e_ => (gJ Zd.o Zb.o (by decide)) e_) e_) (fun e_ => gM e_ (fun e_ => (fun e_ => (gJ Ze.o Zb.o (by decide)) e_) e_) (fun e_ => gM e_ (fun e_ => (fun hP_ => (by obtain ⟨_, q_, hq_, cs_, hc_⟩ := hP_; have hb_ := Zb.o; rw [hb_] at hc_; injection hc_ with hc_; injection hc_ with _ h2_; rw [← h2_] at hq_; exact absurd hq_ (by decide))) e_) (fun e_ => (fun e_ => (gJ Zf.o Zb.o (by decide)) e_) e_))))); have c1 := zm (eX (ok' := fun k_ => some k_ ≠ ob i1 ∧ some k_ ≠ ob i2) b5 (fun k_ hk_ => ⟨hk_.2.1, hk_.2.2⟩)); have c7 := zm (eX (ok' := fun k_ => some k_ ≠ ob i0 ∧ some k_ ≠ ob i2) b6 (fun k_ hk_ => ⟨hk_.2.1, hk_.2.2⟩)); have c9 := zm (gQ (ok' := fun k_ => some k_ ≠ ob i0 ∧ some k_ ≠ ob i1 ∧ some k_ ≠ ob i2) b7 (fun k_ hk_ => ⟨hk_.2.1, hk_.2.2.1, hk_.2.2.2⟩)); have d0 := zm (eX (ok' := fun k_ => some k_ ≠ ob i0 ∧ some k_ ≠ ob i1) b8 (fun k_ hk_ => ⟨hk_.2.1, hk_.2.2⟩)); have d1 := zm (hb); clear Za; clear Zb; clear HB; clear Zd; clear Ze; clear Zg; clear Zf; have Za := b9; have Zb := c0; have ZG := c1; have ZH := c7; have ZI := c9; have ZJ := d0; have HB := d1; clear b9 c0 c1 c7 c9 d0 d1
   (try clear hb)
   (try clear hkp)
   (try clear b5)
   (try clear b6)
   (try clear b7)
   (try clear b8)
   obtain ⟨o5, o6, l2⟩ := fA ZG.o
   (first | subst l2 | (injection l2 with f1_ f2_ f3_; have f4_ := f1_.symm; have f5_ := f3_.symm; clear f1_ f2_ f3_; subst f4_; subst f5_))
   obtain ⟨o7, o8, l3⟩ := fA ZH.o
   (first | subst l3 | (injection l3 with f1_ f2_ f3_; have f4_ := f1_.symm; have f5_ := f3_.symm; clear f1_ f2_ f3_; subst f4_; subst f5_))
   obtain ⟨o9, p0, l4⟩ := iF ZI.o
   (first | subst l4 | (injection l4 with f1_ f2_ f3_; have f4_ := f1_.symm; have f5_ := f3_.symm; clear f1_ f2_ f3_; subst f4_; subst f5_))
   obtain ⟨p1, p3, l5⟩ := fA ZJ.o
   (first | subst l5 | (injection l5 with f1_ f2_ f3_; have f4_ := f1_.symm; have f5_ := f3_.symm; clear f1_ f2_ f3_; subst f4_; subst f5_))
   refine hK.out _ _ ?_
   clear hK K
   refine norm_ (a' := ?_) ?_ ?_
   rotate_left
   ·show gE _ (some 37) _ = _
    simp only [gE, zs, zz, zt, iQ, jF]
    rfl
   refine last_ (i := 7) (N := none) #[tt, tt, tt, tt, tt, tt, tt, tt] rfl rfl (iS HT_.o zk) (by decide) (fun K hK => ?_)
   have v8 : j3.cell? ⟨a, 0, none⟩ = some (.slice e0 j.length e1) := (eY Za.o 0).trans rfl
   have u1 := gL Za.o 0; have q3 := Zc.o; have q5 := Zh.o
   have v9 : j3.cell? ⟨a, 1, none⟩ = some (.slice (some b4) d.length d9) := (eY Za.o 1).trans rfl
   have u2 := gL Za.o 1; have q6 := Zc.o; have q7 := Zh.o
   have w2 : j3.cell? ⟨a, 2, none⟩ = some (.slice f9 c.length g0) := (eY Za.o 2).trans rfl
   have u3 := gL Za.o 2; have q8 := Zc.o; have q9 := Zh.o
   have w3 : j3.cell? ⟨a, 3, none⟩ = some (.slice e2 m.length e3) := (eY Za.o 3).trans rfl
   have u4 := gL Za.o 3; have r0 := Zc.o; have r6 := Zh.o
   refine skip_ (w1 := ?_) (by rfl) rfl ?_ ?_
   rotate_left
   ·go_simp
    rfl
   refine hK.out _ _ ?_
   clear hK K
   refine done_ (done_of HT_.o zk) ?_
   try go_wp2
   go_roundg k1
   case measure => have := m4.o; omega
   case rel => exact ⟨(wrap64 (Z + 1)), (h4), (h5), (h6), (h7), (.slice o5 h4.length o6), (.slice o7 h5.length o8), (.slice o9 h6.length p0), (.slice p1 h7.length p3), zr, H', ⟨by have := m4.o; omega⟩, ⟨eX (zR4 (fD ZG.o Za.o (by decide))) (fun _ hk => ⟨hk.1.1, hk.1.2⟩)⟩, ⟨eX (zR4 (fD ZH.o Za.o (by decide))) (fun _ hk => ⟨hk.1.1, hk.1.2⟩)⟩, ⟨gQ (zS4 (hX ZI.o Za.o (by decide))) (fun _ hk => ⟨hk.1.1, ⟨hk.1.2.1, hk.1.2.2⟩⟩)⟩, ⟨eX (zR4 (fD ZJ.o Za.o (by decide))) (fun _ hk => ⟨hk.1.1, hk.1.2⟩)⟩, ⟨by exact zput4 Za.o⟩, ⟨by exact zfar4 Zb.o Zc.o⟩, ⟨zg_5 HB.o Zi.o Zn.o⟩⟩
def bP.l0 : Nat → List Int → Int → Option (Int)
  | 0, _, _ => none
  | k + 1, x0, x3 => if x3 < (x0.length : Int) then (if 0 ≤ x3 then (if (rd x0 x3) = 0 then (some x3) else (bP.l0 k x0 (wrap64 (x3 + 1)))) else (none)) else (some (-1))
def bP.f (k : Nat) (l0 : List Int) : Option (Int) := bP.l0 k l0 0
set_option maxHeartbeats 8000000 in
set_option maxRecDepth 100000 in
theorem bP.calls (k : Nat) (u : Option Addr) (v : Nat) (b : List Int) (r : Int) (w : World) (m : Kd.C (fG .i64) w u b.length b) (n : b.length ≤ v) (h : bP.f k b = some r) :
    Calls fM 67 #[.slice u b.length v] w fun e w' => e = .returned (.int .i64 r) ∧ Drawn0 w w' := by
 have o := zm m; have z := zm n; clear m n
 have H : (bP.l0 k b 0) = some r := h
 clear h
 have H' := zm H
 clear H
 go_enter Tryz.func67, Tryz.ntmps67
 go_wp2
 go_loopg [3] k (fun kq x w' => ∃ (a : Int), x = .int .i64 a ∧ Aside0 (bP.l0 kq b a = some r) ∧ Aside0 (kq ≤ k) ∧ Drawn0 w w')
 case atStart => exact ⟨(0), zr, H', ⟨fQ _⟩, by repeat (first | exact hJ _ | apply hM)⟩
 case round =>
  clear H'
  obtain ⟨a, rfl, HA, p, ⟨m1, rfl⟩⟩ := hrel
  cases gk with
  | zero => exact absurd HA.o (by simp [bP.l0])
  | succ k1 =>
   have H := HA.o; clear HA
   simp only [bP.l0] at H
   by_cases j : a < (b.length : Int)
   rotate_left
   ·rw [if_neg j] at H
    have q := decide_eq_false j; clear j; obtain rfl := fF H
    go_wp2
    go_ret
    exact ⟨zr, by repeat (first | exact hJ _ | apply hM)⟩
   rw [if_pos j] at H; have q := decide_eq_true j; clear j
   replace H := zid H; obtain ⟨y, H⟩ := H
   by_cases g : (rd b a) = 0
   ·rw [if_pos g] at H
    have s : ((rd b a) == 0) = true := beq_iff_eq.mpr g
    have t : ((rd b a) != 0) = false := bne_eq_false_iff_eq.mpr g
    clear g; obtain rfl := fF H
    have c : 0 ≤ (a : Int) := zd
    have d : a < (b.length : Int) := zd
    obtain ⟨l, i, hx517_0⟩ := gY o.o a c d
    cases i; replace c := eq_true c; replace d := eq_true d
    go_wp2
    go_ret
    exact ⟨zr, by repeat (first | exact hJ _ | apply hM)⟩
   rw [if_neg g] at H
   have s : ((rd b a) == 0) = false := beq_eq_false_iff_ne.mpr g
   have t : ((rd b a) != 0) = true := bne_iff_ne.mpr g
   have H' := zm H
   clear H
   have c : 0 ≤ (a : Int) := zd
   have d : a < (b.length : Int) := zd
   obtain ⟨l, i, hx517_0⟩ := gY o.o a c d
   cases i; replace c := eq_true c; replace d := eq_true d
   go_wp2
   go_roundg k1
   case measure => have := p.o; omega
   case rel => exact ⟨(wrap64 (a + 1)), zr, H', ⟨by have := p.o; omega⟩, by repeat (first | exact hJ _ | apply hM)⟩
def bQ.j0 : Nat → Int → Int → Int → Bool → List Int → List Int → List (S60) → List Int → Option (List Int × List Int × (List (S60)) × List Int × Int)
  | 0, _, _, _, _, _, _, _, _ => none
  | k + 1, x1, x2, x8, x27, x519000, x519001, x519002, x519003 => if x27 = true then (if 0 ≤ (wrap64 (x8 - 2)) then (if (wrap64 (x8 - 2)) < (x519003.length : Int) then (some (x519000, x519001, x519002, (x519003.set ((wrap64 (x8 - 2)) : Int).toNat x2), 0)) else (none)) else (none)) else ((bP.f k x519000).bind fun t535 => (if t535 < 0 then (some (x519000, x519001, x519002, x519003, 7)) else ((cC.f x519000 x519001 x519002 x519003 x8).bind fun bt536 => (if 0 ≤ t535 then (if t535 < (bt536.1.length : Int) then (if t535 < (bt536.2.2.2.length : Int) then (if 0 ≤ x1 then (if x1 < (bt536.2.1.length : Int) then (some ((bt536.1.set (t535 : Int).toNat 1), (bt536.2.1.set (x1 : Int).toNat (wrap64 (2 + t535))), bt536.2.2.1, (bt536.2.2.2.set (t535 : Int).toNat x2), 0)) else (none)) else (none)) else (none)) else (none)) else (none)))))
def bQ.f (k : Nat) (l0_0 : List Int) (l0_1 : List Int) (l0_2 : List (S60)) (l0_3 : List Int) (a1 : Int) (a2 : Int) : Option (List Int × List Int × (List (S60)) × List Int × Int) := (aE.f k l0_0 l0_1 l0_2 l0_3).bind fun bt520 => (if 0 ≤ a1 then (if a1 < (bt520.2.1.length : Int) then (if (rd bt520.2.1 a1) ≥ 2 then (if 0 ≤ (wrap64 ((rd bt520.2.1 a1) - 2)) then (if (wrap64 ((rd bt520.2.1 a1) - 2)) < (bt520.1.length : Int) then (bQ.j0 k a1 a2 (rd bt520.2.1 a1) ((rd bt520.1 (wrap64 ((rd bt520.2.1 a1) - 2))) == 1) bt520.1 bt520.2.1 bt520.2.2.1 bt520.2.2.2) else (none)) else (none)) else (bQ.j0 k a1 a2 (rd bt520.2.1 a1) false bt520.1 bt520.2.1 bt520.2.2.1 bt520.2.2.2)) else (none)) else (none))
set_option maxHeartbeats 8000000 in
set_option maxRecDepth 100000 in
theorem bQ.calls (k : Nat) (a3 : Option Addr) (a4 : Nat) (M : List Int) (a5 : Option Addr) (a6 : Nat) (O : List Int) (a7 : Option Addr) (a8 : Nat) (T : List (S60)) (a9 : Option Addr) (b0 : Nat) (U : List Int) (a1 : Int) (a2 : Int) (r1 : List Int) (r2 : List Int) (r3 : List (S60)) (r4 : List Int) (r5 : Int) (w : World) (f3 : Kd.C (fG .i64) w a3 M.length M) (f4 : M.length ≤ a4) (f5 : Kd.C (fG .i64) w a5 O.length O) (f6 : O.length ≤ a6) (f7 : Kd.C k60 w a7 T.length T) (f8 : T.length ≤ a8) (f9 : Kd.C (fG .i64) w a9 U.length U) (g0 : U.length ≤ b0) (h : bQ.f k M O T U a1 a2 = some (r1, r2, r3, r4, r5)) :
    Calls fM 38 #[.agg #[.slice a3 M.length a4, .slice a5 O.length a6, .slice a7 T.length a8, .slice a9 U.length b0], .int .i64 a1, .int .i64 a2] w fun e w' => ∃ e0 e1 j5 e2 : Value, e = .returned (.tuple #[.agg #[e0, e1, j5, e2], .int .i64 r5]) ∧ Kd.R (fG .i64) 3 w' w.heap.size (fun k_ => some k_ ≠ ob e1 ∧ some k_ ≠ ob e2) e0 r1 ∧ Kd.R (fG .i64) 3 w' w.heap.size (fun k_ => some k_ ≠ ob e0 ∧ some k_ ≠ ob e2) e1 r2 ∧ Kd.S k60 60 w' w.heap.size (fun k_ => some k_ ≠ ob e0 ∧ some k_ ≠ ob e1 ∧ some k_ ≠ ob e2) j5 r3 ∧ Kd.R (fG .i64) 3 w' w.heap.size (fun k_ => some k_ ≠ ob e0 ∧ some k_ ≠ ob e1) e2 r4 ∧ Below w.heap.size w w' := by
 have hu31 := fW; have Zw := zm f3; have Zx := zm f4; clear f3 f4; have Zy := zm f5; have Zz := zm f6; clear f5 f6; have ZA := zm f7; have ZB := zm f8; clear f7 f8; have ZC := zm f9; have ZD := zm g0; clear f9 g0; have HB := zm (fX w.heap.size w); have H := h
 unfold bQ.f at H
 clear h; replace H := eW.mp H
 obtain ⟨⟨b, a, x, c⟩, g1, H⟩ := H
 try dsimp only at H
 have A4 := zm g1; clear g1
 replace H := zid H; obtain ⟨j7, H⟩ := H
 replace H := zif H; obtain ⟨c6, H⟩ := H; have j9 := decide_eq_true c6; clear c6; have g3 := zm H; clear H
 go_enter Tryz.func38, Tryz.ntmps38
 go_upto_region 3 with (first | ((with_reducible refine fP (N := 3) rfl ?_); refine fS zo (N := 3) zo (cs := #[.slice a3 M.length a4, .slice a5 O.length a6, .slice a7 T.length a8, .slice a9 U.length b0]) (t := 31) zh ?_; intro d hg w8 hbox hb; refine zG4 (eZ (zg_1 HB.o) hb) (hbox) ((by rw [hg]; exact (eV (zg_1 HB.o)) : w.heap.size ≤ d)) ((by rw [hg]; exact (eV (zg_1 HB.o)) : w.heap.size ≤ d)) ?_; clear HB; intro HB Za ZE Zk; clear hb hbox hg) | ((with_reducible refine fP (N := 6) rfl ?_); refine fS zo (N := 6) zo (cs := #[.slice none 0 0, .slice none 0 0, .slice none 0 0, .slice none 0 0]) (t := 31) zh ?_; intro D hg w9 hbox hb; refine zG7 (fB (g := d) (o := .cells #[.slice a3 M.length a4, .slice a5 O.length a6, .slice a7 T.length a8, .slice a9 U.length b0] 31 (0, 0)) (zg_3 Za.o) hb) (eZ (zg_2 HB.o Zk.o) hb) (hbox) ((by rw [hg]; exact (eV (zg_2 HB.o Zk.o)) : w.heap.size ≤ D)) ((by rw [hg]; exact (eV (zg_2 HB.o Zk.o)) : w.heap.size ≤ D)) ((by rw [hg]; exact gN (hO (g := d) (o := .cells #[.slice a3 M.length a4, .slice a5 O.length a6, .slice a7 T.length a8, .slice a9 U.length b0] 31 (0, 0)) (zg_3 Za.o)) : d ≠ D)) ((by rw [hg]; exact gT (hO (g := d) (o := .cells #[.slice a3 M.length a4, .slice a5 O.length a6, .slice a7 T.length a8, .slice a9 U.length b0] 31 (0, 0)) (zg_3 Za.o)) : D ≠ d)) ?_; clear Za HB; intro Za HB Zb ZF Zn Zp Ze; clear hb hbox hg; have k4 := Zp.o; have k5 := Ze.o; obtain ⟨_, _, _, _, _, _, _, _⟩ := zb4 Za.o) | ((with_reducible refine fJ (f := 40) rfl ?_); refine gU (some 11) rfl rfl lJ (by kernel_rfl) rfl #[.agg #[.slice a3 M.length a4, .slice a5 O.length a6, .slice a7 T.length a8, .slice a9 U.length b0]] rfl zq ?_; (with_reducible refine (aE.calls k _ _ M _ _ O _ _ T _ _ U b a x c _ ?_ ?_ ?_ ?_ ?_ ?_ ?_ ?_ A4.o).mono ?_); exact zC (fE Zw.o HB.o); exact Zx.o; exact zC (fE Zy.o HB.o); exact Zz.o; exact zC (fE ZA.o HB.o); exact ZB.o; exact zC (fE ZC.o HB.o); exact ZD.o; rintro e n2 ⟨m2, m3, m4, m5, rfl, e3, e4, e5, e6, hb⟩; refine ⟨_, rfl, ?_⟩; refine zG7 (fL e3 (eV (zg_5 HB.o Zk.o Zn.o))) (fL e4 (eV (zg_5 HB.o Zk.o Zn.o))) (mX e5 (eV (zg_5 HB.o Zk.o Zn.o))) (fL e6 (eV (zg_5 HB.o Zk.o Zn.o))) (fB (g := d) (o := .cells #[.slice a3 M.length a4, .slice a5 O.length a6, .slice a7 T.length a8, .slice a9 U.length b0] 31 (0, 0)) (zg_3 Za.o) hb) (fB (g := D) (o := .cells #[.slice none 0 0, .slice none 0 0, .slice none 0 0, .slice none 0 0] 31 (0, 0)) (zg_3 Zb.o) hb) (eZ (zg_5 HB.o Zk.o Zn.o) hb) ?_; clear Za Zb HB; intro Zl Zm Zq Zr Za Zb HB; (try clear hb); (try clear hb2); (try clear hk); (try clear hi); (try clear e3); (try clear e4); (try clear e5); (try clear e6); obtain ⟨r, n, rfl⟩ := fA Zl.o; obtain ⟨_, _, _, _, _, _, _, _⟩ := zb4 Za.o; obtain ⟨m6, s, rfl⟩ := fA Zm.o; obtain ⟨J, L, rfl⟩ := iF Zq.o; obtain ⟨B, l, rfl⟩ := fA Zr.o; have d1 : 0 ≤ (a1 : Int) := zd; have d2 : a1 < (a.length : Int) := zd; obtain ⟨i, k0, hx532_0⟩ := gY (fC Zm.o).2.2 a1 d1 d2; cases k0; have hn532_0 : i.block ≠ d := (by first | exact oC (gJ Zm.o Za.o (by decide)) | exact (Zm.o.1 _ rfl).2 | exact (Zm.o.1 _ rfl).1.2); have hn532_1 : i.block ≠ d := (by first | exact oC (gJ Zm.o Za.o (by decide)) | exact (Zm.o.1 _ rfl).2 | exact (Zm.o.1 _ rfl).1.2); have hn532_2 : i.block ≠ d := (by first | exact oC (gJ Zm.o Za.o (by decide)) | exact (Zm.o.1 _ rfl).2 | exact (Zm.o.1 _ rfl).1.2); have hn532_3 : i.block ≠ d := (by first | exact oC (gJ Zm.o Za.o (by decide)) | exact (Zm.o.1 _ rfl).2 | exact (Zm.o.1 _ rfl).1.2); replace hx532_0 := (mA (p := ⟨d, 0, none⟩) (by first | (rw [hY]; exact hn532_0) | (show (kW _ _).block ≠ _; rw [hY]; exact hn532_0) | exact hn532_0) (.slice r b.length n)).trans hx532_0; replace hx532_0 := (mA (p := ⟨d, 1, none⟩) (by first | (rw [hY]; exact hn532_1) | (show (kW _ _).block ≠ _; rw [hY]; exact hn532_1) | exact hn532_1) (.slice (some i) a.length s)).trans hx532_0; replace hx532_0 := (mA (p := ⟨d, 2, none⟩) (by first | (rw [hY]; exact hn532_2) | (show (kW _ _).block ≠ _; rw [hY]; exact hn532_2) | exact hn532_2) (.slice J x.length L)).trans hx532_0; replace hx532_0 := (mA (p := ⟨d, 3, none⟩) (by first | (rw [hY]; exact hn532_3) | (show (kW _ _).block ≠ _; rw [hY]; exact hn532_3) | exact hn532_3) (.slice B c.length l)).trans hx532_0; clear hn532_0; clear hn532_1; clear hn532_2; clear hn532_3; replace d1 := eq_true d1; replace d2 := eq_true d2))
 (try simp only [gE, zs, zz, zt])
 go_cut [27] (fun k2 wc => ∃ (kq : Nat) (b7 : Bool), k2 = .bool b7 ∧ Aside0 (bQ.j0 kq a1 a2 (rd a a1) b7 b a x c = some (r1, r2, r3, r4, r5)) ∧ Aside0 (kq ≤ k) ∧ Aside0 (Kd.R (fG .i64) 3 wc w.heap.size (fun k_ => some k_ ≠ ob ((.slice (some i) a.length s)) ∧ some k_ ≠ ob ((.slice B c.length l))) (.slice r b.length n) b) ∧ Aside0 (Kd.R (fG .i64) 3 wc w.heap.size (fun k_ => some k_ ≠ ob ((.slice r b.length n)) ∧ some k_ ≠ ob ((.slice B c.length l))) (.slice (some i) a.length s) a) ∧ Aside0 (Kd.S k60 60 wc w.heap.size (fun k_ => some k_ ≠ ob ((.slice r b.length n)) ∧ some k_ ≠ ob ((.slice (some i) a.length s)) ∧ some k_ ≠ ob ((.slice B c.length l))) (.slice J x.length L) x) ∧ Aside0 (Kd.R (fG .i64) 3 wc w.heap.size (fun k_ => some k_ ≠ ob ((.slice r b.length n)) ∧ some k_ ≠ ob ((.slice (some i) a.length s))) (.slice B c.length l) c) ∧ Aside0 (wc.heap[d]? = some (.cells #[(.slice r b.length n), (.slice (some i) a.length s), (.slice J x.length L), (.slice B c.length l)] 31 (0, 0))) ∧ Aside0 (wc.heap[D]? = some (.cells #[(.slice none 0 0), (.slice none 0 0), (.slice none 0 0), (.slice none 0 0)] 31 (0, 0))) ∧ Aside0 (Below w.heap.size w wc))
 case first =>
  have H := g3.o; clear g3
  by_cases c9 : (rd a a1) ≥ 2
  rotate_left
  ·rw [if_neg c9] at H
   have b1 := decide_eq_false c9; clear c9
   (first | rw [b1] | (simp only [iQ, jF]; rw [b1]) | skip)
   have H' := zm H
   clear H
   go_wp2
   go_meet
   case rel => exact ⟨_, (false), zr, H', ⟨by first | omega | exact fQ _⟩, ⟨eX (zR4 (fD Zl.o Za.o (by decide))) (fun _ hk => ⟨hk.1.1, hk.1.2⟩)⟩, ⟨eX (zR4 (fD Zm.o Za.o (by decide))) (fun _ hk => ⟨hk.1.1, hk.1.2⟩)⟩, ⟨gQ (zS4 (hX Zq.o Za.o (by decide))) (fun _ hk => ⟨hk.1.1, ⟨hk.1.2.1, hk.1.2.2⟩⟩)⟩, ⟨eX (zR4 (fD Zr.o Za.o (by decide))) (fun _ hk => ⟨hk.1.1, hk.1.2⟩)⟩, ⟨by exact zput4 Za.o⟩, ⟨by exact zfar4 Zb.o Ze.o⟩, ⟨zg_5 HB.o Zk.o Zn.o⟩⟩
  rw [if_pos c9] at H; have b1 := decide_eq_true c9; clear c9
  (first | rw [b1] | (simp only [iQ, jF]; rw [b1]) | skip)
  obtain ⟨ji19, hji19⟩ : ∃ j_ : Int, (wrap64 ((rd a a1) - 2)) = j_ := ⟨_, rfl⟩
  replace H : (if 0 ≤ (ji19) then (if (ji19) < (b.length : Int) then (bQ.j0 k a1 a2 (rd a a1) ((rd b (ji19)) == 1) b a x c) else (none)) else (none)) = some (r1, r2, r3, r4, r5) := by first | (rw [hji19] at H; exact H) | (simp only [hji19] at H ⊢; exact H)
  have hji19w : (nK.wrap ((rd a a1) - 2)) = ji19 := (iQ _).trans hji19
  replace H := zid H; obtain ⟨i7, H⟩ := H
  replace H := zid H; obtain ⟨i8, H⟩ := H
  have H' := zm H
  clear H; have k6 := Zp.o; have k7 := Ze.o
  obtain ⟨_, _, _, _, _, _, _, _⟩ := zb4 Za.o
  have d3 : 0 ≤ ((ji19) : Int) := zd
  have d4 : (ji19) < (b.length : Int) := zd
  obtain ⟨b4, k1, hx533_0⟩ := gY (fC Zl.o).2.2 (ji19) d3 d4
  cases k1
  have hn533_0 : b4.block ≠ d := (by first | exact oC (gJ Zl.o Za.o (by decide)) | exact (Zl.o.1 _ rfl).2 | exact (Zl.o.1 _ rfl).1.2)
  have hn533_1 : b4.block ≠ d := (by first | exact oC (gJ Zl.o Za.o (by decide)) | exact (Zl.o.1 _ rfl).2 | exact (Zl.o.1 _ rfl).1.2)
  have hn533_2 : b4.block ≠ d := (by first | exact oC (gJ Zl.o Za.o (by decide)) | exact (Zl.o.1 _ rfl).2 | exact (Zl.o.1 _ rfl).1.2)
  have hn533_3 : b4.block ≠ d := (by first | exact oC (gJ Zl.o Za.o (by decide)) | exact (Zl.o.1 _ rfl).2 | exact (Zl.o.1 _ rfl).1.2)
  replace hx533_0 := (mA (p := ⟨d, 0, none⟩) (by first | (rw [hY]; exact hn533_0) | (show (kW _ _).block ≠ _; rw [hY]; exact hn533_0) | exact hn533_0) (.slice (some b4) b.length n)).trans hx533_0; replace hx533_0 := (mA (p := ⟨d, 1, none⟩) (by first | (rw [hY]; exact hn533_1) | (show (kW _ _).block ≠ _; rw [hY]; exact hn533_1) | exact hn533_1) (.slice (some i) a.length s)).trans hx533_0; replace hx533_0 := (mA (p := ⟨d, 2, none⟩) (by first | (rw [hY]; exact hn533_2) | (show (kW _ _).block ≠ _; rw [hY]; exact hn533_2) | exact hn533_2) (.slice J x.length L)).trans hx533_0; replace hx533_0 := (mA (p := ⟨d, 3, none⟩) (by first | (rw [hY]; exact hn533_3) | (show (kW _ _).block ≠ _; rw [hY]; exact hn533_3) | exact hn533_3) (.slice B c.length l)).trans hx533_0; clear hn533_0; clear hn533_1; clear hn533_2; clear hn533_3; replace d3 := eq_true d3; replace d4 := eq_true d4
  go_wp2
  go_meet
  case rel => exact ⟨_, (((rd b (ji19)) == 1)), (by first | rfl | (simp; done) | (simp only [← hji19] <;> (first | rfl | simp)) | (simp [*]; done)), H', ⟨by first | omega | exact fQ _⟩, ⟨eX (zR4 (fD Zl.o Za.o (by decide))) (fun _ hk => ⟨hk.1.1, hk.1.2⟩)⟩, ⟨eX (zR4 (fD Zm.o Za.o (by decide))) (fun _ hk => ⟨hk.1.1, hk.1.2⟩)⟩, ⟨gQ (zS4 (hX Zq.o Za.o (by decide))) (fun _ hk => ⟨hk.1.1, ⟨hk.1.2.1, hk.1.2.2⟩⟩)⟩, ⟨eX (zR4 (fD Zr.o Za.o (by decide))) (fun _ hk => ⟨hk.1.1, hk.1.2⟩)⟩, ⟨by exact zput4 Za.o⟩, ⟨by exact zfar4 Zb.o Ze.o⟩, ⟨zg_5 HB.o Zk.o Zn.o⟩⟩
 case rest =>
  clear g3
  try clear c1
  try clear c2
  try clear p2
  try clear c3
  try clear c4
  try clear c5
  try clear j7
  try clear p5
  try clear q5
  try clear hx5
  try clear c6
  try clear j9
  try clear p6
  try clear n3
  try clear c9
  try clear b1
  try clear n4
  try clear i7
  try clear n5
  try clear i8
  try clear n6
  try clear hx532_0
  try clear hx533_0
  try clear d1
  try clear d3
  try clear d2
  try clear d4
  obtain ⟨kq, b7, rfl, HA, HJ6, Zc, Zf, Zg, Zd, Za, Zb, HB⟩ := hcut
  cases kq with
  | zero => exact absurd HA.o (by simp [bQ.j0])
  | succ g4 =>
   have H := HA.o; clear HA
   simp only [bQ.j0] at H
   by_cases g2 : b7 = true
   ·subst g2
    replace H : (if 0 ≤ (wrap64 ((rd a a1) - 2)) then (if (wrap64 ((rd a a1) - 2)) < (c.length : Int) then (some (b, a, x, (c.set ((wrap64 ((rd a a1) - 2)) : Int).toNat a2), 0)) else (none)) else (none)) = some (r1, r2, r3, r4, r5) := by rw [if_pos rfl] at H; exact H
    obtain ⟨ji25, hji25⟩ : ∃ j_ : Int, (wrap64 ((rd a a1) - 2)) = j_ := ⟨_, rfl⟩
    replace H : (if 0 ≤ (ji25) then (if (ji25) < (c.length : Int) then (some (b, a, x, (c.set ((ji25) : Int).toNat a2), 0)) else (none)) else (none)) = some (r1, r2, r3, r4, r5) := by first | (rw [hji25] at H; exact H) | (simp only [hji25] at H ⊢; exact H)
    have hji25w : (nK.wrap ((rd a a1) - 2)) = ji25 := (iQ _).trans hji25
    replace H := zid H; obtain ⟨k8, H⟩ := H
    replace H := zid H; obtain ⟨k9, H⟩ := H
    obtain ⟨g5, d5⟩ : ∃ y_ : List Int, y_ = (c.set ((ji25) : Int).toNat a2) := ⟨_, rfl⟩
    replace H : (some (b, a, x, g5, 0)) = some (r1, r2, r3, r4, r5) := zy H d5
    have i9 := zm d5; clear d5
    simp only [gC, gP] at H
    obtain ⟨rfl, rfl, rfl, rfl, rfl⟩ := H
    have l0 := Zp.o; have l1 := Ze.o
    obtain ⟨_, _, _, _, _, _, _, _⟩ := zb4 Za.o
    have g6 : 0 ≤ ((ji25) : Int) := zd
    have g7 : ((ji25) : Int) < ((c.length : Int) : Int) := zd
    obtain ⟨X, m7, g8, g9, gl28, cl28, HG28⟩ := mI Zd.o (by omega)
    (first | cases g8 | (injection g8 with ea_ en_ ec_; (first | subst ea_ | (injection ea_ with ea_; subst ea_)); subst ec_; clear en_))
    have GB28 := zm g9; have ZG := zm HG28; clear g9 gl28 HG28
    obtain ⟨hx28_0, hf28_0⟩ := jL 0 Zd.o ((ji25) : Int) g6 g7
    replace g6 := eq_true g6; replace g7 := eq_true g7; have Zs := mT Zd.o ((ji25) : Int) a2
    go_wp2_with (first | ((with_reducible refine jG (t := 3) (p := 33) rfl ?_); refine zst (w1 := (wc.setCell ⟨X, ((ji25) : Int).toNat, none⟩ (.int .i64 a2))) rfl rfl rfl zh ?_; intro h0 hw; have hg : wc.grownBy h0 (some X) := (by rw [hw]; exact Zs.2); have hp_ : Kd.R (fG .i64) 3 h0 w.heap.size (fun k_ => some k_ ≠ ob (.slice r b.length n) ∧ some k_ ≠ ob (.slice (some i) a.length s)) (.slice (some ⟨X, 0, none⟩) c.length l) g5 := (by rw [hw, i9.o]; exact Zs.1); clear Zs; refine zG7 (iK (v := (.slice (some ⟨X, 0, none⟩) c.length l)) (v1 := (.slice (some ⟨X, 0, none⟩) c.length l)) (ok := (fun k_ => some k_ ≠ ob (.slice (some i) a.length s))) (zg_6 Zc.o) hg (.inl rfl)) (iK (v := (.slice (some ⟨X, 0, none⟩) c.length l)) (v1 := (.slice (some ⟨X, 0, none⟩) c.length l)) (ok := (fun k_ => some k_ ≠ ob (.slice r b.length n))) (zg_6 Zf.o) hg (.inl rfl)) (mQ (v := (.slice (some ⟨X, 0, none⟩) c.length l)) (v1 := (.slice (some ⟨X, 0, none⟩) c.length l)) (ok := (fun k_ => some k_ ≠ ob (.slice r b.length n) ∧ some k_ ≠ ob (.slice (some i) a.length s))) (by (with_reducible repeat (first | apply jA | apply jB | apply iU)); exact gQ Zg.o (fun _ hk => ⟨⟨hk.1, hk.2.1⟩, hk.2.2⟩)) hg (.inl rfl)) (hp_) (gW (g := d) (o := .cells #[.slice r b.length n, .slice (some i) a.length s, .slice J x.length L, .slice (some ⟨X, 0, none⟩) c.length l] 31 (0, 0)) (zg_3 Za.o) hg (gJ Zd.o Za.o (by decide))) (gW (g := D) (o := .cells #[.slice none 0 0, .slice none 0 0, .slice none 0 0, .slice none 0 0] 31 (0, 0)) (zg_3 Zb.o) hg (gJ Zd.o Zb.o (by decide))) ((by rw [hw]; exact iG (HB.o) GB28.o : Below w.heap.size w h0)) ?_; clear Zc Zf Zg Zd Za Zb HB; intro Zc Zf Zg Zd Za Zb HB; clear hg hw hp_; obtain ⟨_, _, _, _, _, _, _, _⟩ := zb4 Za.o; obtain ⟨_, _, _, _, _, _, _, _⟩ := zb4 Zb.o))
    refine iD (lE rfl _ _ D 31 #[.slice r b.length n, .slice (some i) a.length s, .slice J x.length L, .slice (some ⟨X, 0, none⟩) c.length l] (0, 0) _ rfl (by exact zput4 Zb.o) fW rfl (by kernel_rfl)) rfl ?_
    exact ⟨_, _, _, _, by first | rfl | (simp [errW_none, errW_some] <;> rfl) | (simp only [← hji25]; first | rfl | (simp [errW_none, errW_some] <;> rfl)) | (simp [*, errW_none, errW_some] <;> rfl), eX (zR4 (fD Zc.o Zb.o (by decide))) (fun _ hk => ⟨hk.1.1, hk.1.2⟩), eX (zR4 (fD Zf.o Zb.o (by decide))) (fun _ hk => ⟨hk.1.1, hk.1.2⟩), gQ (zS4 (hX Zg.o Zb.o (by decide))) (fun _ hk => ⟨hk.1.1.1, ⟨hk.1.1.2, hk.1.2⟩⟩), eX (zR4 (fD Zd.o Zb.o (by decide))) (fun _ hk => ⟨hk.1.1, hk.1.2⟩), zg_5 HB.o Zk.o Zn.o⟩
   replace g2 := Bool.eq_false_iff.mpr g2; subst g2
   replace H : ((bP.f g4 b).bind fun j => (if j < 0 then (some (b, a, x, c, 7)) else ((cC.f b a x c (rd a a1)).bind fun a0 => (if 0 ≤ j then (if j < (a0.1.length : Int) then (if j < (a0.2.2.2.length : Int) then (if 0 ≤ a1 then (if a1 < (a0.2.1.length : Int) then (some ((a0.1.set (j : Int).toNat 1), (a0.2.1.set (a1 : Int).toNat (wrap64 (2 + j))), a0.2.2.1, (a0.2.2.2.set (j : Int).toNat a2), 0)) else (none)) else (none)) else (none)) else (none)) else (none))))) = some (r1, r2, r3, r4, r5) := by rw [if_neg (show ¬ (false = true) by decide)] at H; exact H
   replace H := eW.mp H
   obtain ⟨j, h1, H⟩ := H
   try dsimp only at H
   have j6 := zm h1; clear h1
   by_cases d0 : j < 0
   ·rw [if_pos d0] at H
    have j1 := decide_eq_true d0; clear d0
    simp only [gC, gP] at H
    obtain ⟨rfl, rfl, rfl, rfl, rfl⟩ := H
    have l2 := Zp.o; have l3 := Ze.o
    obtain ⟨_, _, _, _, _, _, _, _⟩ := zb4 Za.o
    go_wp2_with (first | ((with_reducible refine fJ (f := 67) rfl ?_); refine gU (some 37) rfl rfl Tryz.func67 (by kernel_rfl) rfl #[.slice r b.length n] rfl zq ?_; (with_reducible refine (bP.calls g4 _ _ b j _ ?_ ?_ j6.o).mono ?_); exact zC ((fC Zc.o).2.2); exact (fC Zc.o).2.1; rintro e w' ⟨rfl, ⟨nd, rfl⟩⟩; refine ⟨_, rfl, ?_⟩; (try (rw [drewN_self wc]; generalize hq_ : mK wc _ = wc; refine zG7 (by rw [← hq_]; exact (zg_6 Zc.o) : Kd.R (fG .i64) 3 wc w.heap.size (fun k_ => some k_ ≠ ob (.slice (some i) a.length s) ∧ some k_ ≠ ob (.slice B c.length l)) (.slice r b.length n) b) (by rw [← hq_]; exact (zg_6 Zf.o) : Kd.R (fG .i64) 3 wc w.heap.size (fun k_ => some k_ ≠ ob (.slice r b.length n) ∧ some k_ ≠ ob (.slice B c.length l)) (.slice (some i) a.length s) a) (by rw [← hq_]; exact (zg_7 Zg.o) : Kd.S k60 60 wc w.heap.size (fun k_ => some k_ ≠ ob (.slice r b.length n) ∧ some k_ ≠ ob (.slice (some i) a.length s) ∧ some k_ ≠ ob (.slice B c.length l)) (.slice J x.length L) x) (by rw [← hq_]; exact (zg_6 Zd.o) : Kd.R (fG .i64) 3 wc w.heap.size (fun k_ => some k_ ≠ ob (.slice r b.length n) ∧ some k_ ≠ ob (.slice (some i) a.length s)) (.slice B c.length l) c) (by rw [← hq_]; exact (zg_3 Za.o) : wc.heap[d]? = some (.cells #[.slice r b.length n, .slice (some i) a.length s, .slice J x.length L, .slice B c.length l] 31 (0, 0))) (by rw [← hq_]; exact (zg_3 Zb.o) : wc.heap[D]? = some (.cells #[.slice none 0 0, .slice none 0 0, .slice none 0 0, .slice none 0 0] 31 (0, 0))) (by rw [← hq_]; exact (zg_5 HB.o Zk.o Zn.o) : Below w.heap.size w wc) ?_; clear Zc Zf Zg Zd Za Zb HB hq_; intro Zc Zf Zg Zd Za Zb HB)); obtain ⟨_, _, _, _, _, _, _, _⟩ := zb4 Za.o; obtain ⟨_, _, _, _, _, _, _, _⟩ := zb4 Zb.o))
    refine iD (lE rfl _ _ D 31 #[.slice r b.length n, .slice (some i) a.length s, .slice J x.length L, .slice B c.length l] (0, 0) _ rfl (by exact zput4 Zb.o) fW rfl (by kernel_rfl)) rfl ?_
    exact ⟨_, _, _, _, ze, eX (zR4 (fD Zc.o Zb.o (by decide))) (fun _ hk => ⟨hk.1.1, hk.1.2⟩), eX (zR4 (fD Zf.o Zb.o (by decide))) (fun _ hk => ⟨hk.1.1, hk.1.2⟩), gQ (zS4 (hX Zg.o Zb.o (by decide))) (fun _ hk => ⟨hk.1.1, ⟨hk.1.2.1, hk.1.2.2⟩⟩), eX (zR4 (fD Zd.o Zb.o (by decide))) (fun _ hk => ⟨hk.1.1, hk.1.2⟩), zg_5 HB.o Zk.o Zn.o⟩
   rw [if_neg d0] at H; have j1 := decide_eq_false d0; clear d0; replace H := eW.mp H
   obtain ⟨⟨u, m, V, q⟩, h2, H⟩ := H
   try dsimp only at H
   have g1 := zm h2; clear h2
   replace H := zid H; obtain ⟨l4, H⟩ := H
   replace H := zid H; obtain ⟨l5, H⟩ := H
   obtain ⟨d6, d7⟩ : ∃ y_ : List Int, y_ = (u.set (j : Int).toNat 1) := ⟨_, rfl⟩
   replace H : (if j < (q.length : Int) then (if 0 ≤ a1 then (if a1 < (m.length : Int) then (some (d6, (m.set (a1 : Int).toNat (wrap64 (2 + j))), V, (q.set (j : Int).toNat a2), 0)) else (none)) else (none)) else (none)) = some (r1, r2, r3, r4, r5) := zy H d7
   have j2 := zm d7; clear d7
   replace H := zid H; obtain ⟨l6, H⟩ := H
   obtain ⟨e9, d8⟩ : ∃ y_ : List Int, y_ = (q.set (j : Int).toNat a2) := ⟨_, rfl⟩
   replace H : (if 0 ≤ a1 then (if a1 < (m.length : Int) then (some (d6, (m.set (a1 : Int).toNat (wrap64 (2 + j))), V, e9, 0)) else (none)) else (none)) = some (r1, r2, r3, r4, r5) := zy H d8
   have j3 := zm d8; clear d8
   replace H := zid H; obtain ⟨l7, H⟩ := H
   replace H := zid H; obtain ⟨l8, H⟩ := H
   obtain ⟨h3, d9⟩ : ∃ y_ : List Int, y_ = (m.set (a1 : Int).toNat (wrap64 (2 + j))) := ⟨_, rfl⟩
   replace H : (some (d6, h3, V, e9, 0)) = some (r1, r2, r3, r4, r5) := zy H d9
   have j4 := zm d9; clear d9
   simp only [gC, gP] at H
   obtain ⟨rfl, rfl, rfl, rfl, rfl⟩ := H
   have l9 := Zp.o; have m0 := Ze.o
   obtain ⟨_, _, _, _, _, _, _, _⟩ := zb4 Za.o
   go_wp2_with (first | ((with_reducible refine fJ (f := 67) rfl ?_); refine gU (some 37) rfl rfl Tryz.func67 (by kernel_rfl) rfl #[.slice r b.length n] rfl zq ?_; (with_reducible refine (bP.calls g4 _ _ b j _ ?_ ?_ j6.o).mono ?_); exact zC ((fC Zc.o).2.2); exact (fC Zc.o).2.1; rintro e w' ⟨rfl, ⟨nd, rfl⟩⟩; refine ⟨_, rfl, ?_⟩; (try (rw [drewN_self wc]; generalize hq_ : mK wc _ = wc; refine zG7 (by rw [← hq_]; exact (zg_6 Zc.o) : Kd.R (fG .i64) 3 wc w.heap.size (fun k_ => some k_ ≠ ob (.slice (some i) a.length s) ∧ some k_ ≠ ob (.slice B c.length l)) (.slice r b.length n) b) (by rw [← hq_]; exact (zg_6 Zf.o) : Kd.R (fG .i64) 3 wc w.heap.size (fun k_ => some k_ ≠ ob (.slice r b.length n) ∧ some k_ ≠ ob (.slice B c.length l)) (.slice (some i) a.length s) a) (by rw [← hq_]; exact (zg_7 Zg.o) : Kd.S k60 60 wc w.heap.size (fun k_ => some k_ ≠ ob (.slice r b.length n) ∧ some k_ ≠ ob (.slice (some i) a.length s) ∧ some k_ ≠ ob (.slice B c.length l)) (.slice J x.length L) x) (by rw [← hq_]; exact (zg_6 Zd.o) : Kd.R (fG .i64) 3 wc w.heap.size (fun k_ => some k_ ≠ ob (.slice r b.length n) ∧ some k_ ≠ ob (.slice (some i) a.length s)) (.slice B c.length l) c) (by rw [← hq_]; exact (zg_3 Za.o) : wc.heap[d]? = some (.cells #[.slice r b.length n, .slice (some i) a.length s, .slice J x.length L, .slice B c.length l] 31 (0, 0))) (by rw [← hq_]; exact (zg_3 Zb.o) : wc.heap[D]? = some (.cells #[.slice none 0 0, .slice none 0 0, .slice none 0 0, .slice none 0 0] 31 (0, 0))) (by rw [← hq_]; exact (zg_5 HB.o Zk.o Zn.o) : Below w.heap.size w wc) ?_; clear Zc Zf Zg Zd Za Zb HB hq_; intro Zc Zf Zg Zd Za Zb HB)); obtain ⟨_, _, _, _, _, _, _, _⟩ := zb4 Za.o) | ((with_reducible refine fJ (f := 65) rfl ?_); refine gU (some 43) rfl rfl lV (by kernel_rfl) rfl #[.agg #[.slice r b.length n, .slice (some i) a.length s, .slice J x.length L, .slice B c.length l], .int .i64 (rd a a1)] rfl zq ?_; (with_reducible refine (cC.calls (fun k_ => some k_ = ob (.slice r b.length n)) (.slice r b.length n) b (fun k_ => some k_ = ob (.slice (some i) a.length s)) (.slice (some i) a.length s) a (fun k_ => ((some k_ ≠ ob (.slice r b.length n) ∧ (some k_ ≠ ob (.slice (some i) a.length s) ∧ some k_ ≠ ob (.slice B c.length l)))) ∧ ∃ q_, q_ ∈ (60 :: (k60).E) ∧ ∃ cs_, wc.heap[k_]? = some (.cells cs_ q_ (0, 0))) (.slice J x.length L) x (fun k_ => some k_ = ob (.slice B c.length l)) (.slice B c.length l) c (rd a a1) u m V q w _ ?_ ?_ ?_ ?_ ?_ ?_ ?_ ?_ ?_ ?_ ?_ ?_ ?_ ?_ ?_ ?_ ?_ g1.o).mono ?_); exact (zg_5 HB.o Zk.o Zn.o); exact jH rfl Zc.o; exact fun k_ e_ => (Zc.o.1 k_ e_.symm).1; exact fun k_ e_ hP_ => (hP_.1.1) e_; exact fun k_ e_ => (Zc.o.1 k_ e_.symm).2; exact jH rfl Zf.o; exact fun k_ e_ => (Zf.o.1 k_ e_.symm).1; exact fun k_ e_ hP_ => (hP_.1.2.1) e_; exact fun k_ e_ => (Zf.o.1 k_ e_.symm).2; exact gQ (kD (Zg.o)) (fun k_ h_ => ⟨h_.1, h_.2.2.2⟩); exact fun k_ hP_ e_ => (hP_.1.1) e_; exact fun k_ hP_ e_ => (hP_.1.2.1) e_; exact fun k_ hP_ e_ => (hP_.1.2.2) e_; exact jH rfl Zd.o; exact fun k_ e_ => (Zd.o.1 k_ e_.symm).1; exact fun k_ e_ => (Zd.o.1 k_ e_.symm).2; exact fun k_ e_ hP_ => (hP_.1.2.2) e_; rintro e k3 ⟨f0, f1, m8, f2, rfl, e3, e4, e5, e6, hb, hkp⟩; refine ⟨_, rfl, ?_⟩; refine zG7 (mU (zg_3 Za.o) hkp (fun hs_ => gM hs_ (fun e_ => (fun e_ => (gJ Zc.o Za.o (by decide)) e_) e_) (fun e_ => gM e_ (fun e_ => (fun e_ => (gJ Zf.o Za.o (by decide)) e_) e_) (fun e_ => gM e_ (fun e_ => (fun hP_ => (by obtain ⟨_, q_, hq_, cs_, hc_⟩ := hP_; have hb_ := Za.o; rw [hb_] at hc_; injection hc_ with hc_; injection hc_ with _ h2_; rw [← h2_] at hq_; exact absurd hq_ (by decide))) e_) (fun e_ => (fun e_ => (gJ Zd.o Za.o (by decide)) e_) e_))))) (mU (zg_3 Zb.o) hkp (fun hs_ => gM hs_ (fun e_ => (fun e_ => (gJ Zc.o Zb.o (by decide)) e_) e_) (fun e_ => gM e_ (fun e_ => (fun e_ => (gJ Zf.o Zb.o (by decide)) e_) e_) (fun e_ => gM e_ (fun e_ => (fun hP_ => (by obtain ⟨_, q_, hq_, cs_, hc_⟩ := hP_; have hb_ := Zb.o; rw [hb_] at hc_; injection hc_ with hc_; injection hc_ with _ h2_; rw [← h2_] at hq_; exact absurd hq_ (by decide))) e_) (fun e_ => (fun e_ => (gJ Zd.o Zb.o (by decide)) e_) e_))))) (eX (ok' := fun k_ => some k_ ≠ ob f1 ∧ some k_ ≠ ob f2) e3 (fun k_ hk_ => ⟨hk_.2.1, hk_.2.2⟩)) (eX (ok' := fun k_ => some k_ ≠ ob f0 ∧ some k_ ≠ ob f2) e4 (fun k_ hk_ => ⟨hk_.2.1, hk_.2.2⟩)) (gQ (ok' := fun k_ => some k_ ≠ ob f0 ∧ some k_ ≠ ob f1 ∧ some k_ ≠ ob f2) e5 (fun k_ hk_ => ⟨hk_.2.1, hk_.2.2.1, hk_.2.2.2⟩)) (eX (ok' := fun k_ => some k_ ≠ ob f0 ∧ some k_ ≠ ob f1) e6 (fun k_ hk_ => ⟨hk_.2.1, hk_.2.2⟩)) (hb) ?_; clear Zc Zf Zg Zd Za Zb HB; intro Za Zb Zh Zi Zo Zj HB; (try clear hb); (try clear hkp); (try clear e3); (try clear e4); (try clear e5); (try clear e6); obtain ⟨b6, y, rfl⟩ := fA Zh.o; obtain ⟨_, _, _, _, _, _, _, _⟩ := zb4 Za.o; obtain ⟨I, z, rfl⟩ := fA Zi.o; obtain ⟨b2, b3, rfl⟩ := iF Zo.o; obtain ⟨Z, A, rfl⟩ := fA Zj.o) | ((with_reducible refine jG (t := 31) (p := 3) rfl ?_); refine zst (w1 := ((((k3.setCell ⟨d, 0, none⟩ (.slice b6 u.length y)).setCell ⟨d, 1, none⟩ (.slice I m.length z)).setCell ⟨d, 2, none⟩ (.slice b2 V.length b3)).setCell ⟨d, 3, none⟩ (.slice Z q.length A))) rfl rfl rfl zh ?_; intro b5 hw; refine zG7 (by rw [hw]; exact (eX (zR4 (fD Zh.o Za.o (by decide))) (fun _ hk => ⟨hk.1.1, hk.1.2⟩)) : Kd.R (fG .i64) 3 b5 w.heap.size (fun k_ => some k_ ≠ ob (.slice I m.length z) ∧ some k_ ≠ ob (.slice Z q.length A)) (.slice b6 u.length y) u) (by rw [hw]; exact (eX (zR4 (fD Zi.o Za.o (by decide))) (fun _ hk => ⟨hk.1.1, hk.1.2⟩)) : Kd.R (fG .i64) 3 b5 w.heap.size (fun k_ => some k_ ≠ ob (.slice b6 u.length y) ∧ some k_ ≠ ob (.slice Z q.length A)) (.slice I m.length z) m) (by rw [hw]; exact (gQ (zS4 (hX Zo.o Za.o (by decide))) (fun _ hk => ⟨hk.1.1, ⟨hk.1.2.1, hk.1.2.2⟩⟩)) : Kd.S k60 60 b5 w.heap.size (fun k_ => some k_ ≠ ob (.slice b6 u.length y) ∧ some k_ ≠ ob (.slice I m.length z) ∧ some k_ ≠ ob (.slice Z q.length A)) (.slice b2 V.length b3) V) (by rw [hw]; exact (eX (zR4 (fD Zj.o Za.o (by decide))) (fun _ hk => ⟨hk.1.1, hk.1.2⟩)) : Kd.R (fG .i64) 3 b5 w.heap.size (fun k_ => some k_ ≠ ob (.slice b6 u.length y) ∧ some k_ ≠ ob (.slice I m.length z)) (.slice Z q.length A) q) (by rw [hw]; exact (by exact zput4 Za.o) : b5.heap[d]? = some (.cells #[.slice b6 u.length y, .slice I m.length z, .slice b2 V.length b3, .slice Z q.length A] 31 (0, 0))) (by rw [hw]; exact (by exact zfar4 Zb.o Ze.o) : b5.heap[D]? = some (.cells #[.slice none 0 0, .slice none 0 0, .slice none 0 0, .slice none 0 0] 31 (0, 0))) (by rw [hw]; exact (zg_5 HB.o Zk.o Zn.o) : Below w.heap.size w b5) ?_; clear hw Zh Zi Zo Zj Za Zb HB; intro Zh Zi Zo Zj Za Zb HB; obtain ⟨_, _, _, _, _, _, _, _⟩ := zb4 Za.o; have h4 : 0 ≤ (j : Int) := zd; have h5 : (j : Int) < ((u.length : Int) : Int) := zd; obtain ⟨F, m9, h6, h7, gl43, cl43, HG43⟩ := mI Zh.o (by omega); (first | cases h6 | (injection h6 with ea_ en_ ec_; (first | subst ea_ | (injection ea_ with ea_; subst ea_)); subst ec_; clear en_)); have GB43 := zm h7; have ZH := zm HG43; clear h7 gl43 HG43; obtain ⟨hx43_0, hf43_0⟩ := jL 0 Zh.o (j : Int) h4 h5; replace h4 := eq_true h4; replace h5 := eq_true h5; obtain ⟨hy59_, hz59_⟩ := jL 0 Zh.o (j : Int) (zd) (zd); have Zt := mT Zh.o (j : Int) 1) | ((with_reducible refine jG (t := 3) (p := 47) rfl ?_); refine zst (w1 := (b5.setCell ⟨F, (j : Int).toNat, none⟩ (.int .i64 1))) rfl rfl rfl zh ?_; intro e7 hw; have hg : b5.grownBy e7 (some F) := (by rw [hw]; exact Zt.2); have hp_ : Kd.R (fG .i64) 3 e7 w.heap.size (fun k_ => some k_ ≠ ob (.slice I m.length z) ∧ some k_ ≠ ob (.slice Z q.length A)) (.slice (some ⟨F, 0, none⟩) u.length y) d6 := (by rw [hw, j2.o]; exact Zt.1); clear Zt; refine zG7 (gW (g := d) (o := .cells #[.slice (some ⟨F, 0, none⟩) u.length y, .slice I m.length z, .slice b2 V.length b3, .slice Z q.length A] 31 (0, 0)) (zg_3 Za.o) hg (gJ Zh.o Za.o (by decide))) (gW (g := D) (o := .cells #[.slice none 0 0, .slice none 0 0, .slice none 0 0, .slice none 0 0] 31 (0, 0)) (zg_3 Zb.o) hg (gJ Zh.o Zb.o (by decide))) (hp_) (iK (v := (.slice (some ⟨F, 0, none⟩) u.length y)) (v1 := (.slice (some ⟨F, 0, none⟩) u.length y)) (ok := (fun k_ => some k_ ≠ ob (.slice Z q.length A))) (by (with_reducible repeat (first | apply fY | apply fZ | apply fK)); exact eX Zi.o (fun _ hk => ⟨hk.2, hk.1⟩)) hg (.inl rfl)) (mQ (v := (.slice (some ⟨F, 0, none⟩) u.length y)) (v1 := (.slice (some ⟨F, 0, none⟩) u.length y)) (ok := (fun k_ => some k_ ≠ ob (.slice I m.length z) ∧ some k_ ≠ ob (.slice Z q.length A))) (by (with_reducible repeat (first | apply jA | apply jB | apply iU)); exact gQ Zo.o (fun _ hk => ⟨⟨hk.2.1, hk.2.2⟩, hk.1⟩)) hg (.inl rfl)) (iK (v := (.slice (some ⟨F, 0, none⟩) u.length y)) (v1 := (.slice (some ⟨F, 0, none⟩) u.length y)) (ok := (fun k_ => some k_ ≠ ob (.slice I m.length z))) (by (with_reducible repeat (first | apply fY | apply fZ | apply fK)); exact eX Zj.o (fun _ hk => ⟨hk.2, hk.1⟩)) hg (.inl rfl)) ((by rw [hw]; exact iG (HB.o) GB43.o : Below w.heap.size w e7)) ?_; clear Za Zb Zh Zi Zo Zj HB; intro Za Zb Zh Zi Zo Zj HB; clear hg hw hp_; obtain ⟨_, _, _, _, _, _, _, _⟩ := zb4 Za.o; have h8 : 0 ≤ (j : Int) := zd; have h9 : (j : Int) < ((q.length : Int) : Int) := zd; obtain ⟨G, n0, i0, i1, gl45, cl45, HG45⟩ := mI Zj.o (by omega); (first | cases i0 | (injection i0 with ea_ en_ ec_; (first | subst ea_ | (injection ea_ with ea_; subst ea_)); subst ec_; clear en_)); have GB45 := zm i1; have ZI := zm HG45; clear i1 gl45 HG45; obtain ⟨hx45_0, hf45_0⟩ := jL 0 Zj.o (j : Int) h8 h9; replace h8 := eq_true h8; replace h9 := eq_true h9; obtain ⟨hy62_, hz62_⟩ := jL 0 Zj.o (j : Int) (zd) (zd); have Zu := mT Zj.o (j : Int) a2) | ((with_reducible refine jG (t := 3) (p := 52) rfl ?_); refine zst (w1 := (e7.setCell ⟨G, (j : Int).toNat, none⟩ (.int .i64 a2))) rfl rfl rfl zh ?_; intro e8 hw; have hg : e7.grownBy e8 (some G) := (by rw [hw]; exact Zu.2); have hp_ : Kd.R (fG .i64) 3 e8 w.heap.size (fun k_ => some k_ ≠ ob (.slice I m.length z) ∧ some k_ ≠ ob (.slice (some ⟨F, 0, none⟩) u.length y)) (.slice (some ⟨G, 0, none⟩) q.length A) e9 := (by rw [hw, j3.o]; exact Zu.1); clear Zu; refine zG7 (gW (g := d) (o := .cells #[.slice (some ⟨F, 0, none⟩) u.length y, .slice I m.length z, .slice b2 V.length b3, .slice (some ⟨G, 0, none⟩) q.length A] 31 (0, 0)) (zg_3 Za.o) hg (gJ Zj.o Za.o (by decide))) (gW (g := D) (o := .cells #[.slice none 0 0, .slice none 0 0, .slice none 0 0, .slice none 0 0] 31 (0, 0)) (zg_3 Zb.o) hg (gJ Zj.o Zb.o (by decide))) (iK (v := (.slice (some ⟨G, 0, none⟩) q.length A)) (v1 := (.slice (some ⟨G, 0, none⟩) q.length A)) (ok := (fun k_ => some k_ ≠ ob (.slice I m.length z))) (zg_6 Zh.o) hg (.inl rfl)) (iK (v := (.slice (some ⟨G, 0, none⟩) q.length A)) (v1 := (.slice (some ⟨G, 0, none⟩) q.length A)) (ok := (fun k_ => some k_ ≠ ob (.slice (some ⟨F, 0, none⟩) u.length y))) (by (with_reducible repeat (first | apply fY | apply fZ | apply fK)); exact eX Zi.o (fun _ hk => ⟨hk.2, hk.1⟩)) hg (.inl rfl)) (mQ (v := (.slice (some ⟨G, 0, none⟩) q.length A)) (v1 := (.slice (some ⟨G, 0, none⟩) q.length A)) (ok := (fun k_ => some k_ ≠ ob (.slice (some ⟨F, 0, none⟩) u.length y) ∧ some k_ ≠ ob (.slice I m.length z))) (by (with_reducible repeat (first | apply jA | apply jB | apply iU)); exact gQ Zo.o (fun _ hk => ⟨⟨hk.2, hk.1.1⟩, hk.1.2⟩)) hg (.inl rfl)) (hp_) ((by rw [hw]; exact iG (HB.o) GB45.o : Below w.heap.size w e8)) ?_; clear Za Zb Zh Zi Zo Zj HB; intro Za Zb Zh Zi Zo Zj HB; clear hg hw hp_; obtain ⟨_, _, _, _, _, _, _, _⟩ := zb4 Za.o; have i2 : 0 ≤ (a1 : Int) := zd; have i3 : (a1 : Int) < ((m.length : Int) : Int) := zd; obtain ⟨Y, n1, i4, i5, gl48, cl48, HG48⟩ := mI Zi.o (by omega); (first | cases i4 | (injection i4 with ea_ en_ ec_; (first | subst ea_ | (injection ea_ with ea_; subst ea_)); subst ec_; clear en_)); have GB48 := zm i5; have ZJ := zm HG48; clear i5 gl48 HG48; obtain ⟨hx48_0, hf48_0⟩ := jL 0 Zi.o (a1 : Int) i2 i3; replace i2 := eq_true i2; replace i3 := eq_true i3; obtain ⟨hy65_, hz65_⟩ := jL 0 Zi.o (a1 : Int) (zd) (zd); have Zv := mT Zi.o (a1 : Int) (wrap64 (2 + j))) | ((with_reducible refine jG (t := 3) (p := 58) rfl ?_); refine zst (w1 := (e8.setCell ⟨Y, (a1 : Int).toNat, none⟩ (.int .i64 (wrap64 (2 + j))))) rfl rfl rfl zh ?_; intro i6 hw; have hg : e8.grownBy i6 (some Y) := (by rw [hw]; exact Zv.2); have hp_ : Kd.R (fG .i64) 3 i6 w.heap.size (fun k_ => some k_ ≠ ob (.slice (some ⟨F, 0, none⟩) u.length y) ∧ some k_ ≠ ob (.slice (some ⟨G, 0, none⟩) q.length A)) (.slice (some ⟨Y, 0, none⟩) m.length z) h3 := (by rw [hw, j4.o]; exact Zv.1); clear Zv; refine zG7 (gW (g := d) (o := .cells #[.slice (some ⟨F, 0, none⟩) u.length y, .slice (some ⟨Y, 0, none⟩) m.length z, .slice b2 V.length b3, .slice (some ⟨G, 0, none⟩) q.length A] 31 (0, 0)) (zg_3 Za.o) hg (gJ Zi.o Za.o (by decide))) (gW (g := D) (o := .cells #[.slice none 0 0, .slice none 0 0, .slice none 0 0, .slice none 0 0] 31 (0, 0)) (zg_3 Zb.o) hg (gJ Zi.o Zb.o (by decide))) (iK (v := (.slice (some ⟨Y, 0, none⟩) m.length z)) (v1 := (.slice (some ⟨Y, 0, none⟩) m.length z)) (ok := (fun k_ => some k_ ≠ ob (.slice (some ⟨G, 0, none⟩) q.length A))) (by (with_reducible repeat (first | apply fY | apply fZ | apply fK)); exact eX Zh.o (fun _ hk => ⟨hk.2, hk.1⟩)) hg (.inl rfl)) (hp_) (mQ (v := (.slice (some ⟨Y, 0, none⟩) m.length z)) (v1 := (.slice (some ⟨Y, 0, none⟩) m.length z)) (ok := (fun k_ => some k_ ≠ ob (.slice (some ⟨F, 0, none⟩) u.length y) ∧ some k_ ≠ ob (.slice (some ⟨G, 0, none⟩) q.length A))) (by (with_reducible repeat (first | apply jA | apply jB | apply iU)); exact gQ Zo.o (fun _ hk => ⟨⟨hk.1.1, hk.2⟩, hk.1.2⟩)) hg (.inl rfl)) (iK (v := (.slice (some ⟨Y, 0, none⟩) m.length z)) (v1 := (.slice (some ⟨Y, 0, none⟩) m.length z)) (ok := (fun k_ => some k_ ≠ ob (.slice (some ⟨F, 0, none⟩) u.length y))) (by (with_reducible repeat (first | apply fY | apply fZ | apply fK)); exact eX Zj.o (fun _ hk => ⟨hk.2, hk.1⟩)) hg (.inl rfl)) ((by rw [hw]; exact iG (HB.o) GB48.o : Below w.heap.size w i6)) ?_; clear Za Zb Zh Zi Zo Zj HB; intro Za Zb Zh Zi Zo Zj HB; clear hg hw hp_; obtain ⟨_, _, _, _, _, _, _, _⟩ := zb4 Za.o; obtain ⟨_, _, _, _, _, _, _, _⟩ := zb4 Zb.o))
   refine iD (lE rfl _ _ D 31 #[.slice (some ⟨F, 0, none⟩) u.length y, .slice (some ⟨Y, 0, none⟩) m.length z, .slice b2 V.length b3, .slice (some ⟨G, 0, none⟩) q.length A] (0, 0) _ rfl (by exact zput4 Zb.o) fW rfl (by kernel_rfl)) rfl ?_
   exact ⟨_, _, _, _, ze, eX (zR4 (fD Zh.o Zb.o (by decide))) (fun _ hk => ⟨hk.1.2, hk.1.1⟩), eX (zR4 (fD Zi.o Zb.o (by decide))) (fun _ hk => ⟨hk.1.1, hk.1.2⟩), gQ (zS4 (hX Zo.o Zb.o (by decide))) (fun _ hk => ⟨hk.1.1.1, ⟨hk.1.2, hk.1.1.2⟩⟩), eX (zR4 (fD Zj.o Zb.o (by decide))) (fun _ hk => ⟨hk.1.1, hk.1.2⟩), zg_5 HB.o Zk.o Zn.o⟩
def cD.f (k : Nat) (l0_0 : List Int) (l0_1 : List Int) (l0_2 : List (S60)) (l0_3 : List Int) (a1 : Int) : Option (List Int × List Int × (List (S60)) × List Int) := (aE.f k l0_0 l0_1 l0_2 l0_3).bind fun bt491 => (if 0 ≤ a1 then (if a1 < (l0_1.length : Int) then ((cC.f bt491.1 bt491.2.1 bt491.2.2.1 bt491.2.2.2 (rd l0_1 a1)).bind fun bt504 => (if a1 < (bt504.2.1.length : Int) then (some (bt504.1, (bt504.2.1.set (a1 : Int).toNat 1), bt504.2.2.1, bt504.2.2.2)) else (none))) else (none)) else (none))
def cD.T1 : Bool × List (List Nat × List Nat) := (true, [([], []), ([0], [0]), ([], []), ([2], [2]), ([], []), ([3, 4], [3, 4]), ([5], [5]), ([1, 6, 1], [1, 6]), ([7, 7, 0, 1, 2, 3, 4, 5, 6, 7], [7])])
def cD.B1 : List Nat := [0, 1, 0, 4, 0, 28, 60, 127, 255]
theorem cD.tab1 : rtab .any (opsOf Tryz.f37 1) = cD.T1 := by kernel_rfl
theorem cD.bits1 : waitsOk cD.T1.2 cD.B1 = true := by kernel_rfl
set_option maxHeartbeats 8000000 in
set_option maxRecDepth 100000 in
theorem cD.calls (k : Nat) (G : Option Addr) (I : Nat) (x : List Int) (a6 : Option Addr) (J : Nat) (l : List Int) (L : Option Addr) (M : Nat) (y : List (S60)) (O : Option Addr) (T : Nat) (z : List Int) (a1 : Int) (r1 : List Int) (r2 : List Int) (r3 : List (S60)) (r4 : List Int) (w : World) (d1 : Kd.C (fG .i64) w G x.length x) (d2 : x.length ≤ I) (d3 : Kd.C (fG .i64) w a6 l.length l) (d4 : l.length ≤ J) (d5 : Kd.C k60 w L y.length y) (d6 : y.length ≤ M) (d7 : Kd.C (fG .i64) w O z.length z) (d8 : z.length ≤ T) (h : cD.f k x l y z a1 = some (r1, r2, r3, r4)) :
    Calls fM 37 #[.agg #[.slice G x.length I, .slice a6 l.length J, .slice L y.length M, .slice O z.length T], .int .i64 a1] w fun e w' => ∃ b8 b9 f2 c0 : Value, e = .returned (.agg #[b8, b9, f2, c0]) ∧ Kd.R (fG .i64) 3 w' w.heap.size (fun k_ => some k_ ≠ ob b9 ∧ some k_ ≠ ob c0) b8 r1 ∧ Kd.R (fG .i64) 3 w' w.heap.size (fun k_ => some k_ ≠ ob b8 ∧ some k_ ≠ ob c0) b9 r2 ∧ Kd.S k60 60 w' w.heap.size (fun k_ => some k_ ≠ ob b8 ∧ some k_ ≠ ob b9 ∧ some k_ ≠ ob c0) f2 r3 ∧ Kd.R (fG .i64) 3 w' w.heap.size (fun k_ => some k_ ≠ ob b8 ∧ some k_ ≠ ob b9) c0 r4 ∧ Below w.heap.size w w' := by
 have hu31 := fW; have Zq := zm d1; have Zr := zm d2; clear d1 d2; have Zo := zm d3; have Zs := zm d4; clear d3 d4; have Zt := zm d5; have Zu := zm d6; clear d5 d6; have Zv := zm d7; have Zw := zm d8; clear d7 d8; have HB := zm (fX w.heap.size w); have H := h
 unfold cD.f at H
 clear h; replace H := eW.mp H
 obtain ⟨⟨a7, a8, b0, a9⟩, f3, H⟩ := H
 try dsimp only at H
 have A3 := zm f3; clear f3
 replace H := zid H; obtain ⟨i3, H⟩ := H
 replace H := zif H; obtain ⟨c5, H⟩ := H; have i4 := decide_eq_true c5; clear c5; replace H := eW.mp H
 obtain ⟨⟨d, b, u, j⟩, f4, H⟩ := H
 try dsimp only at H
 have A6 := zm f4; clear f4
 replace H := zid H; obtain ⟨i6, H⟩ := H
 obtain ⟨d9, b1⟩ : ∃ y_ : List Int, y_ = (b.set (a1 : Int).toNat 1) := ⟨_, rfl⟩
 replace H : (some (d, d9, u, j)) = some (r1, r2, r3, r4) := zy H b1
 have f1 := zm b1; clear b1
 simp only [gC, gP] at H
 obtain ⟨rfl, rfl, rfl, rfl⟩ := H
 go_enter Tryz.func37, Tryz.ntmps37
 try go_wp2_with (first | ((with_reducible refine fP (N := 2) rfl ?_); refine fS zo (N := 2) zo (cs := #[.slice G x.length I, .slice a6 l.length J, .slice L y.length M, .slice O z.length T]) (t := 31) zh ?_; intro a hg w9 hbox hb; refine zG4 (eZ (zg_1 HB.o) hb) (hbox) ((by rw [hg]; exact (eV (zg_1 HB.o)) : w.heap.size ≤ a)) ((by rw [hg]; exact (eV (zg_1 HB.o)) : w.heap.size ≤ a)) ?_; clear HB; intro HB Za Zx Zf; clear hb hbox hg) | ((with_reducible refine fP (N := 4) rfl ?_); refine fS zo (N := 4) zo (cs := #[.slice none 0 0, .slice none 0 0, .slice none 0 0, .slice none 0 0]) (t := 31) zh ?_; intro F hg h4 hbox hb; refine zG7 (fB (g := a) (o := .cells #[.slice G x.length I, .slice a6 l.length J, .slice L y.length M, .slice O z.length T] 31 (0, 0)) (zg_3 Za.o) hb) (eZ (zg_2 HB.o Zf.o) hb) (hbox) ((by rw [hg]; exact (eV (zg_2 HB.o Zf.o)) : w.heap.size ≤ F)) ((by rw [hg]; exact (eV (zg_2 HB.o Zf.o)) : w.heap.size ≤ F)) ((by rw [hg]; exact gN (hO (g := a) (o := .cells #[.slice G x.length I, .slice a6 l.length J, .slice L y.length M, .slice O z.length T] 31 (0, 0)) (zg_3 Za.o)) : a ≠ F)) ((by rw [hg]; exact gT (hO (g := a) (o := .cells #[.slice G x.length I, .slice a6 l.length J, .slice L y.length M, .slice O z.length T] 31 (0, 0)) (zg_3 Za.o)) : F ≠ a)) ?_; clear Za HB; intro Za HB Zb Zy Zg Zd Zc; clear hb hbox hg))
 have U := zm (fU Za.o); have V := zm (fU Zb.o); have X := zm (gA HB.o); clear Za; clear Zb; clear HB; have Za := U; have Zb := V; have HB := X; clear U V X
 have c6 : 0 ≤ (a1 : Int) := zd
 have c7 : a1 < (l.length : Int) := zd
 obtain ⟨a0, g2, hx503_0⟩ := gY Zo.o a1 c6 c7
 have hw503_0 := hx503_0; cases g2; replace hx503_0 := (HB.o.cell (eU w _ hx503_0)).trans hx503_0; replace c6 := eq_true c6; replace c7 := eq_true c7
 refine start_ (n := 9) (S := fun w' => w'.cell? ⟨a, 0, none⟩ = some (.slice G x.length I) ∧ w'.cell? ⟨a, 1, none⟩ = some (.slice (some a0) l.length J) ∧ w'.cell? ⟨a, 2, none⟩ = some (.slice L y.length M) ∧ w'.cell? ⟨a, 3, none⟩ = some (.slice O z.length T) ∧ w'.cell? (a0.add (a1).toNat) = some (.int .i64 (rd l a1))) (ds := [8]) #[ff, ff, ff, ff, ff, ff, ff, ff, ff] (by kernel_rfl) rfl rfl ⟨(eY Za.o 0).trans rfl, (eY Za.o 1).trans rfl, (eY Za.o 2).trans rfl, (eY Za.o 3).trans rfl, ((HB.o.cell (eU w _ hw503_0)).trans hw503_0)⟩ (fun hHeld => ?_); refine kJ cD.tab1 cD.bits1 (fun HT_ HW_ => ?_)
 generalize h4.drew = j6 at Za Zb HB hx503_0 hHeld ⊢
 refine gR (i := 2) (N := some 7) #[ff, ff, tt, ff, ff, ff, ff, ff, ff] rfl rfl (gD HT_.o zk) (fun _ _ _ h => h) (.inl ⟨by rfl, zi⟩) zu ?_
 refine gR (i := 4) (N := some 9) #[ff, ff, tt, ff, tt, ff, ff, ff, ff] rfl rfl (gD HT_.o zk) (fun _ _ _ h => h) (.inl ⟨by rfl, zi⟩) zu ?_
 refine kA (i := 0) (N := some 5) #[tt, ff, tt, ff, tt, ff, ff, ff, ff] rfl rfl (hZ HT_.o HW_.o zk) (fun _ _ _ h => h) (.inl ⟨by rfl, zi5⟩) hHeld zu ?_
 refine kA (i := 3) (N := some 8) #[tt, ff, tt, tt, tt, ff, ff, ff, ff] rfl rfl (hZ HT_.o HW_.o zk) (fun _ _ _ h => h) (.inl ⟨by rfl, zi5⟩) hHeld zu ?_
 refine gR (i := 5) (N := some 10) #[tt, ff, tt, tt, tt, tt, ff, ff, ff] rfl rfl (gD HT_.o zk) (fun _ _ _ h => h) (.inl ⟨by rfl, zi⟩) zu ?_
 refine kA (i := 6) (N := some 11) #[tt, ff, tt, tt, tt, tt, tt, ff, ff] rfl rfl (hZ HT_.o HW_.o zk) (fun _ _ _ h => h) (.inl ⟨by rfl, zi5⟩) hHeld zu ?_
 refine one_ (i := 1) (N := some 6) #[tt, tt, tt, tt, tt, tt, tt, ff, ff] rfl rfl (iS HT_.o zk) (by decide) (fun K hK => ?_)
 refine goes_ lJ (by kernel_rfl) rfl #[.agg #[.slice G x.length I, .slice (some a0) l.length J, .slice L y.length M, .slice O z.length T]] (by rfl) rfl rfl zq ?_
 with_reducible refine (aE.calls k _ _ x _ _ l _ _ y _ _ z a7 a8 b0 a9 _ ?side1 ?side2 ?side3 ?side4 ?side5 ?side6 ?side7 ?side8 A3.o).mono ?_
 (case side1 => exact zC (fE Zq.o HB.o))
 (case side2 => exact Zr.o)
 (case side3 => exact zC (fE Zo.o HB.o))
 (case side4 => exact Zs.o)
 (case side5 => exact zC (fE Zt.o HB.o))
 (case side6 => exact Zu.o)
 (case side7 => exact zC (fE Zv.o HB.o))
 (case side8 => exact Zw.o)
 rintro e h5 ⟨i7, i8, i9, j0, rfl, c1, c2, c3, c4, hb⟩
 refine ⟨_, rfl, ?_⟩
 have U := zm (fL c1 (eV (zg_5 HB.o Zf.o Zg.o))); have V := zm (fL c2 (eV (zg_5 HB.o Zf.o Zg.o))); have X := zm (mX c3 (eV (zg_5 HB.o Zf.o Zg.o))); have a2 := zm (fL c4 (eV (zg_5 HB.o Zf.o Zg.o))); have a3 := zm (fB (g := a) (o := .cells #[.slice G x.length I, .slice (some a0) l.length J, .slice L y.length M, .slice O z.length T] 31 (0, 0)) (zg_3 Za.o) hb); have a4 := zm (fB (g := F) (o := .cells #[.slice none 0 0, .slice none 0 0, .slice none 0 0, .slice none 0 0] 31 (0, 0)) (zg_3 Zb.o) hb); have a5 := zm (eZ (zg_5 HB.o Zf.o Zg.o) hb); clear Za; clear Zb; clear HB; have Zk := U; have Zl := V; have Zn := X; have Zm := a2; have Za := a3; have Zb := a4; have HB := a5; clear U V X a2 a3 a4 a5
 (try clear hb)
 (try clear hb2)
 (try clear hk)
 (try clear hi)
 (try clear c1)
 (try clear c2)
 (try clear c3)
 (try clear c4)
 obtain ⟨b2, b3, e0⟩ := fA Zk.o
 (first | subst e0 | (injection e0 with f1_ f2_ f3_; have f4_ := f1_.symm; have f5_ := f3_.symm; clear f1_ f2_ f3_; subst f4_; subst f5_))
 obtain ⟨b4, b5, e1⟩ := fA Zl.o
 (first | subst e1 | (injection e1 with f1_ f2_ f3_; have f4_ := f1_.symm; have f5_ := f3_.symm; clear f1_ f2_ f3_; subst f4_; subst f5_))
 obtain ⟨e2, e3, e4⟩ := iF Zn.o
 (first | subst e4 | (injection e4 with f1_ f2_ f3_; have f4_ := f1_.symm; have f5_ := f3_.symm; clear f1_ f2_ f3_; subst f4_; subst f5_))
 obtain ⟨b6, b7, e5⟩ := fA Zm.o
 (first | subst e5 | (injection e5 with f1_ f2_ f3_; have f4_ := f1_.symm; have f5_ := f3_.symm; clear f1_ f2_ f3_; subst f4_; subst f5_))
 refine hK.out _ _ ⟨(eY Za.o 0).trans rfl, (eY Za.o 1).trans rfl, (eY Za.o 2).trans rfl, (eY Za.o 3).trans rfl, ((HB.o.cell (eU w _ hw503_0)).trans hw503_0)⟩ (fun hHeld => ?_)
 clear hK K
 refine norm_ (a' := ?_) ?_ ?_
 rotate_left
 ·show gE _ (some 6) _ = _
  simp only [gE, zs, zz, zt, iQ, jF]
  rfl
 refine one_ (i := 7) (N := some 12) #[tt, tt, tt, tt, tt, tt, tt, tt, ff] rfl rfl (iS HT_.o zk) (by decide) (fun K hK => ?_)
 refine goes_ lV (by kernel_rfl) rfl #[.agg #[.slice b2 a7.length b3, .slice b4 a8.length b5, .slice e2 b0.length e3, .slice b6 a9.length b7], .int .i64 (rd l a1)] (by rfl) rfl rfl zq ?_
 with_reducible refine (cC.calls (fun k_ => some k_ = ob (.slice b2 a7.length b3)) (.slice b2 a7.length b3) a7 (fun k_ => some k_ = ob (.slice b4 a8.length b5)) (.slice b4 a8.length b5) a8 (fun k_ => ((some k_ ≠ ob (.slice b2 a7.length b3) ∧ (some k_ ≠ ob (.slice b4 a8.length b5) ∧ some k_ ≠ ob (.slice b6 a9.length b7)))) ∧ ∃ q_, q_ ∈ (60 :: (k60).E) ∧ ∃ cs_, h5.heap[k_]? = some (.cells cs_ q_ (0, 0))) (.slice e2 b0.length e3) b0 (fun k_ => some k_ = ob (.slice b6 a9.length b7)) (.slice b6 a9.length b7) a9 (rd l a1) d b u j w _ ?side1 ?side2 ?side3 ?side4 ?side5 ?side6 ?side7 ?side8 ?side9 ?side10 ?side11 ?side12 ?side13 ?side14 ?side15 ?side16 ?side17 A6.o).mono ?_
 (case side1 => exact (zg_5 HB.o Zf.o Zg.o))
 (case side2 => exact jH rfl Zk.o)
 (case side3 => exact fun k_ e_ => (Zk.o.1 k_ e_.symm).1)
 (case side4 => exact fun k_ e_ hP_ => (hP_.1.1) e_)
 (case side5 => exact fun k_ e_ => (Zk.o.1 k_ e_.symm).2)
 (case side6 => exact jH rfl Zl.o)
 (case side7 => exact fun k_ e_ => (Zl.o.1 k_ e_.symm).1)
 (case side8 => exact fun k_ e_ hP_ => (hP_.1.2.1) e_)
 (case side9 => exact fun k_ e_ => (Zl.o.1 k_ e_.symm).2)
 (case side10 => exact gQ (kD (Zn.o)) (fun k_ h_ => ⟨h_.1, h_.2.2.2⟩))
 (case side11 => exact fun k_ hP_ e_ => (hP_.1.1) e_)
 (case side12 => exact fun k_ hP_ e_ => (hP_.1.2.1) e_)
 (case side13 => exact fun k_ hP_ e_ => (hP_.1.2.2) e_)
 (case side14 => exact jH rfl Zm.o)
 (case side15 => exact fun k_ e_ => (Zm.o.1 k_ e_.symm).1)
 (case side16 => exact fun k_ e_ => (Zm.o.1 k_ e_.symm).2)
 (case side17 => exact fun k_ e_ hP_ => (hP_.1.2.2) e_)
 rintro e Y ⟨c8, c9, j1, d0, rfl, c1, c2, c3, c4, hb, hkp⟩
 refine ⟨_, rfl, ?_⟩
 have U := zm (mU (zg_3 Za.o) hkp (fun hs_ => gM hs_ (fun e_ => (fun e_ => (gJ Zk.o Za.o (by decide)) e_) e_) (fun e_ => gM e_ (fun e_ => (fun e_ => (gJ Zl.o Za.o (by decide)) e_) e_) (fun e_ => gM e_ (fun e_ => (fun hP_ => (by obtain ⟨_, q_, hq_, cs_, hc_⟩ := hP_; have hb_ := Za.o; rw [hb_] at hc_; injection hc_ with hc_; injection hc_ with _ h2_; rw [← h2_] at hq_; exact absurd hq_ (by decide))) e_) (fun e_ => (fun e_ => (gJ Zm.o Za.o (by decide)) e_) e_))))); have V := zm (mU (zg_3 Zb.o) hkp (fun hs_ => gM hs_ (fun e_ => (fun e_ => (gJ Zk.o Zb.o (by decide)) e_) e_) (fun e_ => gM e_ (fun e_ => (fun e_ => (gJ Zl.o Zb.o (by decide)) e_) e_) (fun e_ => gM e_ (fun e_ => (fun hP_ => (by obtain ⟨_, q_, hq_, cs_, hc_⟩ := hP_; have hb_ := Zb.o; rw [hb_] at hc_; injection hc_ with hc_; injection hc_ with _ h2_; rw [← h2_] at hq_; exact absurd hq_ (by decide))) e_) (fun e_ => (fun e_ => (gJ Zm.o Zb.o (by decide)) e_) e_))))); have X := zm (eX (ok' := fun k_ => some k_ ≠ ob c9 ∧ some k_ ≠ ob d0) c1 (fun k_ hk_ => ⟨hk_.2.1, hk_.2.2⟩)); have a2 := zm (eX (ok' := fun k_ => some k_ ≠ ob c8 ∧ some k_ ≠ ob d0) c2 (fun k_ hk_ => ⟨hk_.2.1, hk_.2.2⟩)); have a3 := zm (gQ (ok' := fun k_ => some k_ ≠ ob c8 ∧ some k_ ≠ ob c9 ∧ some k_ ≠ ob d0) c3 (fun k_ hk_ => ⟨hk_.2.1, hk_.2.2.1, hk_.2.2.2⟩)); have a4 := zm (eX (ok' := fun k_ => some k_ ≠ ob c8 ∧ some k_ ≠ ob c9) c4 (fun k_ hk_ => ⟨hk_.2.1, hk_.2.2⟩)); have a5 := zm (hb); clear Za; clear Zb; clear HB; clear Zk; clear Zl; clear Zn; clear Zm; have Za := U; have Zb := V; have Zh := X; have Ze := a2; have Zi := a3; have Zj := a4; have HB := a5; clear U V X a2 a3 a4 a5
 (try clear hb)
 (try clear hkp)
 (try clear c1)
 (try clear c2)
 (try clear c3)
 (try clear c4)
 obtain ⟨m, q, e6⟩ := fA Zh.o
 (first | subst e6 | (injection e6 with f1_ f2_ f3_; have f4_ := f1_.symm; have f5_ := f3_.symm; clear f1_ f2_ f3_; subst f4_; subst f5_))
 obtain ⟨A, c, e7⟩ := fA Ze.o
 (first | subst e7 | (injection e7 with f1_ f2_ f3_; have f4_ := f1_.symm; have f5_ := f3_.symm; clear f1_ f2_ f3_; subst f4_; subst f5_))
 obtain ⟨B, D, e8⟩ := iF Zi.o
 (first | subst e8 | (injection e8 with f1_ f2_ f3_; have f4_ := f1_.symm; have f5_ := f3_.symm; clear f1_ f2_ f3_; subst f4_; subst f5_))
 obtain ⟨r, s, e9⟩ := fA Zj.o
 (first | subst e9 | (injection e9 with f1_ f2_ f3_; have f4_ := f1_.symm; have f5_ := f3_.symm; clear f1_ f2_ f3_; subst f4_; subst f5_))
 refine hK.out _ _ ⟨(eY Za.o 0).trans rfl, (eY Za.o 1).trans rfl, (eY Za.o 2).trans rfl, (eY Za.o 3).trans rfl, ((HB.o.cell (eU w _ hw503_0)).trans hw503_0)⟩ (fun hHeld => ?_)
 clear hK K
 refine norm_ (a' := ?_) ?_ ?_
 rotate_left
 ·show gE _ (some 12) _ = _
  simp only [gE, zs, zz, zt, iQ, jF]
  rfl
 refine last_ (i := 8) (N := none) #[tt, tt, tt, tt, tt, tt, tt, tt, tt] rfl rfl (iS HT_.o zk) (by decide) (fun K hK => ?_)
 have j2 : Y.cell? ⟨a, 0, none⟩ = some (.slice G x.length I) := (eY Za.o 0).trans rfl
 have h6 := gL Za.o 0; have g5 := Zc.o; have g6 := Zd.o
 have j3 : Y.cell? ⟨a, 1, none⟩ = some (.slice (some a0) l.length J) := (eY Za.o 1).trans rfl
 have h7 := gL Za.o 1; have g7 := Zc.o; have g8 := Zd.o
 have j4 : Y.cell? ⟨a, 2, none⟩ = some (.slice L y.length M) := (eY Za.o 2).trans rfl
 have h8 := gL Za.o 2; have g9 := Zc.o; have h0 := Zd.o
 have j5 : Y.cell? ⟨a, 3, none⟩ = some (.slice O z.length T) := (eY Za.o 3).trans rfl
 have h9 := gL Za.o 3; have h1 := Zc.o; have h2 := Zd.o
 refine skip_ (w1 := ?_) (by rfl) rfl ?_ ?_
 rotate_left
 ·go_simp
  rfl
 refine hK.out _ _ ?_
 clear hK K
 refine done_ (done_of HT_.o zk) ?_
 have U : Aside0 (Kd.R (fG .i64) 3 ((((Y.setCell ⟨a, 0, none⟩ (.slice m d.length q)).setCell ⟨a, 1, none⟩ (.slice A b.length c)).setCell ⟨a, 2, none⟩ (.slice B u.length D)).setCell ⟨a, 3, none⟩ (.slice r j.length s)) w.heap.size (fun k_ => some k_ ≠ ob (.slice A b.length c) ∧ some k_ ≠ ob (.slice r j.length s)) (.slice m d.length q) d) := ⟨eX (zR4 (fD Zh.o Za.o (by decide))) (fun _ hk => ⟨hk.1.1, hk.1.2⟩)⟩
 have V : Aside0 (Kd.R (fG .i64) 3 ((((Y.setCell ⟨a, 0, none⟩ (.slice m d.length q)).setCell ⟨a, 1, none⟩ (.slice A b.length c)).setCell ⟨a, 2, none⟩ (.slice B u.length D)).setCell ⟨a, 3, none⟩ (.slice r j.length s)) w.heap.size (fun k_ => some k_ ≠ ob (.slice m d.length q) ∧ some k_ ≠ ob (.slice r j.length s)) (.slice A b.length c) b) := ⟨eX (zR4 (fD Ze.o Za.o (by decide))) (fun _ hk => ⟨hk.1.1, hk.1.2⟩)⟩
 have X : Aside0 (Kd.S k60 60 ((((Y.setCell ⟨a, 0, none⟩ (.slice m d.length q)).setCell ⟨a, 1, none⟩ (.slice A b.length c)).setCell ⟨a, 2, none⟩ (.slice B u.length D)).setCell ⟨a, 3, none⟩ (.slice r j.length s)) w.heap.size (fun k_ => some k_ ≠ ob (.slice m d.length q) ∧ some k_ ≠ ob (.slice A b.length c) ∧ some k_ ≠ ob (.slice r j.length s)) (.slice B u.length D) u) := ⟨gQ (zS4 (hX Zi.o Za.o (by decide))) (fun _ hk => ⟨hk.1.1, ⟨hk.1.2.1, hk.1.2.2⟩⟩)⟩
 have a2 : Aside0 (Kd.R (fG .i64) 3 ((((Y.setCell ⟨a, 0, none⟩ (.slice m d.length q)).setCell ⟨a, 1, none⟩ (.slice A b.length c)).setCell ⟨a, 2, none⟩ (.slice B u.length D)).setCell ⟨a, 3, none⟩ (.slice r j.length s)) w.heap.size (fun k_ => some k_ ≠ ob (.slice m d.length q) ∧ some k_ ≠ ob (.slice A b.length c)) (.slice r j.length s) j) := ⟨eX (zR4 (fD Zj.o Za.o (by decide))) (fun _ hk => ⟨hk.1.1, hk.1.2⟩)⟩
 have a3 : Aside0 (((((Y.setCell ⟨a, 0, none⟩ (.slice m d.length q)).setCell ⟨a, 1, none⟩ (.slice A b.length c)).setCell ⟨a, 2, none⟩ (.slice B u.length D)).setCell ⟨a, 3, none⟩ (.slice r j.length s)).heap[a]? = some (.cells #[.slice m d.length q, .slice A b.length c, .slice B u.length D, .slice r j.length s] 31 (0, 0))) := ⟨by exact zput4 Za.o⟩
 have a4 : Aside0 (((((Y.setCell ⟨a, 0, none⟩ (.slice m d.length q)).setCell ⟨a, 1, none⟩ (.slice A b.length c)).setCell ⟨a, 2, none⟩ (.slice B u.length D)).setCell ⟨a, 3, none⟩ (.slice r j.length s)).heap[F]? = some (.cells #[.slice none 0 0, .slice none 0 0, .slice none 0 0, .slice none 0 0] 31 (0, 0))) := ⟨by exact zfar4 Zb.o Zc.o⟩
 have a5 : Aside0 (Below w.heap.size w ((((Y.setCell ⟨a, 0, none⟩ (.slice m d.length q)).setCell ⟨a, 1, none⟩ (.slice A b.length c)).setCell ⟨a, 2, none⟩ (.slice B u.length D)).setCell ⟨a, 3, none⟩ (.slice r j.length s))) := ⟨zg_5 HB.o Zf.o Zg.o⟩
 (try clear Zh)
 (try clear Ze)
 (try clear Zi)
 (try clear Zj)
 (try clear Za)
 (try clear Zb)
 (try clear HB)
 generalize ((((Y.setCell ⟨a, 0, none⟩ (.slice m d.length q)).setCell ⟨a, 1, none⟩ (.slice A b.length c)).setCell ⟨a, 2, none⟩ (.slice B u.length D)).setCell ⟨a, 3, none⟩ (.slice r j.length s)) = f5 at U V X a2 a3 a4 a5 ⊢
 have Zh := U; have Ze := V; have Zi := X; have Zj := a2; have Za := a3; have Zb := a4; have HB := a5; clear U V X a2 a3 a4 a5; have i0 := Zd.o; have i1 := Zc.o
 obtain ⟨_, _, _, _, _, _, _, _⟩ := zb4 Za.o
 have p8 : 0 ≤ (a1 : Int) := zd
 have q8 : (a1 : Int) < ((b.length : Int) : Int) := zd
 obtain ⟨Z, j7, f6, f7, gl8, cl8, HG8⟩ := mI Ze.o (by omega)
 (first | cases f6 | (injection f6 with ea_ en_ ec_; (first | subst ea_ | (injection ea_ with ea_; subst ea_)); subst ec_; clear en_))
 have GB8 := zm f7; have j8 := zm HG8; clear f7 gl8 HG8
 obtain ⟨hx8_0, hf8_0⟩ := jL 0 Ze.o (a1 : Int) p8 q8
 replace p8 := eq_true p8; replace q8 := eq_true q8
 obtain ⟨hy29_, hz29_⟩ := jL 0 Ze.o (a1 : Int) (zd) (zd)
 have Zp := mT Ze.o (a1 : Int) 1
 try go_wp2_with (first | ((with_reducible refine jG (t := 3) (p := 16) rfl ?_); refine zst (w1 := (f5.setCell ⟨Z, (a1 : Int).toNat, none⟩ (.int .i64 1))) rfl rfl rfl zh ?_; intro f0 hw; have hg : f5.grownBy f0 (some Z) := (by rw [hw]; exact Zp.2); have hp_ : Kd.R (fG .i64) 3 f0 w.heap.size (fun k_ => some k_ ≠ ob (.slice m d.length q) ∧ some k_ ≠ ob (.slice r j.length s)) (.slice (some ⟨Z, 0, none⟩) b.length c) d9 := (by rw [hw, f1.o]; exact Zp.1); clear Zp; refine zG7 (gW (g := a) (o := .cells #[.slice m d.length q, .slice (some ⟨Z, 0, none⟩) b.length c, .slice B u.length D, .slice r j.length s] 31 (0, 0)) (zg_3 Za.o) hg (gJ Ze.o Za.o (by decide))) (gW (g := F) (o := .cells #[.slice none 0 0, .slice none 0 0, .slice none 0 0, .slice none 0 0] 31 (0, 0)) (zg_3 Zb.o) hg (gJ Ze.o Zb.o (by decide))) (iK (v := (.slice (some ⟨Z, 0, none⟩) b.length c)) (v1 := (.slice (some ⟨Z, 0, none⟩) b.length c)) (ok := (fun k_ => some k_ ≠ ob (.slice r j.length s))) (by (with_reducible repeat (first | apply fY | apply fZ | apply fK)); exact eX Zh.o (fun _ hk => ⟨hk.2, hk.1⟩)) hg (.inl rfl)) (hp_) (mQ (v := (.slice (some ⟨Z, 0, none⟩) b.length c)) (v1 := (.slice (some ⟨Z, 0, none⟩) b.length c)) (ok := (fun k_ => some k_ ≠ ob (.slice m d.length q) ∧ some k_ ≠ ob (.slice r j.length s))) (by (with_reducible repeat (first | apply jA | apply jB | apply iU)); exact gQ Zi.o (fun _ hk => ⟨⟨hk.1, hk.2.2⟩, hk.2.1⟩)) hg (.inl rfl)) (iK (v := (.slice (some ⟨Z, 0, none⟩) b.length c)) (v1 := (.slice (some ⟨Z, 0, none⟩) b.length c)) (ok := (fun k_ => some k_ ≠ ob (.slice m d.length q))) (zg_6 Zj.o) hg (.inl rfl)) ((by rw [hw]; exact iG (HB.o) GB8.o : Below w.heap.size w f0)) ?_; clear Za Zb Zh Ze Zi Zj HB; intro Za Zb Zh Ze Zi Zj HB; clear hg hw hp_; obtain ⟨_, _, _, _, _, _, _, _⟩ := zb4 Za.o; obtain ⟨_, _, _, _, _, _, _, _⟩ := zb4 Zb.o))
 refine iD (results_cell_row rfl _ _ F 31 #[.slice m d.length q, .slice (some ⟨Z, 0, none⟩) b.length c, .slice B u.length D, .slice r j.length s] (0, 0) _ rfl (by exact zput4 Zb.o) fW rfl (by kernel_rfl)) rfl ?_
 exact ⟨_, _, _, _, ze, eX (zR4 (fD Zh.o Zb.o (by decide))) (fun _ hk => ⟨hk.1.2, hk.1.1⟩), eX (zR4 (fD Ze.o Zb.o (by decide))) (fun _ hk => ⟨hk.1.1, hk.1.2⟩), gQ (zS4 (hX Zi.o Zb.o (by decide))) (fun _ hk => ⟨hk.1.1.1, ⟨hk.1.2, hk.1.1.2⟩⟩), eX (zR4 (fD Zj.o Zb.o (by decide))) (fun _ hk => ⟨hk.1.1, hk.1.2⟩), zg_5 HB.o Zf.o Zg.o⟩
end Go.Proofs.YtniceoohmhjjlaaGreatDoor.Q
