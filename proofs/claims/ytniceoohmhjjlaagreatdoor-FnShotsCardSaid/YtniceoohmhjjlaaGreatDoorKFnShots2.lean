/- What laws.FnShots reaches, part 2: the functions as Lean functions, the proofs that the program's functions answer so, and plain laws about them. -/
import Derived.Test.YtniceoohmhjjlaaGreatDoorKFnShots1
namespace Go.Proofs.YtniceoohmhjjlaaGreatDoor.Q
open Go.RowKit Go.Proofs.YtniceoohmhjjlaaGreatDoor.Ext Go.Proofs.YtniceoohmhjjlaaGreatDoorW.PrintWords Go.Proofs.YtniceoohmhjjlaaGreatDoorW.PrintLast Go.Proofs.YtniceoohmhjjlaaGreatDoorW.PrintMore
attribute [local go_sem] max2_int min2_int max_two min_two max_three min_three max_four min_four   -- for this text's walks alone
open Bool renaming true → tt, false → ff
open Go.Value renaming ownBlock → ob
open Go renaming bodyPost_ret → iD
open Go.Act renaming eval → lY, put → gE
open Go.Proofs.Tryz renaming func24 → nJ, func41 → oI, func51 → nI, ntmps24 → oQ, prog → fM, underlying26 → iN, underlying31 → fW, underlying53 → lQ
open Go.Proofs.YtniceoohmhjjlaaGreatDoorW.PrintLast renaming any_of → gD, goesL_ → gU, i32_w → jF, i64_w → iQ, norm_ → jV, one_of → iS, pure_ → gR, take_ → kA, take_ofW → hZ, with_tabW → kJ
open Go.Proofs.YtniceoohmhjjlaaGreatDoorW.PrintWords renaming below_alloc → gO, below_drew1 → gA, below_size → eV, below_step → eZ, blk_alloc → fV, blk_below → fB, blk_cell → eY, blk_drew → fU, blk_drewN → gG, blk_far → kE, blk_grown → gW, blk_lt → hO, blk_put → jS, box_event → fS, gate_callee → fJ, gate_dst → fP, gate_guard → kY, pw_below_drewN → gB
open Go.Proofs.YtniceoohmhjjlaaGreatDoorW.PrintWords.Drawn0 renaming refl → hJ, step → hM
open Go.Proofs.YtniceoohmhjjlaaGreatDoorW.PrintWords.Kd renaming C_below → fE, F_below → nZ, K_below → nH, N_below → jX, N_lower → jK, N_mono → fN, N_reads' → gZ, N_slice → iR, R_alloc → fY, R_base → fH, R_below → fI, R_drew → fK, R_drewN → fZ, R_far → fR, R_lower → fL, R_lt → fO, R_mono → eX, R_ne → gJ, R_reads' → fC, R_slice → fA, R_types → fD, S_alloc → jA, S_drew → iU, S_drewN → jB, S_far → iW, S_mono → gQ, S_slice → iF, S_typed → lR, S_types → hX, V_mk → nF, at_int → gY, fresh' → gF, freshB → iB, heap_int → oD, int → fG, string → gV
open Go.RowKit.Below renaming refl → fX
open Go.World renaming block_lt_of_cell? → eU
open _root_.Bool renaming eq_false_iff → hN
open _root_.Int renaming reduceToNat → gX
open _root_.Nat renaming le_refl → fQ, ne_of_gt → gT, ne_of_lt → gN, not_le → kB
open _root_.Option renaming bind_eq_some_iff → eW
open _root_.Option.some renaming inj → fF, injEq → gC
open _root_.Or renaming elim → gM
open _root_.Prod.mk renaming injEq → gP
set_option linter.unusedVariables false
set_option linter.unusedSimpArgs false

set_option linter.unusedVariables false
set_option linter.unusedSimpArgs false
def cH.f (k : Nat) (l0_0 : List Int) (l0_1 : List Int) (l0_2 : List (S60)) (l0_3 : List Int) : Option (Bool) := (cN.f l0_0).bind fun t155 => (if t155 = true then (if (l0_2.length : Int) ≤ 3 then ((aW.f k l0_0 l0_1 l0_2 l0_3).bind fun t156 => ((bZ.f k t156).bind fun t159 => (if t159 = true then ((aQ.f k l0_0 l0_1 l0_2 l0_3).bind fun t160 => ((bA.f k t160 ()).bind fun t163 => (if t163 = true then (if (l0_3.length : Int) = 24 then ((bF.f l0_3 ()).bind fun t164 => (some t164)) else (some false)) else (some false)))) else (some false)))) else (some false)) else (some false))
set_option maxHeartbeats 8000000 in
set_option maxRecDepth 100000 in
theorem cH.calls (k : Nat) (j : Option Addr) (l : Nat) (a : List Int) (m : Option Addr) (n : Nat) (i : List Int) (p : Option Addr) (q : Nat) (d : List (S60)) (s : Option Addr) (u : Nat) (b : List Int) (r : Bool) (w : World) (F : Kd.C (fG .i64) w j a.length a) (G : a.length ≤ l) (I : Kd.C (fG .i64) w m i.length i) (J : i.length ≤ n) (L : Kd.C k60 w p d.length d) (M : d.length ≤ q) (O : Kd.C (fG .i64) w s b.length b) (R : b.length ≤ u) (h : cH.f k a i d b = some r) :
    Calls fM 24 #[.agg #[.slice j a.length l, .slice m i.length n, .slice p d.length q, .slice s b.length u]] w fun e w' => e = .returned (.bool r) ∧ Below w.heap.size w w' := by
 have hu31 := fW; have Ze := zm F; have Zf := zm G; clear F G; have Zj := zm I; have Zk := zm J; clear I J; have Zl := zm L; have Zm := zm M; clear L M; have Zh := zm O; have Zi := zm R; clear O R; have HB := zm (fX w.heap.size w); have H := h
 unfold cH.f at H
 clear h; replace H := eW.mp H
 obtain ⟨a9, a4, H⟩ := H
 try dsimp only at H
 have T := zm a4; clear a4
 by_cases Y : a9 = true
 rotate_left
 ·replace Y := hN.mpr Y
  subst Y
  replace H : (some false) = some r := by rw [if_neg (show ¬ (false = true) by decide)] at H; exact H
  obtain rfl := fF H
  go_enter nJ, oQ
  go_wp2_with (first | ((with_reducible refine fP (N := 1) rfl ?_); (try (refine kY (by rfl) ?_; dsimp only)); refine fS zo (N := 1) zo (cs := #[.slice j a.length l, .slice m i.length n, .slice p d.length q, .slice s b.length u]) (t := 31) zh ?_; intro c hg d2 hbox hb; refine zG4 (eZ (zg_1 HB.o) hb) (hbox) ((by rw [hg]; exact (eV (zg_1 HB.o)) : w.heap.size ≤ c)) ((by rw [hg]; exact (eV (zg_1 HB.o)) : w.heap.size ≤ c)) ?_; clear HB; intro HB Za Zg Zc; clear hb hbox hg; obtain ⟨_, _, _, _, _, _, _, _⟩ := zb4 Za.o) | ((with_reducible refine fJ (f := 51) rfl ?_); refine gU (some 5) rfl rfl nI (by kernel_rfl) rfl #[.slice j a.length l] rfl zq ?_; (with_reducible refine (cN.calls _ _ a false _ ?_ ?_ T.o).mono ?_); exact zC (fE Ze.o HB.o); exact Zf.o; rintro e d3 ⟨rfl, hb⟩; refine ⟨_, rfl, ?_⟩; refine zG2 (fB (g := c) (o := .cells #[.slice j a.length l, .slice m i.length n, .slice p d.length q, .slice s b.length u] 31 (0, 0)) (zg_3 Za.o) hb) (eZ (zg_2 HB.o Zc.o) hb) ?_; clear Za HB; intro Za HB; (try clear hb); (try clear hb2); (try clear hk); (try clear hi)))
  go_ret
  exact ⟨ze, zg_2 HB.o Zc.o⟩
 subst Y
 replace H : (if (d.length : Int) ≤ 3 then ((aW.f k a i d b).bind fun x => ((bZ.f k x).bind fun D => (if D = true then ((aQ.f k a i d b).bind fun y => ((bA.f k y ()).bind fun A => (if A = true then (if (b.length : Int) = 24 then ((bF.f b ()).bind fun z => (some z)) else (some false)) else (some false)))) else (some false)))) else (some false)) = some r := by rw [if_pos rfl] at H; exact H
 by_cases U : (d.length : Int) ≤ 3
 rotate_left
 ·rw [if_neg U] at H
  have b0 := decide_eq_false U
  have b1 : decide (d.length ≤ 3) = false := decide_eq_false (by omega)
  clear U; obtain rfl := fF H
  go_enter nJ, oQ
  go_wp2_with (first | ((with_reducible refine fP (N := 1) rfl ?_); (try (refine kY (by rfl) ?_; dsimp only)); refine fS zo (N := 1) zo (cs := #[.slice j a.length l, .slice m i.length n, .slice p d.length q, .slice s b.length u]) (t := 31) zh ?_; intro c hg d4 hbox hb; refine zG4 (eZ (zg_1 HB.o) hb) (hbox) ((by rw [hg]; exact (eV (zg_1 HB.o)) : w.heap.size ≤ c)) ((by rw [hg]; exact (eV (zg_1 HB.o)) : w.heap.size ≤ c)) ?_; clear HB; intro HB Za Zg Zc; clear hb hbox hg; obtain ⟨_, _, _, _, _, _, _, _⟩ := zb4 Za.o) | ((with_reducible refine fJ (f := 51) rfl ?_); refine gU (some 5) rfl rfl nI (by kernel_rfl) rfl #[.slice j a.length l] rfl zq ?_; (with_reducible refine (cN.calls _ _ a true _ ?_ ?_ T.o).mono ?_); exact zC (fE Ze.o HB.o); exact Zf.o; rintro e d5 ⟨rfl, hb⟩; refine ⟨_, rfl, ?_⟩; refine zG2 (fB (g := c) (o := .cells #[.slice j a.length l, .slice m i.length n, .slice p d.length q, .slice s b.length u] 31 (0, 0)) (zg_3 Za.o) hb) (eZ (zg_2 HB.o Zc.o) hb) ?_; clear Za HB; intro Za HB; (try clear hb); (try clear hb2); (try clear hk); (try clear hi); obtain ⟨_, _, _, _, _, _, _, _⟩ := zb4 Za.o))
  go_ret
  exact ⟨ze, zg_2 HB.o Zc.o⟩
 rw [if_pos U] at H; have b0 := decide_eq_true U
 have b1 : decide (d.length ≤ 3) = true := decide_eq_true (by omega)
 clear U; replace H := eW.mp H
 obtain ⟨x, a5, H⟩ := H
 try dsimp only at H
 have Z := zm a5; clear a5; replace H := eW.mp H
 obtain ⟨D, a6, H⟩ := H
 try dsimp only at H
 have A6 := zm a6; clear a6
 by_cases c7 : D = true
 rotate_left
 ·replace c7 := hN.mpr c7
  subst c7
  replace H : (some false) = some r := by rw [if_neg (show ¬ (false = true) by decide)] at H; exact H
  obtain rfl := fF H
  go_enter nJ, oQ
  go_wp2_with (first | ((with_reducible refine fP (N := 1) rfl ?_); (try (refine kY (by rfl) ?_; dsimp only)); refine fS zo (N := 1) zo (cs := #[.slice j a.length l, .slice m i.length n, .slice p d.length q, .slice s b.length u]) (t := 31) zh ?_; intro c hg d6 hbox hb; refine zG4 (eZ (zg_1 HB.o) hb) (hbox) ((by rw [hg]; exact (eV (zg_1 HB.o)) : w.heap.size ≤ c)) ((by rw [hg]; exact (eV (zg_1 HB.o)) : w.heap.size ≤ c)) ?_; clear HB; intro HB Za Zg Zc; clear hb hbox hg; obtain ⟨_, _, _, _, _, _, _, _⟩ := zb4 Za.o) | ((with_reducible refine fJ (f := 51) rfl ?_); refine gU (some 5) rfl rfl nI (by kernel_rfl) rfl #[.slice j a.length l] rfl zq ?_; (with_reducible refine (cN.calls _ _ a true _ ?_ ?_ T.o).mono ?_); exact zC (fE Ze.o HB.o); exact Zf.o; rintro e d7 ⟨rfl, hb⟩; refine ⟨_, rfl, ?_⟩; refine zG2 (fB (g := c) (o := .cells #[.slice j a.length l, .slice m i.length n, .slice p d.length q, .slice s b.length u] 31 (0, 0)) (zg_3 Za.o) hb) (eZ (zg_2 HB.o Zc.o) hb) ?_; clear Za HB; intro Za HB; (try clear hb); (try clear hb2); (try clear hk); (try clear hi); obtain ⟨_, _, _, _, _, _, _, _⟩ := zb4 Za.o) | (go_at_call 52; (with_reducible refine (aW.calls k _ _ a _ _ i _ _ d _ _ b x _ ?_ ?_ ?_ ?_ ?_ ?_ ?_ ?_ Z.o).mono ?_); exact zC (fE Ze.o HB.o); exact Zf.o; exact zC (fE Zj.o HB.o); exact Zk.o; exact zC (fE Zl.o HB.o); exact Zm.o; exact zC (fE Zh.o HB.o); exact Zi.o; rintro e d8 ⟨E, rfl, v, hb⟩; refine zG3 (fL v (eV (zg_2 HB.o Zc.o))) (fB (g := c) (o := .cells #[.slice j a.length l, .slice m i.length n, .slice p d.length q, .slice s b.length u] 31 (0, 0)) (zg_3 Za.o) hb) (eZ (zg_2 HB.o Zc.o) hb) ?_; clear Za HB; intro Zb Za HB; (try clear hb); (try clear hb2); (try clear hk); (try clear hi); (try clear v); obtain ⟨c1, c2, rfl⟩ := fA Zb.o) | (go_at_call 42; (with_reducible refine (bZ.calls k _ _ x false _ ?_ ?_ A6.o).mono ?_); exact zC ((fC Zb.o).2.2); exact (fC Zb.o).2.1; rintro e d9 ⟨rfl, hb⟩; refine zG3 (fI (zg_6 Zb.o) hb) (fB (g := c) (o := .cells #[.slice j a.length l, .slice m i.length n, .slice p d.length q, .slice s b.length u] 31 (0, 0)) (zg_3 Za.o) hb) (eZ (zg_2 HB.o Zc.o) hb) ?_; clear Zb Za HB; intro Zb Za HB; (try clear hb); (try clear hb2); (try clear hk); (try clear hi)))
  go_ret
  exact ⟨ze, zg_2 HB.o Zc.o⟩
 subst c7
 replace H : ((aQ.f k a i d b).bind fun y => ((bA.f k y ()).bind fun A => (if A = true then (if (b.length : Int) = 24 then ((bF.f b ()).bind fun z => (some z)) else (some false)) else (some false)))) = some r := by rw [if_pos rfl] at H; exact H
 replace H := eW.mp H
 obtain ⟨y, a7, H⟩ := H
 try dsimp only at H
 have A8 := zm a7; clear a7; replace H := eW.mp H
 obtain ⟨A, a8, H⟩ := H
 try dsimp only at H
 have A9 := zm a8; clear a8
 by_cases S : A = true
 rotate_left
 ·replace S := hN.mpr S
  subst S
  replace H : (some false) = some r := by rw [if_neg (show ¬ (false = true) by decide)] at H; exact H
  obtain rfl := fF H
  go_enter nJ, oQ
  go_wp2_with (first | ((with_reducible refine fP (N := 1) rfl ?_); (try (refine kY (by rfl) ?_; dsimp only)); refine fS zo (N := 1) zo (cs := #[.slice j a.length l, .slice m i.length n, .slice p d.length q, .slice s b.length u]) (t := 31) zh ?_; intro c hg e0 hbox hb; refine zG4 (eZ (zg_1 HB.o) hb) (hbox) ((by rw [hg]; exact (eV (zg_1 HB.o)) : w.heap.size ≤ c)) ((by rw [hg]; exact (eV (zg_1 HB.o)) : w.heap.size ≤ c)) ?_; clear HB; intro HB Za Zg Zc; clear hb hbox hg; obtain ⟨_, _, _, _, _, _, _, _⟩ := zb4 Za.o) | ((with_reducible refine fJ (f := 51) rfl ?_); refine gU (some 5) rfl rfl nI (by kernel_rfl) rfl #[.slice j a.length l] rfl zq ?_; (with_reducible refine (cN.calls _ _ a true _ ?_ ?_ T.o).mono ?_); exact zC (fE Ze.o HB.o); exact Zf.o; rintro e e1 ⟨rfl, hb⟩; refine ⟨_, rfl, ?_⟩; refine zG2 (fB (g := c) (o := .cells #[.slice j a.length l, .slice m i.length n, .slice p d.length q, .slice s b.length u] 31 (0, 0)) (zg_3 Za.o) hb) (eZ (zg_2 HB.o Zc.o) hb) ?_; clear Za HB; intro Za HB; (try clear hb); (try clear hb2); (try clear hk); (try clear hi); obtain ⟨_, _, _, _, _, _, _, _⟩ := zb4 Za.o) | (go_at_call 52; (with_reducible refine (aW.calls k _ _ a _ _ i _ _ d _ _ b x _ ?_ ?_ ?_ ?_ ?_ ?_ ?_ ?_ Z.o).mono ?_); exact zC (fE Ze.o HB.o); exact Zf.o; exact zC (fE Zj.o HB.o); exact Zk.o; exact zC (fE Zl.o HB.o); exact Zm.o; exact zC (fE Zh.o HB.o); exact Zi.o; rintro e e2 ⟨E, rfl, v, hb⟩; refine zG3 (fL v (eV (zg_2 HB.o Zc.o))) (fB (g := c) (o := .cells #[.slice j a.length l, .slice m i.length n, .slice p d.length q, .slice s b.length u] 31 (0, 0)) (zg_3 Za.o) hb) (eZ (zg_2 HB.o Zc.o) hb) ?_; clear Za HB; intro Zb Za HB; (try clear hb); (try clear hb2); (try clear hk); (try clear hi); (try clear v); obtain ⟨b4, b5, rfl⟩ := fA Zb.o) | (go_at_call 42; (with_reducible refine (bZ.calls k _ _ x true _ ?_ ?_ A6.o).mono ?_); exact zC ((fC Zb.o).2.2); exact (fC Zb.o).2.1; rintro e e3 ⟨rfl, hb⟩; refine zG3 (fI (zg_6 Zb.o) hb) (fB (g := c) (o := .cells #[.slice j a.length l, .slice m i.length n, .slice p d.length q, .slice s b.length u] 31 (0, 0)) (zg_3 Za.o) hb) (eZ (zg_2 HB.o Zc.o) hb) ?_; clear Zb Za HB; intro Zb Za HB; (try clear hb); (try clear hb2); (try clear hk); (try clear hi); obtain ⟨_, _, _, _, _, _, _, _⟩ := zb4 Za.o) | (go_at_call 54; (with_reducible refine (aQ.calls k _ _ a (fun k_ => k_ < w.heap.size) _ _ i (fun k_ => k_ < w.heap.size) _ _ d _ _ b y _ ?_ ?_ ?_ ?_ ?_ ?_ A8.o).mono ?_); exact zC (fE Ze.o HB.o); exact Zf.o; exact nF Zk.o (nZ (Kd.C_F (oD .i64) Zj.o) (zg_2 HB.o Zc.o)); exact nF Zm.o (nZ (Kd.C_F k60_heap Zl.o) (zg_2 HB.o Zc.o)); exact zC (fE Zh.o HB.o); exact Zi.o; rintro e e4 ⟨V, rfl, v, hb⟩; refine zG4 (fI (zg_6 Zb.o) hb) (jK (fN (ok' := fun k_ => some k_ ≠ ob (.slice b4 x.length b5) ∧ k_ ≠ c) v (fun k_ hk_ => ⟨gM hk_ (fun hs_ => gM hs_ (fun hs_ => fun e_ => kB.2 hs_ (fH Zb.o k_ e_.symm)) (fun hs_ => fun e_ => kB.2 hs_ (fH Zb.o k_ e_.symm))) (fun hn_ => (gF (fO (zg_6 Zb.o)) k_ hn_)), gM hk_ (fun hs_ => gM hs_ (fun hs_ => fun e_ => kB.2 hs_ (by rw [e_]; exact Zg.o)) (fun hs_ => fun e_ => kB.2 hs_ (by rw [e_]; exact Zg.o))) (fun hn_ => (iB (g := c) (o := .cells #[.slice j a.length l, .slice m i.length n, .slice p d.length q, .slice s b.length u] 31 (0, 0)) (zg_3 Za.o) k_ hn_))⟩)) (eV (zg_2 HB.o Zc.o))) (fB (g := c) (o := .cells #[.slice j a.length l, .slice m i.length n, .slice p d.length q, .slice s b.length u] 31 (0, 0)) (zg_3 Za.o) hb) (eZ (zg_2 HB.o Zc.o) hb) ?_; clear Zb Za HB; intro Zb Zd Za HB; (try clear hb); (try clear hb2); (try clear hk); (try clear hi); (try clear v); obtain ⟨c5, c6, rfl⟩ := iR Zd.o) | (go_at_call 53; (with_reducible refine (bA.calls k _ _ y () false _ ?_ ?_ A9.o).mono ?_); exact zC ((gZ Zd.o).2.2); exact (gZ Zd.o).2.1; rintro e e5 ⟨rfl, hb⟩; refine zG4 (fI (zg_6 Zb.o) hb) (jX (zg_4 Zd.o) hb) (fB (g := c) (o := .cells #[.slice j a.length l, .slice m i.length n, .slice p d.length q, .slice s b.length u] 31 (0, 0)) (zg_3 Za.o) hb) (eZ (zg_2 HB.o Zc.o) hb) ?_; clear Zb Zd Za HB; intro Zb Zd Za HB; (try clear hb); (try clear hb2); (try clear hk); (try clear hi)))
  go_ret
  exact ⟨ze, zg_2 HB.o Zc.o⟩
 subst S
 replace H : (if (b.length : Int) = 24 then ((bF.f b ()).bind fun z => (some z)) else (some false)) = some r := by rw [if_pos rfl] at H; exact H
 by_cases B : (b.length : Int) = 24
 rotate_left
 ·rw [if_neg B] at H
  have a2 : ((b.length : Int) == 24) = false := beq_eq_false_iff_ne.mpr B
  have a3 : ((b.length : Int) != 24) = true := bne_iff_ne.mpr B
  obtain rfl := fF H
  go_enter nJ, oQ
  go_wp2_with (first | ((with_reducible refine fP (N := 1) rfl ?_); (try (refine kY (by rfl) ?_; dsimp only)); refine fS zo (N := 1) zo (cs := #[.slice j a.length l, .slice m i.length n, .slice p d.length q, .slice s b.length u]) (t := 31) zh ?_; intro c hg e6 hbox hb; refine zG4 (eZ (zg_1 HB.o) hb) (hbox) ((by rw [hg]; exact (eV (zg_1 HB.o)) : w.heap.size ≤ c)) ((by rw [hg]; exact (eV (zg_1 HB.o)) : w.heap.size ≤ c)) ?_; clear HB; intro HB Za Zg Zc; clear hb hbox hg; obtain ⟨_, _, _, _, _, _, _, _⟩ := zb4 Za.o) | ((with_reducible refine fJ (f := 51) rfl ?_); refine gU (some 5) rfl rfl nI (by kernel_rfl) rfl #[.slice j a.length l] rfl zq ?_; (with_reducible refine (cN.calls _ _ a true _ ?_ ?_ T.o).mono ?_); exact zC (fE Ze.o HB.o); exact Zf.o; rintro e e7 ⟨rfl, hb⟩; refine ⟨_, rfl, ?_⟩; refine zG2 (fB (g := c) (o := .cells #[.slice j a.length l, .slice m i.length n, .slice p d.length q, .slice s b.length u] 31 (0, 0)) (zg_3 Za.o) hb) (eZ (zg_2 HB.o Zc.o) hb) ?_; clear Za HB; intro Za HB; (try clear hb); (try clear hb2); (try clear hk); (try clear hi); obtain ⟨_, _, _, _, _, _, _, _⟩ := zb4 Za.o) | (go_at_call 52; (with_reducible refine (aW.calls k _ _ a _ _ i _ _ d _ _ b x _ ?_ ?_ ?_ ?_ ?_ ?_ ?_ ?_ Z.o).mono ?_); exact zC (fE Ze.o HB.o); exact Zf.o; exact zC (fE Zj.o HB.o); exact Zk.o; exact zC (fE Zl.o HB.o); exact Zm.o; exact zC (fE Zh.o HB.o); exact Zi.o; rintro e e8 ⟨E, rfl, v, hb⟩; refine zG3 (fL v (eV (zg_2 HB.o Zc.o))) (fB (g := c) (o := .cells #[.slice j a.length l, .slice m i.length n, .slice p d.length q, .slice s b.length u] 31 (0, 0)) (zg_3 Za.o) hb) (eZ (zg_2 HB.o Zc.o) hb) ?_; clear Za HB; intro Zb Za HB; (try clear hb); (try clear hb2); (try clear hk); (try clear hi); (try clear v); obtain ⟨b6, b7, rfl⟩ := fA Zb.o) | (go_at_call 42; (with_reducible refine (bZ.calls k _ _ x true _ ?_ ?_ A6.o).mono ?_); exact zC ((fC Zb.o).2.2); exact (fC Zb.o).2.1; rintro e e9 ⟨rfl, hb⟩; refine zG3 (fI (zg_6 Zb.o) hb) (fB (g := c) (o := .cells #[.slice j a.length l, .slice m i.length n, .slice p d.length q, .slice s b.length u] 31 (0, 0)) (zg_3 Za.o) hb) (eZ (zg_2 HB.o Zc.o) hb) ?_; clear Zb Za HB; intro Zb Za HB; (try clear hb); (try clear hb2); (try clear hk); (try clear hi); obtain ⟨_, _, _, _, _, _, _, _⟩ := zb4 Za.o) | (go_at_call 54; (with_reducible refine (aQ.calls k _ _ a (fun k_ => k_ < w.heap.size) _ _ i (fun k_ => k_ < w.heap.size) _ _ d _ _ b y _ ?_ ?_ ?_ ?_ ?_ ?_ A8.o).mono ?_); exact zC (fE Ze.o HB.o); exact Zf.o; exact nF Zk.o (nZ (Kd.C_F (oD .i64) Zj.o) (zg_2 HB.o Zc.o)); exact nF Zm.o (nZ (Kd.C_F k60_heap Zl.o) (zg_2 HB.o Zc.o)); exact zC (fE Zh.o HB.o); exact Zi.o; rintro e f0 ⟨V, rfl, v, hb⟩; refine zG4 (fI (zg_6 Zb.o) hb) (jK (fN (ok' := fun k_ => some k_ ≠ ob (.slice b6 x.length b7) ∧ k_ ≠ c) v (fun k_ hk_ => ⟨gM hk_ (fun hs_ => gM hs_ (fun hs_ => fun e_ => kB.2 hs_ (fH Zb.o k_ e_.symm)) (fun hs_ => fun e_ => kB.2 hs_ (fH Zb.o k_ e_.symm))) (fun hn_ => (gF (fO (zg_6 Zb.o)) k_ hn_)), gM hk_ (fun hs_ => gM hs_ (fun hs_ => fun e_ => kB.2 hs_ (by rw [e_]; exact Zg.o)) (fun hs_ => fun e_ => kB.2 hs_ (by rw [e_]; exact Zg.o))) (fun hn_ => (iB (g := c) (o := .cells #[.slice j a.length l, .slice m i.length n, .slice p d.length q, .slice s b.length u] 31 (0, 0)) (zg_3 Za.o) k_ hn_))⟩)) (eV (zg_2 HB.o Zc.o))) (fB (g := c) (o := .cells #[.slice j a.length l, .slice m i.length n, .slice p d.length q, .slice s b.length u] 31 (0, 0)) (zg_3 Za.o) hb) (eZ (zg_2 HB.o Zc.o) hb) ?_; clear Zb Za HB; intro Zb Zd Za HB; (try clear hb); (try clear hb2); (try clear hk); (try clear hi); (try clear v); obtain ⟨c8, c9, rfl⟩ := iR Zd.o) | (go_at_call 53; (with_reducible refine (bA.calls k _ _ y () true _ ?_ ?_ A9.o).mono ?_); exact zC ((gZ Zd.o).2.2); exact (gZ Zd.o).2.1; rintro e f1 ⟨rfl, hb⟩; refine zG4 (fI (zg_6 Zb.o) hb) (jX (zg_4 Zd.o) hb) (fB (g := c) (o := .cells #[.slice j a.length l, .slice m i.length n, .slice p d.length q, .slice s b.length u] 31 (0, 0)) (zg_3 Za.o) hb) (eZ (zg_2 HB.o Zc.o) hb) ?_; clear Zb Zd Za HB; intro Zb Zd Za HB; (try clear hb); (try clear hb2); (try clear hk); (try clear hi); obtain ⟨_, _, _, _, _, _, _, _⟩ := zb4 Za.o))
  go_ret
  exact ⟨ze, zg_2 HB.o Zc.o⟩
 rw [if_pos B] at H
 have a2 : ((b.length : Int) == 24) = true := beq_iff_eq.mpr B
 have a3 : ((b.length : Int) != 24) = false := bne_eq_false_iff_eq.mpr B
 clear B; replace H := eW.mp H
 obtain ⟨z, X, H⟩ := H
 replace H : (some z) = some r := H
 have c0 := zm X; clear X; obtain rfl := fF H
 go_enter nJ, oQ
 go_wp2_with (first | ((with_reducible refine fP (N := 1) rfl ?_); (try (refine kY (by rfl) ?_; dsimp only)); refine fS zo (N := 1) zo (cs := #[.slice j a.length l, .slice m i.length n, .slice p d.length q, .slice s b.length u]) (t := 31) zh ?_; intro c hg f2 hbox hb; refine zG4 (eZ (zg_1 HB.o) hb) (hbox) ((by rw [hg]; exact (eV (zg_1 HB.o)) : w.heap.size ≤ c)) ((by rw [hg]; exact (eV (zg_1 HB.o)) : w.heap.size ≤ c)) ?_; clear HB; intro HB Za Zg Zc; clear hb hbox hg; obtain ⟨_, _, _, _, _, _, _, _⟩ := zb4 Za.o) | ((with_reducible refine fJ (f := 51) rfl ?_); refine gU (some 5) rfl rfl nI (by kernel_rfl) rfl #[.slice j a.length l] rfl zq ?_; (with_reducible refine (cN.calls _ _ a true _ ?_ ?_ T.o).mono ?_); exact zC (fE Ze.o HB.o); exact Zf.o; rintro e f3 ⟨rfl, hb⟩; refine ⟨_, rfl, ?_⟩; refine zG2 (fB (g := c) (o := .cells #[.slice j a.length l, .slice m i.length n, .slice p d.length q, .slice s b.length u] 31 (0, 0)) (zg_3 Za.o) hb) (eZ (zg_2 HB.o Zc.o) hb) ?_; clear Za HB; intro Za HB; (try clear hb); (try clear hb2); (try clear hk); (try clear hi); obtain ⟨_, _, _, _, _, _, _, _⟩ := zb4 Za.o) | (go_at_call 52; (with_reducible refine (aW.calls k _ _ a _ _ i _ _ d _ _ b x _ ?_ ?_ ?_ ?_ ?_ ?_ ?_ ?_ Z.o).mono ?_); exact zC (fE Ze.o HB.o); exact Zf.o; exact zC (fE Zj.o HB.o); exact Zk.o; exact zC (fE Zl.o HB.o); exact Zm.o; exact zC (fE Zh.o HB.o); exact Zi.o; rintro e f4 ⟨E, rfl, v, hb⟩; refine zG3 (fL v (eV (zg_2 HB.o Zc.o))) (fB (g := c) (o := .cells #[.slice j a.length l, .slice m i.length n, .slice p d.length q, .slice s b.length u] 31 (0, 0)) (zg_3 Za.o) hb) (eZ (zg_2 HB.o Zc.o) hb) ?_; clear Za HB; intro Zb Za HB; (try clear hb); (try clear hb2); (try clear hk); (try clear hi); (try clear v); obtain ⟨b8, b9, rfl⟩ := fA Zb.o) | (go_at_call 42; (with_reducible refine (bZ.calls k _ _ x true _ ?_ ?_ A6.o).mono ?_); exact zC ((fC Zb.o).2.2); exact (fC Zb.o).2.1; rintro e f5 ⟨rfl, hb⟩; refine zG3 (fI (zg_6 Zb.o) hb) (fB (g := c) (o := .cells #[.slice j a.length l, .slice m i.length n, .slice p d.length q, .slice s b.length u] 31 (0, 0)) (zg_3 Za.o) hb) (eZ (zg_2 HB.o Zc.o) hb) ?_; clear Zb Za HB; intro Zb Za HB; (try clear hb); (try clear hb2); (try clear hk); (try clear hi); obtain ⟨_, _, _, _, _, _, _, _⟩ := zb4 Za.o) | (go_at_call 54; (with_reducible refine (aQ.calls k _ _ a (fun k_ => k_ < w.heap.size) _ _ i (fun k_ => k_ < w.heap.size) _ _ d _ _ b y _ ?_ ?_ ?_ ?_ ?_ ?_ A8.o).mono ?_); exact zC (fE Ze.o HB.o); exact Zf.o; exact nF Zk.o (nZ (Kd.C_F (oD .i64) Zj.o) (zg_2 HB.o Zc.o)); exact nF Zm.o (nZ (Kd.C_F k60_heap Zl.o) (zg_2 HB.o Zc.o)); exact zC (fE Zh.o HB.o); exact Zi.o; rintro e f6 ⟨V, rfl, v, hb⟩; refine zG4 (fI (zg_6 Zb.o) hb) (jK (fN (ok' := fun k_ => some k_ ≠ ob (.slice b8 x.length b9) ∧ k_ ≠ c) v (fun k_ hk_ => ⟨gM hk_ (fun hs_ => gM hs_ (fun hs_ => fun e_ => kB.2 hs_ (fH Zb.o k_ e_.symm)) (fun hs_ => fun e_ => kB.2 hs_ (fH Zb.o k_ e_.symm))) (fun hn_ => (gF (fO (zg_6 Zb.o)) k_ hn_)), gM hk_ (fun hs_ => gM hs_ (fun hs_ => fun e_ => kB.2 hs_ (by rw [e_]; exact Zg.o)) (fun hs_ => fun e_ => kB.2 hs_ (by rw [e_]; exact Zg.o))) (fun hn_ => (iB (g := c) (o := .cells #[.slice j a.length l, .slice m i.length n, .slice p d.length q, .slice s b.length u] 31 (0, 0)) (zg_3 Za.o) k_ hn_))⟩)) (eV (zg_2 HB.o Zc.o))) (fB (g := c) (o := .cells #[.slice j a.length l, .slice m i.length n, .slice p d.length q, .slice s b.length u] 31 (0, 0)) (zg_3 Za.o) hb) (eZ (zg_2 HB.o Zc.o) hb) ?_; clear Zb Za HB; intro Zb Zd Za HB; (try clear hb); (try clear hb2); (try clear hk); (try clear hi); (try clear v); obtain ⟨d0, d1, rfl⟩ := iR Zd.o) | (go_at_call 53; (with_reducible refine (bA.calls k _ _ y () true _ ?_ ?_ A9.o).mono ?_); exact zC ((gZ Zd.o).2.2); exact (gZ Zd.o).2.1; rintro e f7 ⟨rfl, hb⟩; refine zG4 (fI (zg_6 Zb.o) hb) (jX (zg_4 Zd.o) hb) (fB (g := c) (o := .cells #[.slice j a.length l, .slice m i.length n, .slice p d.length q, .slice s b.length u] 31 (0, 0)) (zg_3 Za.o) hb) (eZ (zg_2 HB.o Zc.o) hb) ?_; clear Zb Zd Za HB; intro Zb Zd Za HB; (try clear hb); (try clear hb2); (try clear hk); (try clear hi); obtain ⟨_, _, _, _, _, _, _, _⟩ := zb4 Za.o) | (go_at_call 58; (with_reducible refine (bF.calls _ _ b () z _ ?_ ?_ c0.o).mono ?_); exact zC (fE Zh.o HB.o); exact Zi.o; rintro e f8 ⟨rfl, hb⟩; refine zG4 (fI (zg_6 Zb.o) hb) (jX (zg_4 Zd.o) hb) (fB (g := c) (o := .cells #[.slice j a.length l, .slice m i.length n, .slice p d.length q, .slice s b.length u] 31 (0, 0)) (zg_3 Za.o) hb) (eZ (zg_2 HB.o Zc.o) hb) ?_; clear Zb Zd Za HB; intro Zb Zd Za HB; (try clear hb); (try clear hb2); (try clear hk); (try clear hi)))
 go_ret
 exact ⟨ze, zg_2 HB.o Zc.o⟩
def aN.l0 : Nat → List Int → List Int → Int → Int → Option (Bool)
  | 0, _, _, _, _ => none
  | k + 1, x0, x1, x12, x13 => if x13 < x12 then (if 0 ≤ x13 then (if x13 < (x0.length : Int) then (if x13 < (x1.length : Int) then (if (rd x0 x13) = (rd x1 x13) then (aN.l0 k x0 x1 x12 (wrap64 (x13 + 1))) else (some false)) else (none)) else (none)) else (none)) else (some true)
def aN.f (k : Nat) (l0 : List Int) (l1 : List Int) : Option (Bool) := if (l0.length : Int) = (l1.length : Int) then (aN.l0 k l0 l1 (l0.length : Int) 0) else (some false)
set_option maxHeartbeats 8000000 in
set_option maxRecDepth 100000 in
theorem aN.calls (k : Nat) (L : Option Addr) (M : Nat) (b : List Int) (N : Option Addr) (F : Nat) (c : List Int) (r : Bool) (w : World) (x : Kd.C (fG .i64) w L b.length b) (y : b.length ≤ M) (z : Kd.C (fG .i64) w N c.length c) (A : c.length ≤ F) (h : aN.f k b c = some r) :
    Calls fM 21 #[.slice L b.length M, .slice N c.length F] w fun e w' => e = .returned (.bool r) ∧ Drawn0 w w' := by
 have B := zm x; have U := zm y; clear x y; have D := zm z; have V := zm A; clear z A; have H := h
 unfold aN.f at H
 clear h
 by_cases l : (b.length : Int) = (c.length : Int)
 rotate_left
 ·rw [if_neg l] at H
  have q : ((b.length : Int) == (c.length : Int)) = false := beq_eq_false_iff_ne.mpr l
  have s : ((b.length : Int) != (c.length : Int)) = true := bne_iff_ne.mpr l
  have t : (b.length == c.length) = false := by first | simpa using l | (simp at l ⊢; omega)
  obtain rfl := fF H
  go_enter Tryz.func21, Tryz.ntmps21
  go_wp2
  repeat (go_quiet (fail); try go_wp2)
  go_ret
  exact ⟨zr, by repeat (first | exact hJ _ | apply hM)⟩
 rw [if_pos l] at H
 have q : ((b.length : Int) == (c.length : Int)) = true := beq_iff_eq.mpr l
 have s : ((b.length : Int) != (c.length : Int)) = false := bne_eq_false_iff_eq.mpr l
 have t : (b.length == c.length) = true := by first | simpa using l | (simp at l ⊢; omega)
 clear l
 have H' := zm H
 clear H
 go_enter Tryz.func21, Tryz.ntmps21
 go_wp2
 repeat (go_quiet (fail); try go_wp2)
 go_loopg [13] k (fun kq O w' => ∃ (a : Int), O = .int .i64 a ∧ Aside0 (aN.l0 kq b c (b.length : Int) a = some r) ∧ Aside0 (kq ≤ k) ∧ Drawn0 w w')
 case atStart => exact ⟨(0), zr, H', ⟨fQ _⟩, by repeat (first | exact hJ _ | apply hM)⟩
 case round =>
  clear H'
  try clear F
  try clear X
  try clear Y
  try clear l
  try clear q
  try clear s
  try clear t
  obtain ⟨a, rfl, HA, E, ⟨m1, rfl⟩⟩ := hrel
  cases gk with
  | zero => exact absurd HA.o (by simp [aN.l0])
  | succ k1 =>
   have H := HA.o; clear HA
   simp only [aN.l0] at H
   by_cases p : a < (b.length : Int)
   rotate_left
   ·rw [if_neg p] at H
    have G := decide_eq_false p; clear p; obtain rfl := fF H
    go_wp2
    repeat (go_quiet (fail); try go_wp2)
    go_ret
    exact ⟨zr, by repeat (first | exact hJ _ | apply hM)⟩
   rw [if_pos p] at H; have G := decide_eq_true p; clear p
   replace H := zid H; obtain ⟨R, H⟩ := H
   replace H := zid H; obtain ⟨S, H⟩ := H
   replace H := zid H; obtain ⟨T, H⟩ := H
   by_cases m : (rd b a) = (rd c a)
   rotate_left
   ·rw [if_neg m] at H
    have I : ((rd b a) == (rd c a)) = false := beq_eq_false_iff_ne.mpr m
    have J : ((rd b a) != (rd c a)) = true := bne_iff_ne.mpr m
    obtain rfl := fF H
    have d : 0 ≤ (a : Int) := zd
    have g : a < (b.length : Int) := zd
    obtain ⟨u, n, hx101_0⟩ := gY B.o a d g
    cases n; replace d := eq_true d; replace g := eq_true g
    have i : 0 ≤ (a : Int) := zd
    have j : a < (c.length : Int) := zd
    obtain ⟨v, o, hx102_0⟩ := gY D.o a i j
    cases o; replace i := eq_true i; replace j := eq_true j
    go_wp2
    repeat (go_quiet (fail); try go_wp2)
    go_ret
    exact ⟨zr, by repeat (first | exact hJ _ | apply hM)⟩
   rw [if_pos m] at H
   have I : ((rd b a) == (rd c a)) = true := beq_iff_eq.mpr m
   have J : ((rd b a) != (rd c a)) = false := bne_eq_false_iff_eq.mpr m
   clear m
   have H' := zm H
   clear H
   have d : 0 ≤ (a : Int) := zd
   have g : a < (b.length : Int) := zd
   obtain ⟨u, n, hx101_0⟩ := gY B.o a d g
   cases n; replace d := eq_true d; replace g := eq_true g
   have i : 0 ≤ (a : Int) := zd
   have j : a < (c.length : Int) := zd
   obtain ⟨v, o, hx102_0⟩ := gY D.o a i j
   cases o; replace i := eq_true i; replace j := eq_true j
   go_wp2
   repeat (go_quiet (fail); try go_wp2)
   go_roundg k1
   case measure => have := E.o; omega
   case rel => exact ⟨(wrap64 (a + 1)), zr, H', ⟨by have := E.o; omega⟩, by repeat (first | exact hJ _ | apply hM)⟩
mutual
def aJ.j0 : Nat → Bool → List Int → List Int → List (S60) → List Int → Option (Bool)
  | 0, _, _, _, _, _ => none
  | k + 1, x15, x180000, x180001, x180002, x180003 => if x15 = true then (some false) else (aJ.l0 k x180003 (x180003.length : Int) 0 x180000 x180001 x180002 x180003)
def aJ.l0 : Nat → List Int → Int → Int → List Int → List Int → List (S60) → List Int → Option (Bool)
  | 0, _, _, _, _, _, _, _ => none
  | k + 1, x17, x18, x19, x180000, x180001, x180002, x180003 => if x19 < x18 then (if 0 ≤ x19 then (if x19 < (x17.length : Int) then (if x19 < (x180000.length : Int) then (if (rd x180000 x19) = 0 then (if (rd x17 x19) = 0 then (aJ.l0 k x17 x18 (wrap64 (x19 + 1)) x180000 x180001 x180002 x180003) else (some false)) else (aJ.l0 k x17 x18 (wrap64 (x19 + 1)) x180000 x180001 x180002 x180003)) else (none)) else (none)) else (none)) else (some true)
end
def aJ.f (k : Nat) (l0_0 : List Int) (l0_1 : List Int) (l0_2 : List (S60)) (l0_3 : List Int) : Option (Bool) := (cH.f k l0_0 l0_1 l0_2 l0_3).bind fun t180 => (if t180 = true then ((aI.f k l0_0 l0_1 l0_2 l0_3).bind fun t181 => ((aN.f k l0_0 t181).bind fun t184 => (aJ.j0 k (!t184) l0_0 l0_1 l0_2 l0_3))) else (aJ.j0 k true l0_0 l0_1 l0_2 l0_3))
def aJ.T1 : Bool × List (List Nat × List Nat) := (true, [([], []), ([0], [0]), ([1], [1]), ([2, 1], [2]), ([3], [3]), ([4, 3], [3, 4]), ([3], [3]), ([6, 3, 3], [3, 6]), ([5, 7, 7, 3], [3, 5, 7]), ([8, 3], [3, 8]), ([3, 9], [3, 9])])
def aJ.B1 : List Nat := [0, 1, 3, 7, 15, 31, 15, 79, 255, 511, 1023]
theorem aJ.tab1 : rtab .any (opsOf Tryz.f12 1) = aJ.T1 := by kernel_rfl
theorem aJ.bits1 : waitsOk aJ.T1.2 aJ.B1 = true := by kernel_rfl
set_option maxHeartbeats 8000000 in
set_option maxRecDepth 100000 in
theorem aJ.calls (k : Nat) (m : Option Addr) (p : Nat) (c : List Int) (q : Option Addr) (s : Nat) (d : List Int) (u : Option Addr) (x : Nat) (j : List (S60)) (y : Option Addr) (z : Nat) (b : List Int) (r : Bool) (w : World) (X : Kd.C (fG .i64) w m c.length c) (Y : c.length ≤ p) (Z : Kd.C (fG .i64) w q d.length d) (a0 : d.length ≤ s) (a1 : Kd.C k60 w u j.length j) (a2 : j.length ≤ x) (a3 : Kd.C (fG .i64) w y b.length b) (a4 : b.length ≤ z) (h : aJ.f k c d j b = some r) :
    Calls fM 12 #[.agg #[.slice m c.length p, .slice q d.length s, .slice u j.length x, .slice y b.length z]] w fun e w' => e = .returned (.bool r) ∧ Below w.heap.size w w' := by
 have hu31 := fW; have Zc := zm X; have Ze := zm Y; clear X Y; have Zf := zm Z; have Zg := zm a0; clear Z a0; have Zh := zm a1; have Zi := zm a2; clear a1 a2; have Zd := zm a3; have Zj := zm a4; clear a3 a4; have HB := zm (fX w.heap.size w); have H := h
 unfold aJ.f at H
 clear h; have a9 := zm H; clear H
 go_enter Tryz.func12, Tryz.ntmps12
 go_upto_region 1 with (first | ((with_reducible refine fP (N := 1) rfl ?_); refine fS zo (N := 1) zo (cs := #[.slice m c.length p, .slice q d.length s, .slice u j.length x, .slice y b.length z]) (t := 31) zh ?_; intro l hg w3 hbox hb; refine zG4 (eZ (zg_1 HB.o) hb) (hbox) ((by rw [hg]; exact (eV (zg_1 HB.o)) : w.heap.size ≤ l)) ((by rw [hg]; exact (eV (zg_1 HB.o)) : w.heap.size ≤ l)) ?_; clear HB; intro HB Za Zl Zb; clear hb hbox hg))
 (try simp only [gE, zs, zz, zt])
 go_cut [15] (fun c9 wc => ∃ (kq : Nat) (I : Bool), c9 = .bool I ∧ Aside0 (aJ.j0 kq I c d j b = some r) ∧ Aside0 (kq ≤ k) ∧ Aside0 (wc.heap[l]? = some (.cells #[(.slice m c.length p), (.slice q d.length s), (.slice u j.length x), (.slice y b.length z)] 31 (0, 0))) ∧ Aside0 (Below w.heap.size w wc))
 case first =>
  have H := a9.o; clear a9; replace H := eW.mp H
  obtain ⟨c4, b7, H⟩ := H
  try dsimp only at H
  have A4 := zm b7; clear b7
  by_cases c5 : c4 = true
  rotate_left
  ·replace c5 := hN.mpr c5
   subst c5
   replace H : (aJ.j0 k true c d j b) = some r := by rw [if_neg (show ¬ (false = true) by decide)] at H; exact H
   have H' := zm H
   clear H
   try go_wp2
   have F := zm (fU Za.o); have G := zm (gA HB.o); clear Za; clear HB; have Za := F; have HB := G; clear F G
   refine start_ (n := 11) (S := fun w' => w'.cell? ⟨l, 0, none⟩ = some (.slice m c.length p) ∧ w'.cell? ⟨l, 1, none⟩ = some (.slice q d.length s) ∧ w'.cell? ⟨l, 2, none⟩ = some (.slice u j.length x) ∧ w'.cell? ⟨l, 3, none⟩ = some (.slice y b.length z)) (ds := []) #[ff, ff, ff, ff, ff, ff, ff, ff, ff, ff, ff] (by kernel_rfl) rfl rfl ⟨(eY Za.o 0).trans rfl, (eY Za.o 1).trans rfl, (eY Za.o 2).trans rfl, (eY Za.o 3).trans rfl⟩ (fun hHeld => ?_); refine kJ aJ.tab1 aJ.bits1 (fun HT_ HW_ => ?_)
   generalize w3.drew = e2 at Za HB hHeld ⊢
   refine kA (i := 0) (N := some 5) #[tt, ff, ff, ff, ff, ff, ff, ff, ff, ff, ff] rfl rfl (hZ HT_.o HW_.o zk) (fun _ _ _ h => h) (.inl ⟨by rfl, zi4⟩) hHeld zu ?_
   refine one_ (i := 1) (N := some 6) #[tt, tt, ff, ff, ff, ff, ff, ff, ff, ff, ff] rfl rfl (iS HT_.o zk) (by decide) (fun K hK => ?_)
   refine goes_ nJ (by kernel_rfl) rfl #[.agg #[.slice m c.length p, .slice q d.length s, .slice u j.length x, .slice y b.length z]] (by rfl) rfl rfl zq ?_
   with_reducible refine (cH.calls k _ _ c _ _ d _ _ j _ _ b false _ ?side1 ?side2 ?side3 ?side4 ?side5 ?side6 ?side7 ?side8 A4.o).mono ?_
   (case side1 => exact zC (fE Zc.o HB.o))
   (case side2 => exact Ze.o)
   (case side3 => exact zC (fE Zf.o HB.o))
   (case side4 => exact Zg.o)
   (case side5 => exact zC (fE Zh.o HB.o))
   (case side6 => exact Zi.o)
   (case side7 => exact zC (fE Zd.o HB.o))
   (case side8 => exact Zj.o)
   rintro e e3 ⟨rfl, hb⟩
   refine ⟨_, rfl, ?_⟩
   have F := zm (fB (g := l) (o := .cells #[.slice m c.length p, .slice q d.length s, .slice u j.length x, .slice y b.length z] 31 (0, 0)) (zg_3 Za.o) hb); have G := zm (eZ (zg_2 HB.o Zb.o) hb); clear Za; clear HB; have Za := F; have HB := G; clear F G
   (try clear hb)
   (try clear hb2)
   (try clear hk)
   (try clear hi)
   refine hK.out _ _ ⟨(eY Za.o 0).trans rfl, (eY Za.o 1).trans rfl, (eY Za.o 2).trans rfl, (eY Za.o 3).trans rfl⟩ (fun hHeld => ?_)
   clear hK K
   refine jV (a' := ?_) ?_ ?_
   rotate_left
   ·show gE _ (some 6) _ = _
    simp only [gE, zs, zz, zt, iQ, jF]
    rfl
   refine gR (i := 2) (N := some 7) #[tt, tt, tt, ff, ff, ff, ff, ff, ff, ff, ff] rfl rfl (gD HT_.o zk) (fun _ _ _ h => h) (.inl ⟨by rfl, zi⟩) zu ?_
   refine gR (i := 3) (N := some 8) #[tt, tt, tt, tt, ff, ff, ff, ff, ff, ff, ff] rfl rfl (gD HT_.o zk) (fun _ _ _ h => h) (.inl ⟨by rfl, zi⟩) zu ?_
   refine gR (i := 4) (N := some 9) (v := undef) (a' := ?_) #[tt, tt, tt, tt, tt, ff, ff, ff, ff, ff, ff] rfl rfl (gD HT_.o zk) (fun _ _ _ h => h) (Or.inr ⟨by rfl, rfl⟩) ?_ ?_
   rotate_left
   ·simp only [gE, zs, zz, zt, iQ, jF]
    rfl
   refine gR (i := 5) (N := some 10) (v := undef) (a' := ?_) #[tt, tt, tt, tt, tt, tt, ff, ff, ff, ff, ff] rfl rfl (gD HT_.o zk) (fun _ _ _ h => h) (Or.inr ⟨by rfl, rfl⟩) ?_ ?_
   rotate_left
   ·simp only [gE, zs, zz, zt, iQ, jF]
    rfl
   refine gR (i := 6) (N := some 11) (v := undef) (a' := ?_) #[tt, tt, tt, tt, tt, tt, tt, ff, ff, ff, ff] rfl rfl (gD HT_.o zk) (fun _ _ _ h => h) (Or.inr ⟨by rfl, rfl⟩) ?_ ?_
   rotate_left
   ·simp only [gE, zs, zz, zt, iQ, jF]
    rfl
   refine gR (i := 7) (N := some 12) (v := undef) (a' := ?_) #[tt, tt, tt, tt, tt, tt, tt, tt, ff, ff, ff] rfl rfl (gD HT_.o zk) (fun _ _ _ h => h) (Or.inr ⟨by rfl, rfl⟩) ?_ ?_
   rotate_left
   ·simp only [gE, zs, zz, zt, iQ, jF]
    rfl
   refine gR (i := 8) (N := some 13) (v := undef) (a' := ?_) #[tt, tt, tt, tt, tt, tt, tt, tt, tt, ff, ff] rfl rfl (gD HT_.o zk) (fun _ _ _ h => h) (Or.inr ⟨by rfl, rfl⟩) ?_ ?_
   rotate_left
   ·simp only [gE, zs, zz, zt, iQ, jF]
    rfl
   refine gR (i := 9) (N := some 14) (v := undef) (a' := ?_) #[tt, tt, tt, tt, tt, tt, tt, tt, tt, tt, ff] rfl rfl (gD HT_.o zk) (fun _ _ _ h => h) (Or.inr ⟨by rfl, rfl⟩) ?_ ?_
   rotate_left
   ·simp only [gE, zs, zz, zt, iQ, jF]
    rfl
   refine gR (i := 10) (N := some 15) #[tt, tt, tt, tt, tt, tt, tt, tt, tt, tt, tt] rfl rfl (gD HT_.o zk) (fun _ _ _ h => h) (.inl ⟨by rfl, zi⟩) zu ?_
   refine done_ (done_of HT_.o zk) ?_
   try go_wp2
   go_meet
   case rel => exact ⟨_, (true), zr, H', ⟨by first | omega | exact fQ _⟩, ⟨zl Za.o⟩, ⟨zg_2 HB.o Zb.o⟩⟩
  subst c5
  replace H : ((aI.f k c d j b).bind fun J => ((aN.f k c J).bind fun U => (aJ.j0 k (!U) c d j b))) = some r := by rw [if_pos rfl] at H; exact H
  replace H := eW.mp H
  obtain ⟨J, b8, H⟩ := H
  try dsimp only at H
  have A6 := zm b8; clear b8; replace H := eW.mp H
  obtain ⟨U, b9, H⟩ := H
  try dsimp only at H
  have A7 := zm b9; clear b9
  have H' := zm H
  clear H
  try go_wp2
  have F := zm (fU Za.o); have G := zm (gA HB.o); clear Za; clear HB; have Za := F; have HB := G; clear F G
  refine start_ (n := 11) (S := fun w' => w'.cell? ⟨l, 0, none⟩ = some (.slice m c.length p) ∧ w'.cell? ⟨l, 1, none⟩ = some (.slice q d.length s) ∧ w'.cell? ⟨l, 2, none⟩ = some (.slice u j.length x) ∧ w'.cell? ⟨l, 3, none⟩ = some (.slice y b.length z)) (ds := []) #[ff, ff, ff, ff, ff, ff, ff, ff, ff, ff, ff] (by kernel_rfl) rfl rfl ⟨(eY Za.o 0).trans rfl, (eY Za.o 1).trans rfl, (eY Za.o 2).trans rfl, (eY Za.o 3).trans rfl⟩ (fun hHeld => ?_); refine kJ aJ.tab1 aJ.bits1 (fun HT_ HW_ => ?_)
  generalize w3.drew = w8 at Za HB hHeld ⊢
  refine kA (i := 0) (N := some 5) #[tt, ff, ff, ff, ff, ff, ff, ff, ff, ff, ff] rfl rfl (hZ HT_.o HW_.o zk) (fun _ _ _ h => h) (.inl ⟨by rfl, zi4⟩) hHeld zu ?_
  refine one_ (i := 1) (N := some 6) #[tt, tt, ff, ff, ff, ff, ff, ff, ff, ff, ff] rfl rfl (iS HT_.o zk) (by decide) (fun K hK => ?_)
  refine goes_ nJ (by kernel_rfl) rfl #[.agg #[.slice m c.length p, .slice q d.length s, .slice u j.length x, .slice y b.length z]] (by rfl) rfl rfl zq ?_
  with_reducible refine (cH.calls k _ _ c _ _ d _ _ j _ _ b true _ ?side1 ?side2 ?side3 ?side4 ?side5 ?side6 ?side7 ?side8 A4.o).mono ?_
  (case side1 => exact zC (fE Zc.o HB.o))
  (case side2 => exact Ze.o)
  (case side3 => exact zC (fE Zf.o HB.o))
  (case side4 => exact Zg.o)
  (case side5 => exact zC (fE Zh.o HB.o))
  (case side6 => exact Zi.o)
  (case side7 => exact zC (fE Zd.o HB.o))
  (case side8 => exact Zj.o)
  rintro e w9 ⟨rfl, hb⟩
  refine ⟨_, rfl, ?_⟩
  have F := zm (fB (g := l) (o := .cells #[.slice m c.length p, .slice q d.length s, .slice u j.length x, .slice y b.length z] 31 (0, 0)) (zg_3 Za.o) hb); have G := zm (eZ (zg_2 HB.o Zb.o) hb); clear Za; clear HB; have Za := F; have HB := G; clear F G
  (try clear hb)
  (try clear hb2)
  (try clear hk)
  (try clear hi)
  refine hK.out _ _ ⟨(eY Za.o 0).trans rfl, (eY Za.o 1).trans rfl, (eY Za.o 2).trans rfl, (eY Za.o 3).trans rfl⟩ (fun hHeld => ?_)
  clear hK K
  refine jV (a' := ?_) ?_ ?_
  rotate_left
  ·show gE _ (some 6) _ = _
   simp only [gE, zs, zz, zt, iQ, jF]
   rfl
  refine gR (i := 2) (N := some 7) #[tt, tt, tt, ff, ff, ff, ff, ff, ff, ff, ff] rfl rfl (gD HT_.o zk) (fun _ _ _ h => h) (.inl ⟨by rfl, zi⟩) zu ?_
  refine gR (i := 3) (N := some 8) #[tt, tt, tt, tt, ff, ff, ff, ff, ff, ff, ff] rfl rfl (gD HT_.o zk) (fun _ _ _ h => h) (.inl ⟨by rfl, zi⟩) zu ?_
  refine gR (i := 4) (N := some 9) #[tt, tt, tt, tt, tt, ff, ff, ff, ff, ff, ff] rfl rfl (gD HT_.o zk) (fun _ _ _ h => h) (.inl ⟨by rfl, zi⟩) zu ?_
  refine kA (i := 5) (N := some 10) #[tt, tt, tt, tt, tt, tt, ff, ff, ff, ff, ff] rfl rfl (hZ HT_.o HW_.o zk) (fun _ _ _ h => h) (.inl ⟨by rfl, zi4⟩) hHeld zu ?_
  refine kA (i := 6) (N := some 11) #[tt, tt, tt, tt, tt, tt, tt, ff, ff, ff, ff] rfl rfl (hZ HT_.o HW_.o zk) (fun _ _ _ h => h) (.inl ⟨by rfl, zi4⟩) hHeld zu ?_
  refine one_ (i := 7) (N := some 12) #[tt, tt, tt, tt, tt, tt, tt, tt, ff, ff, ff] rfl rfl (iS HT_.o zk) (by decide) (fun K hK => ?_)
  refine goes_ Tryz.func25 (by kernel_rfl) rfl #[.agg #[.slice m c.length p, .slice q d.length s, .slice u j.length x, .slice y b.length z]] (by rfl) rfl rfl zq ?_
  with_reducible refine (aI.calls k _ _ c _ _ d _ _ j _ _ b J _ ?side1 ?side2 ?side3 ?side4 ?side5 ?side6 ?side7 ?side8 A6.o).mono ?_
  (case side1 => exact zC (fE Zc.o HB.o))
  (case side2 => exact Ze.o)
  (case side3 => exact zC (fE Zf.o HB.o))
  (case side4 => exact Zg.o)
  (case side5 => exact zC (fE Zh.o HB.o))
  (case side6 => exact Zi.o)
  (case side7 => exact zC (fE Zd.o HB.o))
  (case side8 => exact Zj.o)
  rintro e e4 ⟨d9, rfl, c0, hb⟩
  refine ⟨_, rfl, ?_⟩
  have F := zm (fL c0 (eV (zg_2 HB.o Zb.o))); have G := zm (fB (g := l) (o := .cells #[.slice m c.length p, .slice q d.length s, .slice u j.length x, .slice y b.length z] 31 (0, 0)) (zg_3 Za.o) hb); have c3 := zm (eZ (zg_2 HB.o Zb.o) hb); clear Za; clear HB; have Zk := F; have Za := G; have HB := c3; clear F G c3
  (try clear hb)
  (try clear hb2)
  (try clear hk)
  (try clear hi)
  (try clear c0)
  obtain ⟨c6, c7, b0⟩ := fA Zk.o
  (first | subst b0 | (injection b0 with f1_ f2_ f3_; have f4_ := f1_.symm; have f5_ := f3_.symm; clear f1_ f2_ f3_; subst f4_; subst f5_))
  refine hK.out _ _ ⟨(eY Za.o 0).trans rfl, (eY Za.o 1).trans rfl, (eY Za.o 2).trans rfl, (eY Za.o 3).trans rfl⟩ (fun hHeld => ?_)
  clear hK K
  refine jV (a' := ?_) ?_ ?_
  rotate_left
  ·show gE _ (some 12) _ = _
   simp only [gE, zs, zz, zt, iQ, jF]
   rfl
  refine one_ (i := 8) (N := some 13) #[tt, tt, tt, tt, tt, tt, tt, tt, tt, ff, ff] rfl rfl (iS HT_.o zk) (by decide) (fun K hK => ?_)
  refine goes_ Tryz.func21 (by kernel_rfl) rfl #[.slice m c.length p, .slice c6 J.length c7] (by rfl) rfl rfl zq ?_
  with_reducible refine (aN.calls k _ _ c _ _ J U _ ?side1 ?side2 ?side3 ?side4 A7.o).mono ?_
  (case side1 => exact zC (fE Zc.o HB.o))
  (case side2 => exact Ze.o)
  (case side3 => exact zC ((fC Zk.o).2.2))
  (case side4 => exact (fC Zk.o).2.1)
  rintro e w' ⟨rfl, ⟨nd, rfl⟩⟩
  refine ⟨_, rfl, ?_⟩
  refine hK.out _ _ ⟨(eY Za.o 0).trans rfl, (eY Za.o 1).trans rfl, (eY Za.o 2).trans rfl, (eY Za.o 3).trans rfl⟩ (fun hHeld => ?_)
  clear hK K
  refine jV (a' := ?_) ?_ ?_
  rotate_left
  ·show gE _ (some 13) _ = _
   simp only [gE, zs, zz, zt, iQ, jF]
   rfl
  refine gR (i := 9) (N := some 14) #[tt, tt, tt, tt, tt, tt, tt, tt, tt, tt, ff] rfl rfl (gD HT_.o zk) (fun _ _ _ h => h) (.inl ⟨by rfl, zi⟩) zu ?_
  refine gR (i := 10) (N := some 15) #[tt, tt, tt, tt, tt, tt, tt, tt, tt, tt, tt] rfl rfl (gD HT_.o zk) (fun _ _ _ h => h) (.inl ⟨by rfl, zi⟩) zu ?_
  refine done_ (done_of HT_.o zk) ?_
  try go_wp2
  go_meet
  case rel => exact ⟨_, (!U), zr, H', ⟨by first | omega | exact fQ _⟩, ⟨zl Za.o⟩, ⟨zg_2 HB.o Zb.o⟩⟩
 case rest =>
  clear a9
  try clear c1
  try clear c2
  try clear p2
  try clear c5
  try clear d2
  obtain ⟨kq, I, rfl, HA, HJ1, Za, HB⟩ := hcut
  cases kq with
  | zero => exact absurd HA.o (by simp [aJ.j0])
  | succ b1 =>
   have H := HA.o; clear HA
   simp only [aJ.j0] at H
   by_cases V : I = true
   ·subst V
    replace H : (some false) = some r := by rw [if_pos rfl] at H; exact H
    obtain rfl := fF H
    go_wp2
    go_ret
    exact ⟨ze, zg_2 HB.o Zb.o⟩
   replace V := hN.mpr V; subst V
   replace H : (aJ.l0 b1 b (b.length : Int) 0 c d j b) = some r := by rw [if_neg (show ¬ (false = true) by decide)] at H; exact H
   have H' := zm H
   clear H
   obtain ⟨_, _, _, _, _, _, _, _⟩ := zb4 Za.o
   go_wp2
   go_loopg [19] b1 (fun kq d3 w' => ∃ (a : Int), d3 = .int .i64 a ∧ Aside0 (aJ.l0 kq b (b.length : Int) a c d j b = some r) ∧ Aside0 (kq ≤ b1) ∧ Aside0 (w'.heap[l]? = some (.cells #[(.slice m c.length p), (.slice q d.length s), (.slice u j.length x), (.slice y b.length z)] 31 (0, 0))) ∧ Aside0 (Below w.heap.size w w'))
   case atStart => exact ⟨(0), zr, H', ⟨fQ _⟩, ⟨zl Za.o⟩, ⟨zg_2 HB.o Zb.o⟩⟩
   case round =>
    clear H'
    try clear c1
    try clear c2
    try clear p2
    try clear c5
    try clear d2
    try clear V
    try clear p2
    obtain ⟨a, rfl, HA, a5, Za, HB⟩ := hrel
    cases gk with
    | zero => exact absurd HA.o (by simp [aJ.l0])
    | succ k2 =>
     have H := HA.o; clear HA
     simp only [aJ.l0] at H
     by_cases T : a < (b.length : Int)
     rotate_left
     ·rw [if_neg T] at H
      have b2 := decide_eq_false T; clear T; obtain rfl := fF H
      go_wp2
      go_ret
      exact ⟨ze, zg_2 HB.o Zb.o⟩
     rw [if_pos T] at H; have b2 := decide_eq_true T; clear T
     replace H := zid H; obtain ⟨d4, H⟩ := H
     replace H := zid H; obtain ⟨d5, H⟩ := H
     replace H := zid H; obtain ⟨d6, H⟩ := H
     by_cases L : (rd c a) = 0
     rotate_left
     ·rw [if_neg L] at H
      have b3 : ((rd c a) == 0) = false := beq_eq_false_iff_ne.mpr L
      have b4 : ((rd c a) != 0) = true := bne_iff_ne.mpr L
      have H' := zm H
      clear H
      have A : 0 ≤ (a : Int) := zd
      have B : a < (b.length : Int) := zd
      obtain ⟨a6, M, hx185_0⟩ := gY Zd.o a A B
      cases M; replace hx185_0 := (HB.o.cell (eU w _ hx185_0)).trans hx185_0; replace A := eq_true A; replace B := eq_true B
      obtain ⟨_, _, _, _, _, _, _, _⟩ := zb4 Za.o
      have D : 0 ≤ (a : Int) := zd
      have E : a < (c.length : Int) := zd
      obtain ⟨a7, O, hx186_0⟩ := gY Zc.o a D E
      cases O; replace hx186_0 := (HB.o.cell (eU w _ hx186_0)).trans hx186_0; replace D := eq_true D; replace E := eq_true E
      go_wp2
      go_roundg k2
      case measure => have := HJ1.o; have := a5.o; omega
      case rel => exact ⟨(wrap64 (a + 1)), zr, H', ⟨by have := HJ1.o; have := a5.o; omega⟩, ⟨zl Za.o⟩, ⟨zg_2 HB.o Zb.o⟩⟩
     rw [if_pos L] at H
     have b3 : ((rd c a) == 0) = true := beq_iff_eq.mpr L
     have b4 : ((rd c a) != 0) = false := bne_eq_false_iff_eq.mpr L
     clear L
     by_cases R : (rd b a) = 0
     rotate_left
     ·rw [if_neg R] at H
      have b5 : ((rd b a) == 0) = false := beq_eq_false_iff_ne.mpr R
      have b6 : ((rd b a) != 0) = true := bne_iff_ne.mpr R
      obtain rfl := fF H
      have A : 0 ≤ (a : Int) := zd
      have B : a < (b.length : Int) := zd
      obtain ⟨a6, M, hx185_0⟩ := gY Zd.o a A B
      cases M; replace hx185_0 := (HB.o.cell (eU w _ hx185_0)).trans hx185_0; replace A := eq_true A; replace B := eq_true B
      obtain ⟨_, _, _, _, _, _, _, _⟩ := zb4 Za.o
      have D : 0 ≤ (a : Int) := zd
      have E : a < (c.length : Int) := zd
      obtain ⟨a7, O, hx186_0⟩ := gY Zc.o a D E
      cases O; replace hx186_0 := (HB.o.cell (eU w _ hx186_0)).trans hx186_0; replace D := eq_true D; replace E := eq_true E
      go_wp2
      go_ret
      exact ⟨ze, zg_2 HB.o Zb.o⟩
     rw [if_pos R] at H
     have b5 : ((rd b a) == 0) = true := beq_iff_eq.mpr R
     have b6 : ((rd b a) != 0) = false := bne_eq_false_iff_eq.mpr R
     clear R
     have H' := zm H
     clear H
     have A : 0 ≤ (a : Int) := zd
     have B : a < (b.length : Int) := zd
     obtain ⟨a6, M, hx185_0⟩ := gY Zd.o a A B
     cases M; replace hx185_0 := (HB.o.cell (eU w _ hx185_0)).trans hx185_0; replace A := eq_true A; replace B := eq_true B
     obtain ⟨_, _, _, _, _, _, _, _⟩ := zb4 Za.o
     have D : 0 ≤ (a : Int) := zd
     have E : a < (c.length : Int) := zd
     obtain ⟨a7, O, hx186_0⟩ := gY Zc.o a D E
     cases O; replace hx186_0 := (HB.o.cell (eU w _ hx186_0)).trans hx186_0; replace D := eq_true D; replace E := eq_true E
     go_wp2
     go_roundg k2
     case measure => have := HJ1.o; have := a5.o; omega
     case rel => exact ⟨(wrap64 (a + 1)), zr, H', ⟨by have := HJ1.o; have := a5.o; omega⟩, ⟨zl Za.o⟩, ⟨zg_2 HB.o Zb.o⟩⟩
def cX.f (l0_0 : List Int) (l0_1 : List Int) (l0_2 : List (S60)) (l0_3 : List Int) (l1 : List Int) (a2 : Int) : Option (Int) := if 0 ≤ a2 then (if a2 < (l1.length : Int) then (if (rd l1 a2) < 2 then (some 0) else (if 0 ≤ (wrap64 ((rd l1 a2) - 2)) then (if (wrap64 ((rd l1 a2) - 2)) < (l0_3.length : Int) then (some (rd l0_3 (wrap64 ((rd l1 a2) - 2)))) else (none)) else (none))) else (none)) else (none)
set_option maxHeartbeats 8000000 in
set_option maxRecDepth 100000 in
theorem cX.calls (s : Option Addr) (u : Nat) (g : List Int) (v : Option Addr) (x : Nat) (i : List Int) (y : Option Addr) (z : Nat) (j : List (S60)) (A : Option Addr) (B : Nat) (d : List Int) (A1 : Option Addr) (c1 : Nat) (D : List Int) (a2 : Int) (r : Int) (w : World) (J : Kd.C (fG .i64) w s g.length g) (L : g.length ≤ u) (M : Kd.C (fG .i64) w v i.length i) (O : i.length ≤ x) (R : Kd.C k60 w y j.length j) (S : j.length ≤ z) (T : Kd.C (fG .i64) w A d.length d) (U : d.length ≤ B) (Y : Kd.C (fG .i64) w A1 D.length D) (Z : D.length ≤ c1) (h : cX.f g i j d D a2 = some r) :
    Calls fM 27 #[.agg #[.slice s g.length u, .slice v i.length x, .slice y j.length z, .slice A d.length B], .slice A1 D.length c1, .int .i64 a2] w fun e w' => e = .returned (.int .i64 r) ∧ Below w.heap.size w w' := by
 have hu31 := fW; have Ze := zm J; have Zf := zm L; clear J L; have Zg := zm M; have Zh := zm O; clear M O; have Zi := zm R; have Zj := zm S; clear R S; have Zd := zm T; have Zk := zm U; clear T U; have E := zm Y; have b1 := zm Z; clear Y Z; have HB := zm (fX w.heap.size w); have H := h
 unfold cX.f at H
 clear h
 replace H := zid H; obtain ⟨a8, H⟩ := H
 replace H := zid H; obtain ⟨a9, H⟩ := H
 by_cases X : (rd D a2) < 2
 ·rw [if_pos X] at H
  have a3 := decide_eq_true X; clear X; obtain rfl := fF H
  go_enter Tryz.func27, Tryz.ntmps27
  go_wp2_with (first | ((with_reducible refine fP (N := 3) rfl ?_); refine fS zo (N := 3) zo (cs := #[.slice s g.length u, .slice v i.length x, .slice y j.length z, .slice A d.length B]) (t := 31) zh ?_; intro c hg w7 hbox hb; refine zG4 (eZ (zg_1 HB.o) hb) (hbox) ((by rw [hg]; exact (eV (zg_1 HB.o)) : w.heap.size ≤ c)) ((by rw [hg]; exact (eV (zg_1 HB.o)) : w.heap.size ≤ c)) ?_; clear HB; intro HB Za Zc Zb; clear hb hbox hg; have a : 0 ≤ (a2 : Int) := zd; have b : a2 < (D.length : Int) := zd; obtain ⟨q, l, hx113_0⟩ := gY E.o a2 a b; cases l; replace hx113_0 := (HB.o.cell (eU w _ hx113_0)).trans hx113_0; replace a := eq_true a; replace b := eq_true b))
  repeat (go_quiet (first | ((with_reducible refine fP (N := 3) rfl ?_); refine fS zo (N := 3) zo (cs := #[.slice s g.length u, .slice v i.length x, .slice y j.length z, .slice A d.length B]) (t := 31) zh ?_; intro c hg w7 hbox hb; refine zG4 (eZ (zg_1 HB.o) hb) (hbox) ((by rw [hg]; exact (eV (zg_1 HB.o)) : w.heap.size ≤ c)) ((by rw [hg]; exact (eV (zg_1 HB.o)) : w.heap.size ≤ c)) ?_; clear HB; intro HB Za Zc Zb; clear hb hbox hg; have a : 0 ≤ (a2 : Int) := zd; have b : a2 < (D.length : Int) := zd; obtain ⟨q, l, hx113_0⟩ := gY E.o a2 a b; cases l; replace hx113_0 := (HB.o.cell (eU w _ hx113_0)).trans hx113_0; replace a := eq_true a; replace b := eq_true b)); try go_wp2_with (first | ((with_reducible refine fP (N := 3) rfl ?_); refine fS zo (N := 3) zo (cs := #[.slice s g.length u, .slice v i.length x, .slice y j.length z, .slice A d.length B]) (t := 31) zh ?_; intro c hg w7 hbox hb; refine zG4 (eZ (zg_1 HB.o) hb) (hbox) ((by rw [hg]; exact (eV (zg_1 HB.o)) : w.heap.size ≤ c)) ((by rw [hg]; exact (eV (zg_1 HB.o)) : w.heap.size ≤ c)) ?_; clear HB; intro HB Za Zc Zb; clear hb hbox hg; have a : 0 ≤ (a2 : Int) := zd; have b : a2 < (D.length : Int) := zd; obtain ⟨q, l, hx113_0⟩ := gY E.o a2 a b; cases l; replace hx113_0 := (HB.o.cell (eU w _ hx113_0)).trans hx113_0; replace a := eq_true a; replace b := eq_true b)))
  go_ret
  exact ⟨ze, zg_2 HB.o Zb.o⟩
 rw [if_neg X] at H; have a3 := decide_eq_false X; clear X
 obtain ⟨ji8, hji8⟩ : ∃ j_ : Int, (wrap64 ((rd D a2) - 2)) = j_ := ⟨_, rfl⟩
 replace H : (if 0 ≤ (ji8) then (if (ji8) < (d.length : Int) then (some (rd d (ji8))) else (none)) else (none)) = some r := by first | (rw [hji8] at H; exact H) | (simp only [hji8] at H ⊢; exact H)
 have hji8w : (IntKind.i64.wrap ((rd D a2) - 2)) = ji8 := (iQ _).trans hji8
 replace H := zid H; obtain ⟨b0, H⟩ := H
 replace H := zif H; obtain ⟨a0, H⟩ := H; have a7 := decide_eq_true a0; clear a0; obtain rfl := fF H
 go_enter Tryz.func27, Tryz.ntmps27
 go_wp2_with (first | ((with_reducible refine fP (N := 3) rfl ?_); refine fS zo (N := 3) zo (cs := #[.slice s g.length u, .slice v i.length x, .slice y j.length z, .slice A d.length B]) (t := 31) zh ?_; intro c hg a1 hbox hb; refine zG4 (eZ (zg_1 HB.o) hb) (hbox) ((by rw [hg]; exact (eV (zg_1 HB.o)) : w.heap.size ≤ c)) ((by rw [hg]; exact (eV (zg_1 HB.o)) : w.heap.size ≤ c)) ?_; clear HB; intro HB Za Zc Zb; clear hb hbox hg; have a : 0 ≤ (a2 : Int) := zd; have b : a2 < (D.length : Int) := zd; obtain ⟨q, l, hx113_0⟩ := gY E.o a2 a b; cases l; replace hx113_0 := (HB.o.cell (eU w _ hx113_0)).trans hx113_0; replace a := eq_true a; replace b := eq_true b; obtain ⟨_, _, _, _, _, _, _, _⟩ := zb4 Za.o; have m : 0 ≤ (a2 : Int) := zd; have n : a2 < (D.length : Int) := zd; obtain ⟨F, G, hx114_0⟩ := gY E.o a2 m n; obtain rfl : q = F := (by injection G); replace hx114_0 := (HB.o.cell (eU w _ hx114_0)).trans hx114_0; replace m := eq_true m; replace n := eq_true n; have o : 0 ≤ ((ji8) : Int) := zd; have p : (ji8) < (d.length : Int) := zd; obtain ⟨V, I, hx115_0⟩ := gY Zd.o (ji8) o p; cases I; replace hx115_0 := (HB.o.cell (eU w _ hx115_0)).trans hx115_0; replace o := eq_true o; replace p := eq_true p))
 repeat (go_quiet (first | ((with_reducible refine fP (N := 3) rfl ?_); refine fS zo (N := 3) zo (cs := #[.slice s g.length u, .slice v i.length x, .slice y j.length z, .slice A d.length B]) (t := 31) zh ?_; intro c hg a1 hbox hb; refine zG4 (eZ (zg_1 HB.o) hb) (hbox) ((by rw [hg]; exact (eV (zg_1 HB.o)) : w.heap.size ≤ c)) ((by rw [hg]; exact (eV (zg_1 HB.o)) : w.heap.size ≤ c)) ?_; clear HB; intro HB Za Zc Zb; clear hb hbox hg; have a : 0 ≤ (a2 : Int) := zd; have b : a2 < (D.length : Int) := zd; obtain ⟨q, l, hx113_0⟩ := gY E.o a2 a b; cases l; replace hx113_0 := (HB.o.cell (eU w _ hx113_0)).trans hx113_0; replace a := eq_true a; replace b := eq_true b; obtain ⟨_, _, _, _, _, _, _, _⟩ := zb4 Za.o; have m : 0 ≤ (a2 : Int) := zd; have n : a2 < (D.length : Int) := zd; obtain ⟨F, G, hx114_0⟩ := gY E.o a2 m n; obtain rfl : q = F := (by injection G); replace hx114_0 := (HB.o.cell (eU w _ hx114_0)).trans hx114_0; replace m := eq_true m; replace n := eq_true n; have o : 0 ≤ ((ji8) : Int) := zd; have p : (ji8) < (d.length : Int) := zd; obtain ⟨V, I, hx115_0⟩ := gY Zd.o (ji8) o p; cases I; replace hx115_0 := (HB.o.cell (eU w _ hx115_0)).trans hx115_0; replace o := eq_true o; replace p := eq_true p)); try go_wp2_with (first | ((with_reducible refine fP (N := 3) rfl ?_); refine fS zo (N := 3) zo (cs := #[.slice s g.length u, .slice v i.length x, .slice y j.length z, .slice A d.length B]) (t := 31) zh ?_; intro c hg a1 hbox hb; refine zG4 (eZ (zg_1 HB.o) hb) (hbox) ((by rw [hg]; exact (eV (zg_1 HB.o)) : w.heap.size ≤ c)) ((by rw [hg]; exact (eV (zg_1 HB.o)) : w.heap.size ≤ c)) ?_; clear HB; intro HB Za Zc Zb; clear hb hbox hg; have a : 0 ≤ (a2 : Int) := zd; have b : a2 < (D.length : Int) := zd; obtain ⟨q, l, hx113_0⟩ := gY E.o a2 a b; cases l; replace hx113_0 := (HB.o.cell (eU w _ hx113_0)).trans hx113_0; replace a := eq_true a; replace b := eq_true b; obtain ⟨_, _, _, _, _, _, _, _⟩ := zb4 Za.o; have m : 0 ≤ (a2 : Int) := zd; have n : a2 < (D.length : Int) := zd; obtain ⟨F, G, hx114_0⟩ := gY E.o a2 m n; obtain rfl : q = F := (by injection G); replace hx114_0 := (HB.o.cell (eU w _ hx114_0)).trans hx114_0; replace m := eq_true m; replace n := eq_true n; have o : 0 ≤ ((ji8) : Int) := zd; have p : (ji8) < (d.length : Int) := zd; obtain ⟨V, I, hx115_0⟩ := gY Zd.o (ji8) o p; cases I; replace hx115_0 := (HB.o.cell (eU w _ hx115_0)).trans hx115_0; replace o := eq_true o; replace p := eq_true p)))
 go_ret
 exact ⟨by first | rfl | (simp [errW_none, errW_some] <;> rfl) | (simp only [← hji8]; first | rfl | (simp [errW_none, errW_some] <;> rfl)) | (simp [*, errW_none, errW_some] <;> rfl), zg_2 HB.o Zb.o⟩
def bJ.l0 : Nat → List Int → List Int → Int → Int → List Int → List Int → List (S60) → List Int → Option (List Int)
  | 0, _, _, _, _, _, _, _, _ => none
  | k + 1, x0, x4, x8, x9, x117000, x117001, x117002, x117003 => if x9 < x8 then ((cX.f x117000 x117001 x117002 x117003 x0 x9).bind fun t120 => (if x4.length < 17592186044416 then (bJ.l0 k x0 (x4 ++ [t120]) x8 (wrap64 (x9 + 1)) x117000 x117001 x117002 x117003) else (none))) else (some x4)
def bJ.f (k : Nat) (l0 : List Int) (l1_0 : List Int) (l1_1 : List Int) (l1_2 : List (S60)) (l1_3 : List Int) : Option (List Int) := bJ.l0 k l0 (([] : List Int)) (l0.length : Int) 0 l1_0 l1_1 l1_2 l1_3
set_option maxHeartbeats 8000000 in
set_option maxRecDepth 100000 in
theorem bJ.calls (k : Nat) (A0 : Option Addr) (c0 : Nat) (m : List Int) (n : Option Addr) (p : Nat) (a : List Int) (q : Option Addr) (s : Nat) (c : List Int) (t : Option Addr) (u : Nat) (d : List (S60)) (v : Option Addr) (x : Nat) (i : List Int) (r : List Int) (w : World) (Y : Kd.C (fG .i64) w A0 m.length m) (Z : m.length ≤ c0) (E : Kd.C (fG .i64) w n a.length a) (F : a.length ≤ p) (G : Kd.C (fG .i64) w q c.length c) (I : c.length ≤ s) (J : Kd.C k60 w t d.length d) (L : d.length ≤ u) (M : Kd.C (fG .i64) w v i.length i) (O : i.length ≤ x) {l : Nat} (hM_ : w.heap[l]? = some (.cells #[.slice n a.length p, .slice q c.length s, .slice t d.length u, .slice v i.length x] 31 (0, 0))) (h : bJ.f k m a c d i = some r) :
    Calls fM 26 #[.slice A0 m.length c0, .pointer (some ⟨l, 0, none⟩)] w fun e w' => ∃ a0 : Value, e = .returned (a0) ∧ Kd.R (fG .i64) 3 w' w.heap.size (fun _ => True) a0 r ∧ Below w.heap.size w w' := by
 have hu31 := fW; have a7 := zm Y; have a8 := zm Z; clear Y Z; have Zc := zm E; have Zd := zm F; clear E F; have Ze := zm G; have Zf := zm I; clear G I; have Zg := zm J; have Zh := zm L; clear J L; have Zi := zm M; have Zj := zm O; clear M O; have Za := zm hM_; clear hM_; have HB := zm (fX w.heap.size w)
 have H : (bJ.l0 k m (([] : List Int)) (m.length : Int) 0 a c d i) = some r := h
 clear h
 obtain ⟨U, z⟩ : ∃ y_ : List Int, y_ = (([] : List Int)) := ⟨_, rfl⟩
 replace H : (bJ.l0 k m U (m.length : Int) 0 a c d i) = some r := zy H z
 have S := zm z; clear z
 have H' := zm H
 clear H
 go_enter Tryz.func26, Tryz.ntmps26
 go_wp2_with (first | ((with_reducible refine fP (N := 6) rfl ?_); refine Kd.R_lit (fG .i64) _ 3 ?hg (N := 6) ?hd (xs := ([] : List Int)) (inner := []) (ok := fun _ => True) (okp := fun _ => True) ?hr ?hp (fun _ hk => hk) trivial (fX _ _) (fQ _) (by simp) ?_; (case hd => rfl); (case hg => rfl); (case hr => first | (go_simp; done) | (go_simp; rfl)); (case hp => exact (Reps.none _ _)); intro b0 w4 D hb hg_ hnew_; clear hg_ hnew_; (first | rw [← S.o] at D | (simp only [gX] at D; rw [← S.o] at D)); refine zG3 (fL D (eV (zg_1 HB.o))) (fB (g := l) (o := .cells #[.slice n a.length p, .slice q c.length s, .slice t d.length u, .slice v i.length x] 31 (0, 0)) (zg_3 Za.o) hb) (eZ (zg_1 HB.o) hb) ?_; clear Za HB; intro Zk Za HB; clear hb D))
 go_loopg [4, 9] k (fun kq v4 v9 w' => ∃ (y : List Int) (j : Int), v9 = .int .i64 j ∧ Aside0 (bJ.l0 kq m y (m.length : Int) j a c d i = some r) ∧ Aside0 (kq ≤ k) ∧ Aside0 (Kd.R (fG .i64) 3 w' w.heap.size (fun _ => True) v4 y) ∧ Aside0 (w'.heap[l]? = some (.cells #[(.slice n a.length p), (.slice q c.length s), (.slice t d.length u), (.slice v i.length x)] 31 (0, 0))) ∧ Aside0 (Below w.heap.size w w'))
 case atStart => exact ⟨(U), (0), zr, H', ⟨fQ _⟩, ⟨zlR Zk.o⟩, ⟨zl Za.o⟩, ⟨zg_1 HB.o⟩⟩
 case round =>
  clear H'
  try clear c1
  try clear c2
  try clear p2
  obtain ⟨y, j, rfl, HA, a1, Zb, Za, HB⟩ := hrel
  cases gk with
  | zero => exact absurd HA.o (by simp [bJ.l0])
  | succ k1 =>
   have H := HA.o; clear HA
   simp only [bJ.l0] at H
   by_cases T : j < (m.length : Int)
   rotate_left
   ·rw [if_neg T] at H
    have a5 := decide_eq_false T; clear T; obtain rfl := fF H
    go_wp2
    go_ret
    exact ⟨_, ze, by (with_reducible repeat (first | apply fY | apply fZ | apply fK)); exact Zb.o, zg_1 HB.o⟩
   rw [if_pos T] at H; have a5 := decide_eq_true T; clear T; replace H := eW.mp H
   obtain ⟨A, a2, H⟩ := H
   try dsimp only at H
   have A7 := zm a2; clear a2
   replace H := zif H; obtain ⟨c8, H⟩ := H; have a6 := zm c8; clear c8
   obtain ⟨V, B⟩ : ∃ y_ : List Int, y_ = (y ++ [A]) := ⟨_, rfl⟩
   replace H : (bJ.l0 k1 m V (m.length : Int) (wrap64 (j + 1)) a c d i) = some r := zy H B
   have X := zm B; clear B
   have H' := zm H
   clear H
   obtain ⟨_, _, _, _, _, _, _, _⟩ := zb4 Za.o
   go_wp2_with (first | ((with_reducible refine fJ (f := 27) rfl ?_); refine gU (some 16) rfl rfl Tryz.func27 (by kernel_rfl) rfl #[.agg #[.slice n a.length p, .slice q c.length s, .slice t d.length u, .slice v i.length x], .slice A0 m.length c0, .int .i64 j] rfl zq ?_; (with_reducible refine (cX.calls _ _ a _ _ c _ _ d _ _ i _ _ m j A _ ?_ ?_ ?_ ?_ ?_ ?_ ?_ ?_ ?_ ?_ A7.o).mono ?_); exact zC (fE Zc.o HB.o); exact Zd.o; exact zC (fE Ze.o HB.o); exact Zf.o; exact zC (fE Zg.o HB.o); exact Zh.o; exact zC (fE Zi.o HB.o); exact Zj.o; exact zC (fE a7.o HB.o); exact a8.o; rintro e b5 ⟨rfl, hb⟩; refine ⟨_, rfl, ?_⟩; refine zG3 (fI (zg_6 Zb.o) hb) (fB (g := l) (o := .cells #[.slice n a.length p, .slice q c.length s, .slice t d.length u, .slice v i.length x] 31 (0, 0)) (zg_3 Za.o) hb) (eZ (zg_1 HB.o) hb) ?_; clear Zb Za HB; intro Zb Za HB; (try clear hb); (try clear hb2); (try clear hk); (try clear hi)) | ((with_reducible refine gate_builtin (b := .append) (xs := #[.tmp 12, .tmp 17]) rfl ?_); at_builtin; refine Kd.R_append (fG .i64) (w0 := w) w.heap.size rfl (.tmp 12) (.tmp 17) 23 3 (.int .i64 0) 8 rfl Tryz.underlying23 info3 rfl (by decide) (by omega) u4 y A [.int .i64 A] (fun _ => True) (fun _ => False) rfl rfl ?aP (fun _ hk => hk.elim) ?aF ?aO ?aB ?aS ?aL ?_; (case aP => exact rfl); (case aB => exact (zg_1 HB.o)); (case aF => exact (fun _ _ => trivial)); (case aO => exact (zg_6 Zb.o)); (case aS => exact (eV (zg_1 HB.o))); (case aL => have := a6.o; omega); intro b4 b6 ho hb hg hat; rw [← X.o] at ho; refine zG3 (gW (g := l) (o := .cells #[.slice n a.length p, .slice q c.length s, .slice t d.length u, .slice v i.length x] 31 (0, 0)) (zg_3 Za.o) hg (gJ Zb.o Za.o (by decide))) (hb) (ho) ?_; clear Zb Za HB; intro Za HB Zl; clear ho hb hg hat))
   go_roundg k1
   case measure => have := a1.o; omega
   case rel => exact ⟨(V), (wrap64 (j + 1)), zr, H', ⟨by have := a1.o; omega⟩, ⟨zlR Zl.o⟩, ⟨zl Za.o⟩, ⟨zg_1 HB.o⟩⟩
def aX.l0 : Nat → List (S60) → Int → Int → List Int → List Int → List (S60) → List Int → List Int → List (S53) → Option (List Int × (List (S53)))
  | 0, _, _, _, _, _, _, _, _, _ => none
  | k + 1, x14, x15, x16, x188000, x188001, x188002, x188003, x193000, x193001 => if x16 < x15 then (if 0 ≤ x16 then (if x16 < (x14.length : Int) then ((bJ.f k ((aH x14 x16).f1) x188000 x188001 x188002 x188003).bind fun t195 => (if x193001.length < 3518437208883 then (aX.l0 k x14 x15 (wrap64 (x16 + 1)) x188000 x188001 x188002 x188003 x193000 (x193001 ++ [(⟨(aH x14 x16).f0, t195⟩ : S53)])) else (none))) else (none)) else (none)) else (some (x193000, x193001))
def aX.f (k : Nat) (l0_0 : List Int) (l0_1 : List Int) (l0_2 : List (S60)) (l0_3 : List Int) : Option (List Int × (List (S53))) := (bJ.f k l0_1 l0_0 l0_1 l0_2 l0_3).bind fun t189 => (aX.l0 k l0_2 (l0_2.length : Int) 0 l0_0 l0_1 l0_2 l0_3 t189 ([] : List (S53)))
def aX.T6 : Bool × List (List Nat × List Nat) := (true, [([], []), ([0], [0]), ([], []), ([2], [2]), ([], []), ([], []), ([5], [5]), ([4, 6], [4, 6]), ([3, 7], [3, 7]), ([8], [8]), ([1, 9, 7], [1, 9]), ([0, 1, 2, 3, 4, 5, 6, 7, 8, 9, 10], []), ([11, 10, 10, 0, 1, 2, 3, 4, 5, 6, 7, 8, 9, 10], [10, 11])])
def aX.B6 : List Nat := [0, 1, 0, 4, 0, 0, 32, 112, 252, 508, 1023, 2047, 4095]
theorem aX.tab6 : rtab .any (opsOf Tryz.f13 6) = aX.T6 := by kernel_rfl
theorem aX.bits6 : waitsOk aX.T6.2 aX.B6 = true := by kernel_rfl
set_option maxHeartbeats 8000000 in
set_option maxRecDepth 100000 in
theorem aX.calls (k : Nat) (B : Option Addr) (D : Nat) (r : List Int) (z : Option Addr) (A : Nat) (m : List Int) (L : Option Addr) (E : Nat) (a : List (S60)) (F : Option Addr) (G : Nat) (s : List Int) (r1 : List Int) (r2 : List (S53)) (w : World) (b2 : Kd.C (fG .i64) w B r.length r) (b3 : r.length ≤ D) (b4 : Kd.C (fG .i64) w z m.length m) (b5 : m.length ≤ A) (b6 : Kd.C k60 w L a.length a) (b7 : a.length ≤ E) (b8 : Kd.C (fG .i64) w F s.length s) (b9 : s.length ≤ G) (h : aX.f k r m a s = some (r1, r2)) :
    Calls fM 13 #[.agg #[.slice B r.length D, .slice z m.length A, .slice L a.length E, .slice F s.length G]] w fun e w' => ∃ c0 d4 : Value, e = .returned (.agg #[c0, d4]) ∧ Kd.R (fG .i64) 3 w' w.heap.size (fun _ => True) c0 r1 ∧ Kd.S k53 53 w' w.heap.size (fun k_ => some k_ ≠ ob c0) d4 r2 ∧ Below w.heap.size w w' := by
 have hu31 := fW; have hu26 := iN; have hu60 := Tryz.underlying60; have hu53 := lQ; have ZD := zm b2; have ZE := zm b3; clear b2 b3; have Zy := zm b4; have Zz := zm b5; clear b4 b5; have ZA := zm b6; have ZF := zm b7; clear b6 b7; have ZG := zm b8; have ZH := zm b9; clear b8 b9; have HB := zm (fX w.heap.size w); have H := h
 unfold aX.f at H
 clear h; replace H := eW.mp H
 obtain ⟨q, d5, H⟩ := H
 try dsimp only at H
 have A2 := zm d5; clear d5
 have H' := zm H
 clear H
 go_enter Tryz.func13, Tryz.ntmps13
 go_wp2_with (first | ((with_reducible refine fP (N := 1) rfl ?_); refine fS zo (N := 1) zo (cs := #[.slice B r.length D, .slice z m.length A, .slice L a.length E, .slice F s.length G]) (t := 31) zh ?_; intro d hg w3 hbox hb; refine zG4 (eZ (zg_1 HB.o) hb) (hbox) ((by rw [hg]; exact (eV (zg_1 HB.o)) : w.heap.size ≤ d)) ((by rw [hg]; exact (eV (zg_1 HB.o)) : w.heap.size ≤ d)) ?_; clear HB; intro HB Za ZJ Zg; clear hb hbox hg) | ((with_reducible refine fP (N := 2) rfl ?_); refine fS zo (N := 2) zo (cs := #[.slice none 0 0, .slice none 0 0]) (t := 26) zh ?_; intro j hg w4 hbox hb; refine zG7 (fB (g := d) (o := .cells #[.slice B r.length D, .slice z m.length A, .slice L a.length E, .slice F s.length G] 31 (0, 0)) (zg_3 Za.o) hb) (eZ (zg_2 HB.o Zg.o) hb) (hbox) ((by rw [hg]; exact (eV (zg_2 HB.o Zg.o)) : w.heap.size ≤ j)) ((by rw [hg]; exact (eV (zg_2 HB.o Zg.o)) : w.heap.size ≤ j)) ((by rw [hg]; exact gN (hO (g := d) (o := .cells #[.slice B r.length D, .slice z m.length A, .slice L a.length E, .slice F s.length G] 31 (0, 0)) (zg_3 Za.o)) : d ≠ j)) ((by rw [hg]; exact gT (hO (g := d) (o := .cells #[.slice B r.length D, .slice z m.length A, .slice L a.length E, .slice F s.length G] 31 (0, 0)) (zg_3 Za.o)) : j ≠ d)) ?_; clear Za HB; intro Za HB Ze ZK Zh Zq Zr; clear hb hbox hg; have h4 := Zq.o; have h5 := Zr.o; obtain ⟨_, _, _, _, _, _, _, _⟩ := zb4 Za.o) | ((with_reducible refine fP (N := 11) rfl ?_); refine goesV (some 11) rfl rfl Tryz.func26 (by kernel_rfl) rfl #[.slice z m.length A, .pointer (some ⟨d, 0, none⟩)] rfl (cap := #[.pointer (some ⟨d, 0, none⟩)]) ?hx ?hargs ?_; (case hx => rfl); (case hargs => simp [lY]); (with_reducible refine (bJ.calls k _ _ m _ _ r _ _ m _ _ a _ _ s q _ ?_ ?_ ?_ ?_ ?_ ?_ ?_ ?_ ?_ ?_ (zg_3 Za.o) A2.o).mono ?_); exact zC (fE Zy.o HB.o); exact Zz.o; exact zC (fE ZD.o HB.o); exact ZE.o; exact zC (fE Zy.o HB.o); exact Zz.o; exact zC (fE ZA.o HB.o); exact ZF.o; exact zC (fE ZG.o HB.o); exact ZH.o; rintro e w7 ⟨h6, rfl, a2, hb⟩; refine ⟨_, rfl, ?_⟩; refine zG4 (fL a2 (eV (zg_5 HB.o Zg.o Zh.o))) (fB (g := d) (o := .cells #[.slice B r.length D, .slice z m.length A, .slice L a.length E, .slice F s.length G] 31 (0, 0)) (zg_3 Za.o) hb) (fB (g := j) (o := .cells #[.slice none 0 0, .slice none 0 0] 26 (0, 0)) (zg_3 Ze.o) hb) (eZ (zg_5 HB.o Zg.o Zh.o) hb) ?_; clear Za Ze HB; intro Zu Za Ze HB; (try clear hb); (try clear hb2); (try clear hk); (try clear hi); (try clear a2); obtain ⟨I, J, rfl⟩ := fA Zu.o) | ((with_reducible refine fP (N := 4) rfl ?_); refine fS zo (N := 4) zo (cs := #[.slice none 0 0, .slice none 0 0]) (t := 26) zh ?_; intro l hg w9 hbox hb; refine zG11 (fI (zg_6 Zu.o) hb) (fB (g := d) (o := .cells #[.slice B r.length D, .slice z m.length A, .slice L a.length E, .slice F s.length G] 31 (0, 0)) (zg_3 Za.o) hb) (fB (g := j) (o := .cells #[.slice none 0 0, .slice none 0 0] 26 (0, 0)) (zg_3 Ze.o) hb) (eZ (zg_5 HB.o Zg.o Zh.o) hb) (hbox) ((by rw [hg]; exact (eV (zg_5 HB.o Zg.o Zh.o)) : w.heap.size ≤ l)) ((by rw [hg]; exact (eV (zg_5 HB.o Zg.o Zh.o)) : w.heap.size ≤ l)) ((by rw [hg]; exact gN (hO (g := d) (o := .cells #[.slice B r.length D, .slice z m.length A, .slice L a.length E, .slice F s.length G] 31 (0, 0)) (zg_3 Za.o)) : d ≠ l)) ((by rw [hg]; exact gT (hO (g := d) (o := .cells #[.slice B r.length D, .slice z m.length A, .slice L a.length E, .slice F s.length G] 31 (0, 0)) (zg_3 Za.o)) : l ≠ d)) ((by rw [hg]; exact gN (hO (g := j) (o := .cells #[.slice none 0 0, .slice none 0 0] 26 (0, 0)) (zg_3 Ze.o)) : j ≠ l)) ((by rw [hg]; exact gT (hO (g := j) (o := .cells #[.slice none 0 0, .slice none 0 0] 26 (0, 0)) (zg_3 Ze.o)) : l ≠ j)) ?_; clear Zu Za Ze HB; intro Zu Za Ze HB Zd ZL Zk Zi Zm Zj Zn; clear hb hbox hg; have f4 := Zm.o; have f5 := Zi.o; have f6 := Zn.o; have f7 := Zj.o; obtain ⟨_, _, _, _⟩ := zb2 Zd.o; obtain ⟨_, _, _, _, _, _, _, _⟩ := zb4 Za.o))
 go_loopg [16] k (fun kq e8 w' => ∃ (b : Int) (y : List (S53)) (u193001 : Value), e8 = .int .i64 b ∧ Aside0 (aX.l0 kq a (a.length : Int) b r m a s q y = some (r1, r2)) ∧ Aside0 (kq ≤ k) ∧ Aside0 (Kd.R (fG .i64) 3 w' w.heap.size (fun _ => True) (.slice I q.length J) q) ∧ Aside0 (Kd.S k53 53 w' w.heap.size (fun k_ => some k_ ≠ ob ((.slice I q.length J))) u193001 y) ∧ Aside0 (w'.heap[d]? = some (.cells #[(.slice B r.length D), (.slice z m.length A), (.slice L a.length E), (.slice F s.length G)] 31 (0, 0))) ∧ Aside0 (w'.heap[j]? = some (.cells #[(.slice none 0 0), (.slice none 0 0)] 26 (0, 0))) ∧ Aside0 (w'.heap[l]? = some (.cells #[(.slice I q.length J), u193001] 26 (0, 0))) ∧ Aside0 (Below w.heap.size w w'))
 case atStart => exact ⟨(0), (([] : List (S53))), (.slice none 0 0), zr, H', ⟨fQ _⟩, ⟨by (with_reducible repeat (first | apply fY | apply fZ | apply fK)); exact eX (fR (p := ⟨l, 1, none⟩) (fR (p := ⟨l, 0, none⟩) (fD Zu.o Zd.o (by decide)) (fun _ hk => hk.2) (.slice I q.length J)) (fun _ hk => hk.2) (.slice none 0 0)) (fun _ hk => trivial)⟩, ⟨by first | exact Kd.S_nil _ _ _ _ _ | exact Kd.N_nil _ _ _ _ _ | exact Kd.V_nil _ _ _ _ _ | exact Kd.Q_nil _ _ _ _ _ | exact Kd.R_nil _ _ _ _ _⟩, ⟨by (with_reducible repeat (first | refine gG ?_ _ | refine fU ?_ | refine fV ?_ _)); refine kE ?_ Zi.o _; (with_reducible repeat (first | refine gG ?_ _ | refine fU ?_ | refine fV ?_ _)); refine kE ?_ Zi.o _; (with_reducible repeat (first | refine gG ?_ _ | refine fU ?_ | refine fV ?_ _)); exact Za.o⟩, ⟨by (with_reducible repeat (first | refine gG ?_ _ | refine fU ?_ | refine fV ?_ _)); refine kE ?_ Zj.o _; (with_reducible repeat (first | refine gG ?_ _ | refine fU ?_ | refine fV ?_ _)); refine kE ?_ Zj.o _; (with_reducible repeat (first | refine gG ?_ _ | refine fU ?_ | refine fV ?_ _)); exact Ze.o⟩, ⟨by (with_reducible repeat (first | refine gG ?_ _ | refine fU ?_ | refine fV ?_ _)); refine jS (cs := #[.slice I q.length J, .slice none 0 0]) ?_ 1 _ rfl; (with_reducible repeat (first | refine gG ?_ _ | refine fU ?_ | refine fV ?_ _)); refine jS (cs := #[.slice none 0 0, .slice none 0 0]) ?_ 0 _ rfl; (with_reducible repeat (first | refine gG ?_ _ | refine fU ?_ | refine fV ?_ _)); exact Zd.o⟩, ⟨zg_8 HB.o Zg.o Zh.o Zk.o⟩⟩
 case round =>
  clear H'
  try clear c1
  try clear c2
  try clear p2
  try clear c5
  try clear i0
  try clear i1
  try clear i2
  obtain ⟨b, y, u193001, rfl, HA, d6, Zc, Zb, Za, Ze, Zd, HB⟩ := hrel
  cases gk with
  | zero => exact absurd HA.o (by simp [aX.l0])
  | succ k1 =>
   have H := HA.o; clear HA
   simp only [aX.l0] at H
   by_cases a4 : b < (a.length : Int)
   rotate_left
   ·rw [if_neg a4] at H
    have d1 := decide_eq_false a4; clear a4
    simp only [gC, gP] at H
    obtain ⟨rfl, rfl⟩ := H
    have f8 := Zm.o; have f9 := Zi.o; have g0 := Zn.o; have g1 := Zj.o
    obtain ⟨_, _, _, _⟩ := zb2 Zd.o
    have g2 := Zr.o; have g3 := Zq.o
    obtain ⟨_, _, _, _⟩ := zb2 Ze.o
    obtain ⟨a6, a7, e0⟩ := iF Zb.o
    subst e0
    go_wp2
    refine iD (results_cell_row rfl _ _ j 26 #[.slice I q.length J, .slice a6 y.length a7] (0, 0) _ rfl (zp2 Ze.o) iN rfl (by kernel_rfl)) rfl ?_
    exact ⟨_, _, ze, by (with_reducible repeat (first | apply fY | apply fZ | apply fK)); exact eX (fR (p := ⟨j, 1, none⟩) (fR (p := ⟨j, 0, none⟩) (fD Zc.o Ze.o (by decide)) (fun _ hk => hk.2) (.slice I q.length J)) (fun _ hk => hk.2) (.slice a6 y.length a7)) (fun _ hk => trivial), by (with_reducible repeat (first | apply jA | apply jB | apply iU)); exact gQ (iW (p := ⟨j, 1, none⟩) (iW (p := ⟨j, 0, none⟩) (hX Zb.o Ze.o (by decide)) (fun _ hk => hk.2) (.slice I q.length J)) (fun _ hk => hk.2) (.slice a6 y.length a7)) (fun _ hk => hk.1), zg_8 HB.o Zg.o Zh.o Zk.o⟩
   rw [if_pos a4] at H; have d1 := decide_eq_true a4; clear a4
   replace H := zid H; obtain ⟨g4, H⟩ := H
   replace H := zif H; obtain ⟨d7, H⟩ := H; have g5 := decide_eq_true d7; clear d7; replace H := eW.mp H
   obtain ⟨a0, c3, H⟩ := H
   try dsimp only at H
   have e9 := zm c3; clear c3
   replace H := zif H; obtain ⟨d8, H⟩ := H; have d2 := zm d8; clear d8
   obtain ⟨a3, a5⟩ : ∃ y_ : List (S53), y_ = (y ++ [(⟨(aH a b).f0, a0⟩ : S53)]) := ⟨_, rfl⟩
   replace H : (aX.l0 k1 a (a.length : Int) (wrap64 (b + 1)) r m a s q a3) = some (r1, r2) := zy H a5
   have d3 := zm a5; clear a5
   have H' := zm H
   clear H
   have a8 : 0 ≤ (b : Int) := zd
   have a9 : b < (a.length : Int) := zd
   obtain ⟨M, u, x, e1, hx193_0, hx193_1, hl193_1, hi193_1⟩ := at_T60 ZA.o b a8 a9
   cases e1; replace hx193_0 := (HB.o.cell (eU w _ hx193_0)).trans hx193_0; replace hx193_1 := (HB.o.cell (eU w _ hx193_1)).trans hx193_1; have ZB := zm hi193_1; have ZC := zm hl193_1; clear hi193_1 hl193_1; replace a8 := eq_true a8; replace a9 := eq_true a9
   try go_wp2_with (first | ((with_reducible refine fP (N := 6) rfl ?_); refine fS zo (N := 6) zo (cs := #[.string (⟨#[]⟩ : ByteArray), .slice none 0 0]) (t := 60) zh ?_; intro c hg a1 hbox hb; refine zG15 (fI (zg_6 Zc.o) hb) (Kd.S_below (zg_7 Zb.o) hb) (fB (g := d) (o := .cells #[.slice B r.length D, .slice z m.length A, .slice (some M) a.length E, .slice F s.length G] 31 (0, 0)) (zg_3 Za.o) hb) (fB (g := j) (o := .cells #[.slice none 0 0, .slice none 0 0] 26 (0, 0)) (zg_3 Ze.o) hb) (fB (g := l) (o := .cells #[.slice I q.length J, u193001] 26 (0, 0)) (zg_3 Zd.o) hb) (eZ (zg_8 HB.o Zg.o Zh.o Zk.o) hb) (hbox) ((by rw [hg]; exact (eV (zg_8 HB.o Zg.o Zh.o Zk.o)) : w.heap.size ≤ c)) ((by rw [hg]; exact (eV (zg_8 HB.o Zg.o Zh.o Zk.o)) : w.heap.size ≤ c)) ((by rw [hg]; exact gN (hO (g := d) (o := .cells #[.slice B r.length D, .slice z m.length A, .slice (some M) a.length E, .slice F s.length G] 31 (0, 0)) (zg_3 Za.o)) : d ≠ c)) ((by rw [hg]; exact gT (hO (g := d) (o := .cells #[.slice B r.length D, .slice z m.length A, .slice (some M) a.length E, .slice F s.length G] 31 (0, 0)) (zg_3 Za.o)) : c ≠ d)) ((by rw [hg]; exact gN (hO (g := j) (o := .cells #[.slice none 0 0, .slice none 0 0] 26 (0, 0)) (zg_3 Ze.o)) : j ≠ c)) ((by rw [hg]; exact gT (hO (g := j) (o := .cells #[.slice none 0 0, .slice none 0 0] 26 (0, 0)) (zg_3 Ze.o)) : c ≠ j)) ((by rw [hg]; exact gN (hO (g := l) (o := .cells #[.slice I q.length J, u193001] 26 (0, 0)) (zg_3 Zd.o)) : l ≠ c)) ((by rw [hg]; exact gT (hO (g := l) (o := .cells #[.slice I q.length J, u193001] 26 (0, 0)) (zg_3 Zd.o)) : c ≠ l)) ?_; clear Zc Zb Za Ze Zd HB; intro Zc Zb Za Ze Zd HB Zf ZM Zs Zo Zw Zp Zx Zl Zt; clear hb hbox hg; have g6 := Zw.o; have g7 := Zo.o; have g8 := Zx.o; have g9 := Zp.o; have h0 := Zt.o; have h1 := Zl.o; obtain ⟨_, _, _, _⟩ := zb2 Zf.o))
   have O : Aside0 (Kd.R (fG .i64) 3 ((a1.setCell ⟨c, 0, none⟩ (.string ((aH a b).f0))).setCell ⟨c, 1, none⟩ (.slice u ((aH a b).f1).length x)) w.heap.size (fun _ => True) (.slice I q.length J) q) := ⟨by (with_reducible repeat (first | apply fY | apply fZ | apply fK)); exact eX (fR (p := ⟨c, 1, none⟩) (fR (p := ⟨c, 0, none⟩) (fD Zc.o Zf.o (by decide)) (fun _ hk => hk.2) (.string ((aH a b).f0))) (fun _ hk => hk.2) (.slice u ((aH a b).f1).length x)) (fun _ hk => trivial)⟩
   have T : Aside0 (Kd.S k53 53 ((a1.setCell ⟨c, 0, none⟩ (.string ((aH a b).f0))).setCell ⟨c, 1, none⟩ (.slice u ((aH a b).f1).length x)) w.heap.size (fun k_ => some k_ ≠ ob (.slice I q.length J)) u193001 y) := ⟨by (with_reducible repeat (first | apply jA | apply jB | apply iU)); exact gQ (iW (p := ⟨c, 1, none⟩) (iW (p := ⟨c, 0, none⟩) (hX Zb.o Zf.o (by decide)) (fun _ hk => hk.2) (.string ((aH a b).f0))) (fun _ hk => hk.2) (.slice u ((aH a b).f1).length x)) (fun _ hk => hk.1)⟩
   have U : Aside0 (((a1.setCell ⟨c, 0, none⟩ (.string ((aH a b).f0))).setCell ⟨c, 1, none⟩ (.slice u ((aH a b).f1).length x)).heap[d]? = some (.cells #[.slice B r.length D, .slice z m.length A, .slice (some M) a.length E, .slice F s.length G] 31 (0, 0))) := ⟨by (with_reducible repeat (first | refine gG ?_ _ | refine fU ?_ | refine fV ?_ _)); refine kE ?_ Zo.o _; (with_reducible repeat (first | refine gG ?_ _ | refine fU ?_ | refine fV ?_ _)); refine kE ?_ Zo.o _; (with_reducible repeat (first | refine gG ?_ _ | refine fU ?_ | refine fV ?_ _)); exact Za.o⟩
   have V : Aside0 (((a1.setCell ⟨c, 0, none⟩ (.string ((aH a b).f0))).setCell ⟨c, 1, none⟩ (.slice u ((aH a b).f1).length x)).heap[j]? = some (.cells #[.slice none 0 0, .slice none 0 0] 26 (0, 0))) := ⟨by (with_reducible repeat (first | refine gG ?_ _ | refine fU ?_ | refine fV ?_ _)); refine kE ?_ Zp.o _; (with_reducible repeat (first | refine gG ?_ _ | refine fU ?_ | refine fV ?_ _)); refine kE ?_ Zp.o _; (with_reducible repeat (first | refine gG ?_ _ | refine fU ?_ | refine fV ?_ _)); exact Ze.o⟩
   have X : Aside0 (((a1.setCell ⟨c, 0, none⟩ (.string ((aH a b).f0))).setCell ⟨c, 1, none⟩ (.slice u ((aH a b).f1).length x)).heap[l]? = some (.cells #[.slice I q.length J, u193001] 26 (0, 0))) := ⟨by (with_reducible repeat (first | refine gG ?_ _ | refine fU ?_ | refine fV ?_ _)); refine kE ?_ Zl.o _; (with_reducible repeat (first | refine gG ?_ _ | refine fU ?_ | refine fV ?_ _)); refine kE ?_ Zl.o _; (with_reducible repeat (first | refine gG ?_ _ | refine fU ?_ | refine fV ?_ _)); exact Zd.o⟩
   have Y : Aside0 (((a1.setCell ⟨c, 0, none⟩ (.string ((aH a b).f0))).setCell ⟨c, 1, none⟩ (.slice u ((aH a b).f1).length x)).heap[c]? = some (.cells #[.string ((aH a b).f0), .slice u ((aH a b).f1).length x] 60 (0, 0))) := ⟨by (with_reducible repeat (first | refine gG ?_ _ | refine fU ?_ | refine fV ?_ _)); refine jS (cs := #[.string ((aH a b).f0), .slice none 0 0]) ?_ 1 _ rfl; (with_reducible repeat (first | refine gG ?_ _ | refine fU ?_ | refine fV ?_ _)); refine jS (cs := #[.string (⟨#[]⟩ : ByteArray), .slice none 0 0]) ?_ 0 _ rfl; (with_reducible repeat (first | refine gG ?_ _ | refine fU ?_ | refine fV ?_ _)); exact Zf.o⟩
   have Z : Aside0 (Below w.heap.size w ((a1.setCell ⟨c, 0, none⟩ (.string ((aH a b).f0))).setCell ⟨c, 1, none⟩ (.slice u ((aH a b).f1).length x))) := ⟨zg_9 HB.o Zg.o Zh.o Zk.o Zs.o⟩
   (try clear Zc)
   (try clear Zb)
   (try clear Za)
   (try clear Ze)
   (try clear Zd)
   (try clear Zf)
   (try clear HB)
   generalize ((a1.setCell ⟨c, 0, none⟩ (.string ((aH a b).f0))).setCell ⟨c, 1, none⟩ (.slice u ((aH a b).f1).length x)) = f2 at O T U V X Y Z ⊢
   have Zc := O; have Zb := T; have Za := U; have Ze := V; have Zd := X; have Zf := Y; have HB := Z; clear O T U V X Y Z; have O := zm (fK Zc.o); have T := zm (iU Zb.o); have U := zm (fU Za.o); have V := zm (fU Ze.o); have X := zm (fU Zd.o); have Y := zm (fU Zf.o); have Z := zm (gA HB.o); clear Zc; clear Zb; clear Za; clear Ze; clear Zd; clear Zf; clear HB; have Zc := O; have Zb := T; have Za := U; have Ze := V; have Zd := X; have Zf := Y; have HB := Z; clear O T U V X Y Z
   refine start_ (n := 13) (S := fun w' => w'.cell? ⟨l, 0, none⟩ = some (.slice I q.length J) ∧ w'.cell? ⟨l, 1, none⟩ = some (u193001) ∧ w'.cell? ⟨c, 0, none⟩ = some (.string ((aH a b).f0)) ∧ w'.cell? ⟨c, 1, none⟩ = some (.slice u ((aH a b).f1).length x) ∧ w'.cell? ⟨d, 0, none⟩ = some (.slice B r.length D) ∧ w'.cell? ⟨d, 1, none⟩ = some (.slice z m.length A) ∧ w'.cell? ⟨d, 2, none⟩ = some (.slice (some M) a.length E) ∧ w'.cell? ⟨d, 3, none⟩ = some (.slice F s.length G)) (ds := [12]) #[ff, ff, ff, ff, ff, ff, ff, ff, ff, ff, ff, ff, ff] (by kernel_rfl) rfl rfl ⟨(eY Zd.o 0).trans rfl, (eY Zd.o 1).trans rfl, (eY Zf.o 0).trans rfl, (eY Zf.o 1).trans rfl, (eY Za.o 0).trans rfl, (eY Za.o 1).trans rfl, (eY Za.o 2).trans rfl, (eY Za.o 3).trans rfl⟩ (fun hHeld => ?_); refine kJ aX.tab6 aX.bits6 (fun HT_ HW_ => ?_)
   generalize f2.drew = i3 at Zc Zb Za Ze Zd Zf HB hHeld ⊢
   refine gR (i := 0) (N := some 20) #[tt, ff, ff, ff, ff, ff, ff, ff, ff, ff, ff, ff, ff] rfl rfl (gD HT_.o zk) (fun _ _ _ h => h) (.inl ⟨by rfl, zi⟩) zu ?_
   refine gR (i := 2) (N := some 22) #[tt, ff, tt, ff, ff, ff, ff, ff, ff, ff, ff, ff, ff] rfl rfl (gD HT_.o zk) (fun _ _ _ h => h) (.inl ⟨by rfl, zi⟩) zu ?_
   refine gR (i := 5) (N := some 25) #[tt, ff, tt, ff, ff, tt, ff, ff, ff, ff, ff, ff, ff] rfl rfl (gD HT_.o zk) (fun _ _ _ h => h) (.inl ⟨by rfl, zi⟩) zu ?_
   refine kA (i := 1) (N := some 21) #[tt, tt, tt, ff, ff, tt, ff, ff, ff, ff, ff, ff, ff] rfl rfl (hZ HT_.o HW_.o zk) (fun _ _ _ h => h) (.inl ⟨by rfl, zi8⟩) hHeld zu ?_
   refine kA (i := 3) (N := some 23) #[tt, tt, tt, tt, ff, tt, ff, ff, ff, ff, ff, ff, ff] rfl rfl (hZ HT_.o HW_.o zk) (fun _ _ _ h => h) (.inl ⟨by rfl, zi8⟩) hHeld zu ?_
   refine kA (i := 4) (N := some 24) #[tt, tt, tt, tt, tt, tt, ff, ff, ff, ff, ff, ff, ff] rfl rfl (hZ HT_.o HW_.o zk) (fun _ _ _ h => h) (.inl ⟨by rfl, zi8⟩) hHeld zu ?_
   refine kA (i := 6) (N := some 26) #[tt, tt, tt, tt, tt, tt, tt, ff, ff, ff, ff, ff, ff] rfl rfl (hZ HT_.o HW_.o zk) (fun _ _ _ h => h) (.inl ⟨by rfl, zi8⟩) hHeld zu ?_
   refine one_ (i := 7) (N := some 27) #[tt, tt, tt, tt, tt, tt, tt, tt, ff, ff, ff, ff, ff] rfl rfl (iS HT_.o zk) (by decide) (fun K hK => ?_)
   refine goesW Tryz.func26 (by kernel_rfl) rfl #[.slice u ((aH a b).f1).length x, .pointer (some ⟨d, 0, none⟩)] (by rfl) rfl rfl (cap := #[.pointer (some ⟨d, 0, none⟩)]) ?hx ?hargs ?_
   (case hx => rfl)
   (case hargs => simp [lY])
   with_reducible refine (bJ.calls k1 _ _ ((aH a b).f1) _ _ r _ _ m _ _ a _ _ s a0 _ ?side1 ?side2 ?side3 ?side4 ?side5 ?side6 ?side7 ?side8 ?side9 ?side10 (zg_3 Za.o) e9.o).mono ?_
   (case side1 => exact zC (fE ZB.o HB.o))
   (case side2 => exact ZC.o)
   (case side3 => exact zC (fE ZD.o HB.o))
   (case side4 => exact ZE.o)
   (case side5 => exact zC (fE Zy.o HB.o))
   (case side6 => exact Zz.o)
   (case side7 => exact zC (fE ZA.o HB.o))
   (case side8 => exact ZF.o)
   (case side9 => exact zC (fE ZG.o HB.o))
   (case side10 => exact ZH.o)
   rintro e i4 ⟨h7, rfl, a2, hb⟩
   refine ⟨_, rfl, ?_⟩
   have O := zm (Kd.R_elder' (zg_6 Zc.o) (fH a2) hb); have T := zm (Kd.S_elder' (zg_7 Zb.o) (fH a2) hb); have U := zm (fL (Kd.R_new' a2 (fO (zg_6 Zc.o))) (eV (zg_9 HB.o Zg.o Zh.o Zk.o Zs.o))); have V := zm (fB (g := d) (o := .cells #[.slice B r.length D, .slice z m.length A, .slice (some M) a.length E, .slice F s.length G] 31 (0, 0)) (zg_3 Za.o) hb); have X := zm (fB (g := j) (o := .cells #[.slice none 0 0, .slice none 0 0] 26 (0, 0)) (zg_3 Ze.o) hb); have Y := zm (fB (g := l) (o := .cells #[.slice I q.length J, u193001] 26 (0, 0)) (zg_3 Zd.o) hb); have Z := zm (fB (g := c) (o := .cells #[.string ((aH a b).f0), .slice u ((aH a b).f1).length x] 60 (0, 0)) (zg_3 Zf.o) hb); have d9 := zm (eZ (zg_9 HB.o Zg.o Zh.o Zk.o Zs.o) hb); clear Zc; clear Zb; clear Za; clear Ze; clear Zd; clear Zf; clear HB; have Zc := O; have Zb := T; have Zv := U; have Za := V; have Ze := X; have Zd := Y; have Zf := Z; have HB := d9; clear O T U V X Y Z d9
   (try clear hb)
   (try clear hb2)
   (try clear hk)
   (try clear hi)
   (try clear a2)
   obtain ⟨c4, c6, c7⟩ := fA Zv.o
   (first | subst c7 | (injection c7 with f1_ f2_ f3_; have f4_ := f1_.symm; have f5_ := f3_.symm; clear f1_ f2_ f3_; subst f4_; subst f5_))
   refine hK.out _ _ ⟨(eY Zd.o 0).trans rfl, (eY Zd.o 1).trans rfl, (eY Zf.o 0).trans rfl, (eY Zf.o 1).trans rfl, (eY Za.o 0).trans rfl, (eY Za.o 1).trans rfl, (eY Za.o 2).trans rfl, (eY Za.o 3).trans rfl⟩ (fun hHeld => ?_)
   clear hK K
   refine jV (a' := ?_) ?_ ?_
   rotate_left
   ·show gE _ (some 27) _ = _
    simp only [gE, zs, zz, zt, iQ, jF]
    rfl
   refine gR (i := 8) (N := some 28) #[tt, tt, tt, tt, tt, tt, tt, tt, tt, ff, ff, ff, ff] rfl rfl (gD HT_.o zk) (fun _ _ _ h => h) (.inl ⟨by rfl, zi⟩) zu ?_
   refine one_ (i := 9) (N := some 29) #[tt, tt, tt, tt, tt, tt, tt, tt, tt, tt, ff, ff, ff] rfl rfl (iS HT_.o zk) (by decide) (fun K hK => ?_)
   refine value_ (w1 := ?_) (v := ?_) (by rfl) rfl ?_ ?_
   rotate_left 2
   ·go_simp
    constructor
    ·rfl
    ·rfl
   refine hK.out _ _ ⟨(eY (fV Zd.o _) 0).trans rfl, (eY (fV Zd.o _) 1).trans rfl, (eY (fV Zf.o _) 0).trans rfl, (eY (fV Zf.o _) 1).trans rfl, (eY (fV Za.o _) 0).trans rfl, (eY (fV Za.o _) 1).trans rfl, (eY (fV Za.o _) 2).trans rfl, (eY (fV Za.o _) 3).trans rfl⟩ (fun hHeld => ?_)
   clear hK K
   refine jV (a' := ?_) ?_ ?_
   rotate_left
   ·show gE _ (some 29) _ = _
    simp only [gE, zs, zz, zt, iQ, jF]
    rfl
   refine one_ (i := 10) (N := some 30) #[tt, tt, tt, tt, tt, tt, tt, tt, tt, tt, tt, ff, ff] rfl rfl (iS HT_.o zk) (by decide) (fun K hK => ?_)
   refine Kd.S_append_step k53 (w0 := w) w.heap.size (by rfl) (.tmp 21) (.tmp 29) 24 53 (.agg #[(.string ⟨#[]⟩), (.slice none 0 0)]) 40 rfl Tryz.underlying24 info53 rfl (by decide) (by omega) u193001 y (⟨(aH a b).f0, a0⟩ : S53) [.string ((aH a b).f0), .slice c4 a0.length c6] (fun k_ => some k_ ≠ ob (.slice I q.length J)) (fun k_ => some k_ = ob (.slice c4 a0.length c6)) rfl rfl ?aP (fun k_ hk_ => ((eX (ok' := fun k_ => ((fun k_ => some k_ ≠ ob (.slice I q.length J))) k_ ∧ some k_ ≠ ob u193001) (Kd.R_apart' (Zv.o) (lR Zb.o) (by decide)) (fun k_ hk => ⟨hk.1.2, hk.2⟩))).1 k_ hk_.symm) ?aF ?aO ?aB ?aS ?aL ?_
   (case aP => exact k53_mkM _ _ _ (⟨(aH a b).f0, a0⟩ : S53) (eX (Kd.R_tight rfl (eX (ok' := fun k_ => ((fun k_ => some k_ ≠ ob (.slice I q.length J))) k_ ∧ some k_ ≠ ob u193001) (Kd.R_apart' (Zv.o) (lR Zb.o) (by decide)) (fun k_ hk => ⟨hk.1.2, hk.2⟩))) (fun _ h_ => h_)))
   (case aB => exact (zg_9 HB.o Zg.o Zh.o Zk.o Zs.o))
   (case aF => exact (fun k_ hk => gF (fO (zg_6 Zc.o)) k_ hk))
   (case aO => exact (by (with_reducible repeat (first | apply jA | apply jB | apply iU)); exact gQ Zb.o (fun k_ hk => ⟨hk.1, fun e_ => hk.2 e_⟩)))
   (case aS => exact (eV (zg_9 HB.o Zg.o Zh.o Zk.o Zs.o)))
   (case aL => have := d2.o; omega)
   intro h8 f3 ho hb hg hat
   rw [← d3.o] at ho
   have O := zm (Kd.R_over' (zg_6 Zc.o) (lR (zg_7 Zb.o)) (by decide) hg); have T := zm (gW (g := d) (o := .cells #[.slice B r.length D, .slice z m.length A, .slice (some M) a.length E, .slice F s.length G] 31 (0, 0)) (zg_3 Za.o) hg (Kd.S_ne Zb.o Za.o (by decide))); have U := zm (gW (g := j) (o := .cells #[.slice none 0 0, .slice none 0 0] 26 (0, 0)) (zg_3 Ze.o) hg (Kd.S_ne Zb.o Ze.o (by decide))); have V := zm (gW (g := l) (o := .cells #[.slice I q.length J, u193001] 26 (0, 0)) (zg_3 Zd.o) hg (Kd.S_ne Zb.o Zd.o (by decide))); have X := zm (gW (g := c) (o := .cells #[.string ((aH a b).f0), .slice u ((aH a b).f1).length x] 60 (0, 0)) (zg_3 Zf.o) hg (Kd.S_ne Zb.o Zf.o (by decide))); have Y := zm (hb); have Z := zm (ho); clear Zc; clear Za; clear Ze; clear Zd; clear Zf; clear HB; clear Zb; clear Zv; have Zc := O; have Za := T; have Ze := U; have Zd := V; have Zf := X; have HB := Y; have ZI := Z; clear O T U V X Y Z; clear ho hb hg hat
   obtain ⟨b0, b1, c8⟩ := iF ZI.o
   (first | subst c8 | (injection c8 with f1_ f2_ f3_; have f4_ := f1_.symm; have f5_ := f3_.symm; clear f1_ f2_ f3_; subst f4_; subst f5_))
   refine hK.out _ _ ⟨(eY Zd.o 0).trans rfl, (eY Zd.o 1).trans rfl, (eY Zf.o 0).trans rfl, (eY Zf.o 1).trans rfl, (eY Za.o 0).trans rfl, (eY Za.o 1).trans rfl, (eY Za.o 2).trans rfl, (eY Za.o 3).trans rfl⟩ (fun hHeld => ?_)
   clear hK K
   refine jV (a' := ?_) ?_ ?_
   rotate_left
   ·show gE _ (some 30) _ = _
    simp only [gE, zs, zz, zt, iQ, jF]
    rfl
   refine gR (i := 11) (N := some 31) #[tt, tt, tt, tt, tt, tt, tt, tt, tt, tt, tt, tt, ff] rfl rfl (gD HT_.o zk) (fun _ _ _ h => h) (.inl ⟨by rfl, zi⟩) zu ?_
   refine last_ (i := 12) (N := none) #[tt, tt, tt, tt, tt, tt, tt, tt, tt, tt, tt, tt, tt] rfl rfl (iS HT_.o zk) (by decide) (fun K hK => ?_)
   have h9 : f3.cell? ⟨l, 1, none⟩ = some (u193001) := (eY Zd.o 1).trans rfl
   have h2 := blk_frozen Zd.o 1; have e2 := Zi.o; have e3 := Zj.o; have e4 := Zt.o; have e5 := Zm.o; have e6 := Zn.o; have e7 := Zl.o
   refine skip_ (w1 := ?_) (by rfl) rfl ?_ ?_
   rotate_left
   ·go_simp
    rfl
   refine hK.out _ _ ?_
   clear hK K
   refine done_ (done_of HT_.o zk) ?_
   try go_wp2
   go_roundg k1
   case measure => have := d6.o; omega
   case rel => exact ⟨(wrap64 (b + 1)), (a3), (.slice b0 a3.length b1), zr, H', ⟨by have := d6.o; omega⟩, ⟨by (with_reducible repeat (first | apply fY | apply fZ | apply fK)); exact eX (fR (p := ⟨l, 1, none⟩) (fD Zc.o Zd.o (by decide)) (fun _ hk => hk.2) (.slice b0 a3.length b1)) (fun _ hk => trivial)⟩, ⟨by (with_reducible repeat (first | apply jA | apply jB | apply iU)); exact gQ (iW (p := ⟨l, 1, none⟩) (hX ZI.o Zd.o (by decide)) (fun _ hk => hk.2) (.slice b0 a3.length b1)) (fun _ hk => hk.1)⟩, ⟨by (with_reducible repeat (first | refine gG ?_ _ | refine fU ?_ | refine fV ?_ _)); refine kE ?_ Zi.o _; (with_reducible repeat (first | refine gG ?_ _ | refine fU ?_ | refine fV ?_ _)); exact Za.o⟩, ⟨by (with_reducible repeat (first | refine gG ?_ _ | refine fU ?_ | refine fV ?_ _)); refine kE ?_ Zj.o _; (with_reducible repeat (first | refine gG ?_ _ | refine fU ?_ | refine fV ?_ _)); exact Ze.o⟩, ⟨by (with_reducible repeat (first | refine gG ?_ _ | refine fU ?_ | refine fV ?_ _)); refine jS (cs := #[.slice I q.length J, u193001]) ?_ 1 _ rfl; (with_reducible repeat (first | refine gG ?_ _ | refine fU ?_ | refine fV ?_ _)); exact Zd.o⟩, ⟨zg_9 HB.o Zg.o Zh.o Zk.o Zs.o⟩⟩
def dB.f (k : Nat) (l0_0 : List Int) (l0_1 : List Int) (l0_2 : List (S60)) (l0_3 : List Int) : Option (List Int × (List (S53)) × Int) := (aJ.f k l0_0 l0_1 l0_2 l0_3).bind fun t203 => (if t203 = true then ((aX.f k l0_0 l0_1 l0_2 l0_3).bind fun bt204 => (some (bt204.1, bt204.2, 0))) else (some (([] : List Int), ([] : List (S53)), 1)))
set_option maxHeartbeats 8000000 in
set_option maxRecDepth 100000 in
theorem dB.calls (k : Nat) (n : Option Addr) (r : Nat) (b : List Int) (s : Option Addr) (x : Nat) (c : List Int) (y : Option Addr) (z : Nat) (i : List (S60)) (B : Option Addr) (D : Nat) (j : List Int) (r1 : List Int) (r2 : List (S53)) (r3 : Int) (w : World) (X : Kd.C (fG .i64) w n b.length b) (Y : b.length ≤ r) (Z : Kd.C (fG .i64) w s c.length c) (a0 : c.length ≤ x) (a1 : Kd.C k60 w y i.length i) (a2 : i.length ≤ z) (a3 : Kd.C (fG .i64) w B j.length j) (a4 : j.length ≤ D) (h : dB.f k b c i j = some (r1, r2, r3)) :
    Calls fM 4 #[.agg #[.slice n b.length r, .slice s c.length x, .slice y i.length z, .slice B j.length D]] w fun e w' => ∃ a6 b1 : Value, e = .returned (.tuple #[.agg #[a6, b1], .int .i64 r3]) ∧ Kd.R (fG .i64) 3 w' w.heap.size (fun _ => True) a6 r1 ∧ Kd.S k53 53 w' w.heap.size (fun k_ => some k_ ≠ ob a6) b1 r2 ∧ Below w.heap.size w w' := by
 have hu31 := fW; have hu26 := iN; have Zg := zm X; have Zh := zm Y; clear X Y; have Zi := zm Z; have Zj := zm a0; clear Z a0; have Zk := zm a1; have Zl := zm a2; clear a1 a2; have Zm := zm a3; have Zn := zm a4; clear a3 a4; have HB := zm (fX w.heap.size w); have H := h
 unfold dB.f at H
 clear h; replace H := eW.mp H
 obtain ⟨b6, b2, H⟩ := H
 try dsimp only at H
 have A2 := zm b2; clear b2
 by_cases c3 : b6 = true
 rotate_left
 ·replace c3 := hN.mpr c3
  subst c3
  replace H : (some (([] : List Int), ([] : List (S53)), 1)) = some (r1, r2, r3) := by rw [if_neg (show ¬ (false = true) by decide)] at H; exact H
  simp only [gC, gP] at H
  obtain ⟨rfl, rfl, rfl⟩ := H
  go_enter Tryz.func4, Tryz.ntmps4
  go_wp2_with (first | ((with_reducible refine fP (N := 1) rfl ?_); refine fS zo (N := 1) zo (cs := #[.slice n b.length r, .slice s c.length x, .slice y i.length z, .slice B j.length D]) (t := 31) zh ?_; intro l hg c7 hbox hb; refine zG4 (eZ (zg_1 HB.o) hb) (hbox) ((by rw [hg]; exact (eV (zg_1 HB.o)) : w.heap.size ≤ l)) ((by rw [hg]; exact (eV (zg_1 HB.o)) : w.heap.size ≤ l)) ?_; clear HB; intro HB Za Zq Zc; clear hb hbox hg) | ((with_reducible refine fP (N := 2) rfl ?_); refine fS zo (N := 2) zo (cs := #[.slice none 0 0, .slice none 0 0]) (t := 26) zh ?_; intro m hg c8 hbox hb; refine zG7 (fB (g := l) (o := .cells #[.slice n b.length r, .slice s c.length x, .slice y i.length z, .slice B j.length D] 31 (0, 0)) (zg_3 Za.o) hb) (eZ (zg_2 HB.o Zc.o) hb) (hbox) ((by rw [hg]; exact (eV (zg_2 HB.o Zc.o)) : w.heap.size ≤ m)) ((by rw [hg]; exact (eV (zg_2 HB.o Zc.o)) : w.heap.size ≤ m)) ((by rw [hg]; exact gN (hO (g := l) (o := .cells #[.slice n b.length r, .slice s c.length x, .slice y i.length z, .slice B j.length D] 31 (0, 0)) (zg_3 Za.o)) : l ≠ m)) ((by rw [hg]; exact gT (hO (g := l) (o := .cells #[.slice n b.length r, .slice s c.length x, .slice y i.length z, .slice B j.length D] 31 (0, 0)) (zg_3 Za.o)) : m ≠ l)) ?_; clear Za HB; intro Za HB Zb Zr Zf Zd Ze; clear hb hbox hg; have b8 := Zd.o; have b9 := Ze.o; obtain ⟨_, _, _, _, _, _, _, _⟩ := zb4 Za.o) | ((with_reducible refine fJ (f := 12) rfl ?_); refine gU (some 5) rfl rfl Tryz.func12 (by kernel_rfl) rfl #[.agg #[.slice n b.length r, .slice s c.length x, .slice y i.length z, .slice B j.length D]] rfl zq ?_; (with_reducible refine (aJ.calls k _ _ b _ _ c _ _ i _ _ j false _ ?_ ?_ ?_ ?_ ?_ ?_ ?_ ?_ A2.o).mono ?_); exact zC (fE Zg.o HB.o); exact Zh.o; exact zC (fE Zi.o HB.o); exact Zj.o; exact zC (fE Zk.o HB.o); exact Zl.o; exact zC (fE Zm.o HB.o); exact Zn.o; rintro e c9 ⟨rfl, hb⟩; refine ⟨_, rfl, ?_⟩; refine zG3 (fB (g := l) (o := .cells #[.slice n b.length r, .slice s c.length x, .slice y i.length z, .slice B j.length D] 31 (0, 0)) (zg_3 Za.o) hb) (fB (g := m) (o := .cells #[.slice none 0 0, .slice none 0 0] 26 (0, 0)) (zg_3 Zb.o) hb) (eZ (zg_5 HB.o Zc.o Zf.o) hb) ?_; clear Za Zb HB; intro Za Zb HB; (try clear hb); (try clear hb2); (try clear hk); (try clear hi); obtain ⟨_, _, _, _⟩ := zb2 Zb.o))
  refine iD (results_ct rfl _ _ m 26 #[.slice none 0 0, .slice none 0 0] (0, 0) _ rfl (zp2 Zb.o) iN rfl (by kernel_rfl)) rfl ?_
  exact ⟨_, _, ze, by first | exact Kd.R_nil _ _ _ _ _ | exact Kd.N_nil _ _ _ _ _ | exact Kd.V_nil _ _ _ _ _ | exact Kd.Q_nil _ _ _ _ _ | exact Kd.S_nil _ _ _ _ _, by first | exact Kd.S_nil _ _ _ _ _ | exact Kd.N_nil _ _ _ _ _ | exact Kd.V_nil _ _ _ _ _ | exact Kd.Q_nil _ _ _ _ _ | exact Kd.R_nil _ _ _ _ _, zg_5 HB.o Zc.o Zf.o⟩
 subst c3
 replace H : ((aX.f k b c i j).bind fun a5 => (some (a5.1, a5.2, 0))) = some (r1, r2, r3) := by rw [if_pos rfl] at H; exact H
 replace H := eW.mp H
 obtain ⟨⟨L, M⟩, b3, H⟩ := H
 try dsimp only at H
 have A4 := zm b3; clear b3
 simp only [gC, gP] at H
 obtain ⟨rfl, rfl, rfl⟩ := H
 go_enter Tryz.func4, Tryz.ntmps4
 go_wp2_with (first | ((with_reducible refine fP (N := 1) rfl ?_); refine fS zo (N := 1) zo (cs := #[.slice n b.length r, .slice s c.length x, .slice y i.length z, .slice B j.length D]) (t := 31) zh ?_; intro l hg w5 hbox hb; refine zG4 (eZ (zg_1 HB.o) hb) (hbox) ((by rw [hg]; exact (eV (zg_1 HB.o)) : w.heap.size ≤ l)) ((by rw [hg]; exact (eV (zg_1 HB.o)) : w.heap.size ≤ l)) ?_; clear HB; intro HB Za Zq Zc; clear hb hbox hg) | ((with_reducible refine fP (N := 2) rfl ?_); refine fS zo (N := 2) zo (cs := #[.slice none 0 0, .slice none 0 0]) (t := 26) zh ?_; intro m hg w6 hbox hb; refine zG7 (fB (g := l) (o := .cells #[.slice n b.length r, .slice s c.length x, .slice y i.length z, .slice B j.length D] 31 (0, 0)) (zg_3 Za.o) hb) (eZ (zg_2 HB.o Zc.o) hb) (hbox) ((by rw [hg]; exact (eV (zg_2 HB.o Zc.o)) : w.heap.size ≤ m)) ((by rw [hg]; exact (eV (zg_2 HB.o Zc.o)) : w.heap.size ≤ m)) ((by rw [hg]; exact gN (hO (g := l) (o := .cells #[.slice n b.length r, .slice s c.length x, .slice y i.length z, .slice B j.length D] 31 (0, 0)) (zg_3 Za.o)) : l ≠ m)) ((by rw [hg]; exact gT (hO (g := l) (o := .cells #[.slice n b.length r, .slice s c.length x, .slice y i.length z, .slice B j.length D] 31 (0, 0)) (zg_3 Za.o)) : m ≠ l)) ?_; clear Za HB; intro Za HB Zb Zr Zf Zd Ze; clear hb hbox hg; have c2 := Zd.o; have c4 := Ze.o; obtain ⟨_, _, _, _, _, _, _, _⟩ := zb4 Za.o) | ((with_reducible refine fJ (f := 12) rfl ?_); refine gU (some 5) rfl rfl Tryz.func12 (by kernel_rfl) rfl #[.agg #[.slice n b.length r, .slice s c.length x, .slice y i.length z, .slice B j.length D]] rfl zq ?_; (with_reducible refine (aJ.calls k _ _ b _ _ c _ _ i _ _ j true _ ?_ ?_ ?_ ?_ ?_ ?_ ?_ ?_ A2.o).mono ?_); exact zC (fE Zg.o HB.o); exact Zh.o; exact zC (fE Zi.o HB.o); exact Zj.o; exact zC (fE Zk.o HB.o); exact Zl.o; exact zC (fE Zm.o HB.o); exact Zn.o; rintro e w9 ⟨rfl, hb⟩; refine ⟨_, rfl, ?_⟩; refine zG3 (fB (g := l) (o := .cells #[.slice n b.length r, .slice s c.length x, .slice y i.length z, .slice B j.length D] 31 (0, 0)) (zg_3 Za.o) hb) (fB (g := m) (o := .cells #[.slice none 0 0, .slice none 0 0] 26 (0, 0)) (zg_3 Zb.o) hb) (eZ (zg_5 HB.o Zc.o Zf.o) hb) ?_; clear Za Zb HB; intro Za Zb HB; (try clear hb); (try clear hb2); (try clear hk); (try clear hi); obtain ⟨_, _, _, _, _, _, _, _⟩ := zb4 Za.o) | ((with_reducible refine fJ (f := 13) rfl ?_); refine gU (some 9) rfl rfl Tryz.func13 (by kernel_rfl) rfl #[.agg #[.slice n b.length r, .slice s c.length x, .slice y i.length z, .slice B j.length D]] rfl zq ?_; (with_reducible refine (aX.calls k _ _ b _ _ c _ _ i _ _ j L M _ ?_ ?_ ?_ ?_ ?_ ?_ ?_ ?_ A4.o).mono ?_); exact zC (fE Zg.o HB.o); exact Zh.o; exact zC (fE Zi.o HB.o); exact Zj.o; exact zC (fE Zk.o HB.o); exact Zl.o; exact zC (fE Zm.o HB.o); exact Zn.o; rintro e d0 ⟨c5, c6, rfl, b4, b5, hb⟩; refine ⟨_, rfl, ?_⟩; refine zG5 (fL b4 (eV (zg_5 HB.o Zc.o Zf.o))) (Kd.S_lower b5 (eV (zg_5 HB.o Zc.o Zf.o))) (fB (g := l) (o := .cells #[.slice n b.length r, .slice s c.length x, .slice y i.length z, .slice B j.length D] 31 (0, 0)) (zg_3 Za.o) hb) (fB (g := m) (o := .cells #[.slice none 0 0, .slice none 0 0] 26 (0, 0)) (zg_3 Zb.o) hb) (eZ (zg_5 HB.o Zc.o Zf.o) hb) ?_; clear Za Zb HB; intro Zo Zp Za Zb HB; (try clear hb); (try clear hb2); (try clear hk); (try clear hi); (try clear b4); (try clear b5); obtain ⟨O, T, rfl⟩ := fA Zo.o; obtain ⟨_, _, _, _⟩ := zb2 Zb.o; obtain ⟨U, V, rfl⟩ := iF Zp.o))
 refine iD (results_ct rfl _ _ m 26 #[.slice O L.length T, .slice U M.length V] (0, 0) _ rfl (zp2 Zb.o) iN rfl (by kernel_rfl)) rfl ?_
 exact ⟨_, _, ze, by (with_reducible repeat (first | apply fY | apply fZ | apply fK)); exact eX (fR (p := ⟨m, 1, none⟩) (fR (p := ⟨m, 0, none⟩) (fD Zo.o Zb.o (by decide)) (fun _ hk => hk.2) (.slice O L.length T)) (fun _ hk => hk.2) (.slice U M.length V)) (fun _ hk => trivial), by (with_reducible repeat (first | apply jA | apply jB | apply iU)); exact gQ (iW (p := ⟨m, 1, none⟩) (iW (p := ⟨m, 0, none⟩) (hX Zp.o Zb.o (by decide)) (fun _ hk => hk.2) (.slice O L.length T)) (fun _ hk => hk.2) (.slice U M.length V)) (fun _ hk => hk.1), zg_5 HB.o Zc.o Zf.o⟩

/-- A state of type 62 at block g of W; what its slices lead to came in by F. -/
def IsS62 (F W : World) (g : Nat) (f0 : List Int) (f1 : Int) (f2 : Int) : Prop := ∃ G I, W.heap[g]? = some (.cells #[.slice G f0.length I, .int .i64 f1, .int .i64 f2] 62 (0, 0)) ∧ F.heap.size ≤ g ∧ Kd.C (fG .u8) F G f0.length f0
theorem IsS62.grown {F W : World} {g : Nat} {f0 : List Int} {f1 : Int} {f2 : Int} {W1 : World} {row : Option Nat} (h : IsS62 F W g f0 f1 f2) (hw : W.grownBy W1 row) (hne : some g ≠ row) : IsS62 F W1 g f0 f1 f2 := by
 obtain ⟨G, I, hb, hg, J⟩ := h
 exact ⟨G, I, gW hb hw hne, hg, J⟩
theorem IsS62.fresh {F W : World} {g : Nat} {f0 : List Int} {f1 : Int} {f2 : Int} (h : IsS62 F W g f0 f1 f2) : ∀ k, W.heap.size ≤ k → k ≠ g := by
 obtain ⟨G, I, hb, hg, J⟩ := h
 exact iB hb
theorem IsS62.below {F W : World} {g : Nat} {f0 : List Int} {f1 : Int} {f2 : Int} {W1 : World} (h : IsS62 F W g f0 f1 f2) (hw : Below W.heap.size W W1) : IsS62 F W1 g f0 f1 f2 := h.grown (grown_of_below hw none) (by simp)
theorem IsS62.drew {F W : World} {g : Nat} {f0 : List Int} {f1 : Int} {f2 : Int} (h : IsS62 F W g f0 f1 f2) : IsS62 F W.drew g f0 f1 f2 := h
theorem IsS62.apart {F W : World} {g : Nat} {f0 : List Int} {f1 : Int} {f2 : Int} {α : Type} {d : Kd α} {e : Nat} {base : Nat} {ok : Nat → Prop} {v : Value} {xs : List α} (h : IsS62 F W g f0 f1 f2) (ho : d.R e W base ok v xs) (ht : ∀ q, q ∈ e :: d.E → q ≠ 62) : d.R e W base (fun k => ok k ∧ k ≠ g) v xs := by
 obtain ⟨G, I, hb, hg, J⟩ := h
 exact fD ho hb ht
theorem IsS62.own_ne {F W : World} {g : Nat} {f0 : List Int} {f1 : Int} {f2 : Int} {α : Type} {d : Kd α} {e : Nat} {base : Nat} {ok : Nat → Prop} {v : Value} {xs : List α} (h : IsS62 F W g f0 f1 f2) (ho : d.R e W base ok v xs) (ht : e ≠ 62) : some g ≠ v.ownBlock := by
 obtain ⟨G, I, hb, hg, J⟩ := h
 exact gJ ho hb ht
theorem IsS62.lt {F W : World} {g : Nat} {f0 : List Int} {f1 : Int} {f2 : Int} (h : IsS62 F W g f0 f1 f2) : g < W.heap.size := by
 obtain ⟨G, I, hb, hg, J⟩ := h
 exact hO hb
theorem IsS62.ne_blk {F W : World} {g : Nat} {f0 : List Int} {f1 : Int} {f2 : Int} {a : Nat} {cs : Array Value} {t : TypeId} {fr : Nat × Nat} (h : IsS62 F W g f0 f1 f2) (hb2 : W.heap[a]? = some (.cells cs t fr)) (ht : t ≠ 62) : g ≠ a := by
 obtain ⟨G, I, hb, hg, J⟩ := h
 rintro rfl
 rw [hb] at hb2
 injection hb2 with hb2
 injection hb2 with _ ht2
 exact ht ht2.symm
theorem IsS62.far {F W : World} {g : Nat} {f0 : List Int} {f1 : Int} {f2 : Int} {p : Addr} (h : IsS62 F W g f0 f1 f2) (hne : g ≠ p.block) (u : Value) : IsS62 F (W.setCell p u) g f0 f1 f2 := by
 obtain ⟨G, I, hb, hg, J⟩ := h
 exact ⟨G, I, kE hb hne u, hg, J⟩
theorem cellS62_0 {W : World} {g : Nat} {G : Option Addr} {I : Nat} {f0 : List Int} {f1 : Int} {f2 : Int} (h : W.heap[g]? = some (.cells #[.slice G f0.length I, .int .i64 f1, .int .i64 f2] 62 (0, 0))) : W.cell? ⟨g, 0, none⟩ = some (.slice G f0.length I) := (eY h 0).trans rfl
theorem cellS62_1 {W : World} {g : Nat} {G : Option Addr} {I : Nat} {f0 : List Int} {f1 : Int} {f2 : Int} (h : W.heap[g]? = some (.cells #[.slice G f0.length I, .int .i64 f1, .int .i64 f2] 62 (0, 0))) : W.cell? ⟨g, 1, none⟩ = some (.int .i64 f1) := (eY h 1).trans rfl
theorem cellS62_2 {W : World} {g : Nat} {G : Option Addr} {I : Nat} {f0 : List Int} {f1 : Int} {f2 : Int} (h : W.heap[g]? = some (.cells #[.slice G f0.length I, .int .i64 f1, .int .i64 f2] 62 (0, 0))) : W.cell? ⟨g, 2, none⟩ = some (.int .i64 f2) := (eY h 2).trans rfl
theorem clos44 {α : Type} {d : Kd α} {F : FuncId} {p : α → Option Bool} (hF : Asks1 F d (fun cs => .agg cs.toArray) p) (a : Addr) (x : α) (y0 y1 : Value) (r : Bool) (w : World) (hK : d.K w x [y0, y1]) (hc : w.cell? a = some (.func (.func F) #[] #[])) (h : p x = some r) :
    Calls fM 74 #[.agg #[y0, y1], .pointer (some a)] w fun e w' => e = .returned (.bool !r) ∧ Below w.heap.size w w' := by
  obtain ⟨⟨fn, h1, h2, h3⟩, hF⟩ := hF
  have hb1 : Below w.heap.size w (w.alloc (.cells #[y0, y1] 53 (0, 0))) := (fX _ _).alloc (fQ _) _
  have H := zm (show Calls fM F #[.agg #[y0, y1]] (w.alloc (.cells #[y0, y1] 53 (0, 0))) _ from hF x [y0, y1] r _ (nH _ hb1 hK) h); have HB0 := zm hb1
  have hc2 : (w.alloc (.cells #[y0, y1] 53 (0, 0))).cell? a = some (.func (.func F) #[] #[]) := (hb1.cell (eU w _ hc)).trans hc
  have H1 := zm h1; have H2 := zm h2; have H3 := zm h3; have hu := lQ; clear hF h h1 h2 h3 hK hb1
  go_enter Tryz.func74, Tryz.ntmps74
  go_wp2_with (first | ((with_reducible refine fP (N := 6) rfl ?_); refine Stop.out ?_))
  refine ⟨?_⟩
  refine goesV (some 6) rfl rfl H1.o H2.o H3.o #[.agg #[y0, y1]] rfl (cap := #[]) ?hx ?hargs ?_
  case hx => rfl
  case hargs => simp [lY]
  refine H.o.mono ?_
  rintro e w1 ⟨rfl, hb⟩
  refine ⟨_, rfl, ?_⟩
  have HB := zm (HB0.o.trans (hb.mono HB0.o.size)); clear hb
  go_wp2
  go_ret
  exact ⟨rfl, HB.o⟩
set_option maxHeartbeats 1000000 in
set_option maxRecDepth 100000 in
theorem idx44 {F : FuncId} {p : S53 → Option Bool} (hF : Asks1 F k53 (fun cs => .agg cs.toArray) p) (A0 : Option Addr) (c0 : Nat) (l0 : List S53) (a : Addr) (r : Bool) (w : World) (hr0 : Kd.C k53 w A0 l0.length l0) (hc0 : l0.length ≤ c0)
    (hcl : w.cell? a = some (.func (.func F) #[] #[])) (h : allO p l0 = some r) :
    Calls fM 93 #[.slice A0 l0.length c0, .func (.func 74) #[] #[.pointer (some a)]] w (IdxPost r w) := by
 have hlen : l0.length ≤ 9223372036854775807 := hr0.2.1
 have HR0 := zm hr0; have HCL := zm hcl; have HF := zm hF
 have H' := zm h
 have HB := zm (fX w.heap.size w); clear hr0 hcl hF h
 go_enter Tryz.func93, Tryz.ntmps93
 go_wp2
 go_loopg [8] (l0.length + 1) (fun kq v8 w' => ∃ k : Nat, v8 = .int .i64 (k : Int) ∧ Aside0 (kq + k = l0.length + 1 ∧ k ≤ l0.length) ∧ Aside0 (allO p (l0.drop k) = some r) ∧ Aside0 (Below w.heap.size w w'))
 case atStart => exact ⟨0, rfl, ⟨by omega, by omega⟩, H', HB⟩
 case round =>
  clear H' HB
  obtain ⟨k, rfl, HK, HA, HB⟩ := hrel
  cases gk with
  | zero =>
   have hk := HK.o
   omega
  | succ k1 =>
   by_cases hlt : k < l0.length
   ·have q1 : (k : Int) < (l0.length : Int) := by omega
    have p1 : 0 ≤ (k : Int) := by omega
    obtain ⟨ad, A1, c1, ea, hx0, hx1, l1, g1⟩ := at_T53 HR0.o (k : Int) p1 q1
    cases ea
    simp only [Int.toNat_natCast] at hx0 hx1
    replace hx0 := (HB.o.cell (eU w _ hx0)).trans hx0; replace hx1 := (HB.o.cell (eU w _ hx1)).trans hx1; have HKK := zm (show k53.K w (aC l0 k) [.string ((aC l0 k).f0), .slice A1 (aC l0 k).f1.length c1] from k53_mk w _ l1 g1); clear l1 g1
    have HX := zm (show ∃ b, p (aC l0 k) = some b ∧ (if b = true then allO p (l0.drop (k+1)) else some false) = some r from by
     have := HA.o
     rw [List.drop_eq_getElem_cons hlt] at this
     simp only [allO] at this
     obtain ⟨b, hb, h2⟩ := eW.1 this
     refine ⟨b, ?_, h2⟩
     rw [← hb]; congr 1; simp [aC, hlt])
    obtain ⟨b, hb, h2⟩ := HX.o
    have HPB := zm hb; have H2 := zm h2; have HCL2 := zm ((HB.o.cell (eU w _ HCL.o)).trans HCL.o); clear HX hb h2 q1 p1 HA
    cases b with
    | true =>
     go_wp2_with (first | ((with_reducible refine fP (N := 16) rfl ?_); refine goesV (some 16) rfl rfl Tryz.func74 (by kernel_rfl) rfl #[.agg #[.string ((aC l0 k).f0), .slice A1 (aC l0 k).f1.length c1], .pointer (some a)] rfl (cap := #[.pointer (some a)]) ?hx ?hargs ?_; (case hx => rfl); (case hargs => simp [lY]); refine (clos44 HF.o a _ (.string ((aC l0 k).f0)) (.slice A1 (aC l0 k).f1.length c1) _ _ (nH _ HB.o HKK.o) HCL2.o HPB.o).mono ?_; rintro e w2 ⟨rfl, hb⟩; refine ⟨_, rfl, ?_⟩; have HB2 := zm (HB.o.trans (hb.mono HB.o.size)); clear hb))
     go_roundg k1
     case measure => omega
     case rel => exact ⟨k + 1, by simp, ⟨by have := HK.o; omega, by have := HK.o; omega⟩, ⟨by simpa using H2.o⟩, HB2⟩
    | false =>
     go_wp2_with (first | ((with_reducible refine fP (N := 16) rfl ?_); refine goesV (some 16) rfl rfl Tryz.func74 (by kernel_rfl) rfl #[.agg #[.string ((aC l0 k).f0), .slice A1 (aC l0 k).f1.length c1], .pointer (some a)] rfl (cap := #[.pointer (some a)]) ?hx ?hargs ?_; (case hx => rfl); (case hargs => simp [lY]); refine (clos44 HF.o a _ (.string ((aC l0 k).f0)) (.slice A1 (aC l0 k).f1.length c1) _ _ (nH _ HB.o HKK.o) HCL2.o HPB.o).mono ?_; rintro e w2 ⟨rfl, hb⟩; refine ⟨_, rfl, ?_⟩; have HB2 := zm (HB.o.trans (hb.mono HB.o.size)); clear hb))
     go_ret
     have hr : r = false := by have := H2.o; simpa using this.symm
     exact ⟨k, rfl, by rw [hr]; simp, HB2.o⟩
   ·have hge : l0.length ≤ k := by omega
    go_wp2
    go_ret
    have hr : r = true := by
     have := HA.o
     rw [List.drop_of_length_le hge] at this
     simpa [allO] using this.symm
    exact ⟨-1, rfl, by rw [hr]; decide, HB.o⟩
theorem cont44 {F : FuncId} {p : S53 → Option Bool} (hF : Asks1 F k53 (fun cs => .agg cs.toArray) p) (A0 : Option Addr) (c0 : Nat) (l0 : List S53) (a : Addr) (r : Bool) (w : World) (hr0 : Kd.C k53 w A0 l0.length l0) (hc0 : l0.length ≤ c0)
 (hcl : w.cell? a = some (.func (.func F) #[] #[])) (h : allO p l0 = some r) :
 Calls fM 73 #[.slice A0 l0.length c0, .func (.func 74) #[] #[.pointer (some a)]] w fun e w' => e = .returned (.bool !r) ∧ Below w.heap.size w w' := by
 have H := zm (idx44 hF A0 c0 l0 a r w hr0 hc0 hcl h); clear hr0 hcl hF h
 go_enter Tryz.func73, Tryz.ntmps73
 go_wp2_with (go_at_call 93; (with_reducible refine H.o.mono ?_); rintro e w2 ⟨j, rfl, hj, hb⟩; have HJ := zm hj; have HB := zm hb; clear hj hb)
 go_ret
 exact ⟨by rw [← HJ.o]; rfl, HB.o⟩
theorem all44 {F : FuncId} {p : S53 → Option Bool} (hF : Asks1 F k53 (fun cs => .agg cs.toArray) p) (A0 : Option Addr) (c0 : Nat) (l0 : List S53) (r : Bool) (w : World) (hr0 : Kd.C k53 w A0 l0.length l0) (hc0 : l0.length ≤ c0)
 (h : allO p l0 = some r) :
 Calls fM 44 #[.slice A0 l0.length c0, .func (.func F) #[] #[]] w fun e w' => e = .returned (.bool r) ∧ Below w.heap.size w w' := by
 have hb1 : ∀ o, Below w.heap.size w (w.alloc o) := fun o => (fX _ _).alloc (fQ _) o
 have H := zm (cont44 hF A0 c0 l0 ⟨w.heap.size, 0, none⟩ r (w.alloc (.cells #[.func (.func F) #[] #[]] 75 (0, 0))) (fE hr0 (hb1 _)) hc0 (by go_simp) h); have HB0 := zm (hb1 (.cells #[.func (.func F) #[] #[]] 75 (0, 0))); clear hr0 hF h hb1
 go_enter Tryz.func44, Tryz.ntmps44
 go_wp2_with (go_at_call 73; (with_reducible refine H.o.mono ?_); rintro e w2 ⟨rfl, hb⟩; have HB := zm (HB0.o.trans (hb.mono HB0.o.size)); clear hb)
 go_ret
 exact ⟨by simp, HB.o⟩
def cE.f (l0 : List Int) : Option (Bool) := if (l0.length : Int) ≤ 12 then ((bF.f l0 ()).bind fun t107 => (some t107)) else (some false)
set_option maxHeartbeats 8000000 in
set_option maxRecDepth 100000 in
theorem cE.calls (m : Option Addr) (n : Nat) (a : List Int) (r : Bool) (w : World) (d : Kd.C (fG .i64) w m a.length a) (g : a.length ≤ n) (h : cE.f a = some r) :
    Calls fM 41 #[.slice m a.length n] w fun e w' => e = .returned (.bool r) ∧ Below w.heap.size w w' := by
  have o := zm d; have p := zm g; clear d g; have HB := zm (fX w.heap.size w); have H := h
  unfold cE.f at H
  clear h
  by_cases b : (a.length : Int) ≤ 12
  rotate_left
  · rw [if_neg b] at H
    have j := decide_eq_false b
    have l : decide (a.length ≤ 12) = false := decide_eq_false (by omega)
    clear b; obtain rfl := fF H
    go_enter oI, Tryz.ntmps41
    go_wp2
    go_ret
    exact ⟨ze, by repeat (first | (with_reducible first | exact HB.o | apply gO | apply gB | apply gA) | exact HB.o)⟩
  rw [if_pos b] at H; have j := decide_eq_true b
  have l : decide (a.length ≤ 12) = true := decide_eq_true (by omega)
  clear b; replace H := eW.mp H
  obtain ⟨c, i, H⟩ := H
  replace H : (some c) = some r := H
  have q := zm i; clear i; obtain rfl := fF H
  go_enter oI, Tryz.ntmps41
  go_wp2_with (first | (go_at_call 58; (with_reducible refine (bF.calls _ _ a () c _ ?_ ?_ q.o).mono ?_); exact zC o.o; exact p.o; rintro e s ⟨rfl, hb⟩; refine zG1 (eZ (by repeat (first | (with_reducible first | exact HB.o | apply gO | apply gB | apply gA) | exact HB.o)) hb) ?_; clear HB; intro HB; (try clear hb); (try clear hb2); (try clear hk); (try clear hi)))
  go_ret
  exact ⟨ze, by repeat (first | (with_reducible first | exact HB.o | apply gO | apply gB | apply gA) | exact HB.o)⟩
def cY.f (a0_0 : ByteArray) (l0_1 : List Int) : Option (Bool) := (cE.f l0_1).bind fun t109 => (some t109)
set_option maxHeartbeats 8000000 in
set_option maxRecDepth 100000 in
theorem cY.calls (a0_0 : ByteArray) (c : Option Addr) (d : Nat) (a : List Int) (r : Bool) (w : World) (l : Kd.C (fG .i64) w c a.length a) (m : a.length ≤ d) (h : cY.f a0_0 a = some r) :
    Calls fM 45 #[.agg #[.string a0_0, .slice c a.length d]] w fun e w' => e = .returned (.bool r) ∧ Below w.heap.size w w' := by
 have hu53 := lQ; have p := zm l; have q := zm m; clear l m; have HB := zm (fX w.heap.size w)
 have H : ((cE.f a).bind fun i => (some i)) = some r := h
 clear h; replace H := eW.mp H
 obtain ⟨i, s, H⟩ := H
 replace H : (some i) = some r := H
 have v := zm s; clear s; obtain rfl := fF H
 go_enter Tryz.func45, Tryz.ntmps45
 go_wp2_with (first | ((with_reducible refine fP (N := 1) rfl ?_); refine fS zo (N := 1) zo (cs := #[.string a0_0, .slice c a.length d]) (t := 53) zh ?_; intro j hg x hbox hb; refine zG4 (eZ (zg_1 HB.o) hb) (hbox) ((by rw [hg]; exact (eV (zg_1 HB.o)) : w.heap.size ≤ j)) ((by rw [hg]; exact (eV (zg_1 HB.o)) : w.heap.size ≤ j)) ?_; clear HB; intro HB b u n; clear hb hbox hg; obtain ⟨_, _, _, _⟩ := zb2 b.o) | ((with_reducible refine fJ (f := 41) rfl ?_); refine gU (some 5) rfl rfl oI (by kernel_rfl) rfl #[.slice c a.length d] rfl zq ?_; (with_reducible refine (cE.calls _ _ a i _ ?_ ?_ v.o).mono ?_); exact zC (fE p.o HB.o); exact q.o; rintro e y ⟨rfl, hb⟩; refine ⟨_, rfl, ?_⟩; refine zG2 (fB (g := j) (o := .cells #[.string a0_0, .slice c a.length d] 53 (0, 0)) (zg_3 b.o) hb) (eZ (zg_2 HB.o n.o) hb) ?_; clear b HB; intro b HB; (try clear hb); (try clear hb2); (try clear hk); (try clear hi)))
 go_ret
 exact ⟨ze, zg_2 HB.o n.o⟩
def bS.f (l0 : List S53) (_ : Unit) : Option Bool := allO (fun x => cY.f x.f0 x.f1) l0
theorem bS.asks : Asks1 45 k53 (fun cs => .agg cs.toArray) (fun x => cY.f x.f0 x.f1) := ⟨⟨_, Tryz.func45, by kernel_rfl, rfl⟩, fun x cs r w hK h => by
  obtain ⟨A1, c1, rfl, l1, g1⟩ := k53_open hK
  exact (cY.calls x.f0 A1 c1 x.f1 r w g1 l1 h).mono fun e w' hh => ⟨hh.1, hh.2⟩⟩
theorem bS.calls (b : Option Addr) (c : Nat) (a : List S53) (_u : Unit) (r : Bool) (w : World) (d : Kd.C k53 w b a.length a) (g : a.length ≤ c) (h : bS.f a () = some r) :
    Calls fM 44 #[.slice b a.length c, .func (.func 45) #[] #[]] w fun e w' => e = .returned (.bool r) ∧ Below w.heap.size w w' :=
  all44 (bS.asks) b c a r w d g h
def bB.l0 : Nat → List ByteArray → List (S53) → Int → Int → Option (List ByteArray)
  | 0, _, _, _, _ => none
  | k + 1, x3, x8, x9, x10 => if x10 < x9 then (if 0 ≤ x10 then (if x10 < (x8.length : Int) then (if x3.length < 8796093022208 then (bB.l0 k (x3 ++ [(aC x8 x10).f0]) x8 x9 (wrap64 (x10 + 1))) else (none)) else (none)) else (none)) else (some x3)
def bB.f (k : Nat) (l0_0 : List Int) (l0_1 : List (S53)) : Option (List ByteArray) := bB.l0 k (([] : List ByteArray)) l0_1 (l0_1.length : Int) 0
set_option maxHeartbeats 8000000 in
set_option maxRecDepth 100000 in
theorem bB.calls (k : Nat) (j : Option Addr) (l : Nat) (i : List Int) (s : Option Addr) (m : Nat) (a : List (S53)) (r : List ByteArray) (w : World) (E : Kd.C (fG .i64) w j i.length i) (F : i.length ≤ l) (G : Kd.C k53 w s a.length a) (I : a.length ≤ m) (h : bB.f k i a = some r) :
    Calls fM 43 #[.agg #[.slice j i.length l, .slice s a.length m]] w fun e w' => ∃ T : Value, e = .returned (T) ∧ Kd.R gV 9 w' w.heap.size (fun _ => True) T r ∧ Below w.heap.size w w' := by
 have hu26 := iN; have hu53 := lQ; have Zm := zm E; have Zn := zm F; clear E F; have Zh := zm G; have Zo := zm I; clear G I; have HB := zm (fX w.heap.size w)
 have H : (bB.l0 k (([] : List ByteArray)) a (a.length : Int) 0) = some r := h
 clear h
 obtain ⟨M, v⟩ : ∃ y_ : List ByteArray, y_ = (([] : List ByteArray)) := ⟨_, rfl⟩
 replace H : (bB.l0 k M a (a.length : Int) 0) = some r := zy H v
 have J := zm v; clear v
 have H' := zm H
 clear H
 go_enter Tryz.func43, Tryz.ntmps43
 go_wp2_with (first | ((with_reducible refine fP (N := 1) rfl ?_); refine fS zo (N := 1) zo (cs := #[.slice j i.length l, .slice s a.length m]) (t := 26) zh ?_; intro d hg w2 hbox hb; refine zG4 (eZ (zg_1 HB.o) hb) (hbox) ((by rw [hg]; exact (eV (zg_1 HB.o)) : w.heap.size ≤ d)) ((by rw [hg]; exact (eV (zg_1 HB.o)) : w.heap.size ≤ d)) ?_; clear HB; intro HB Za Zp Zb; clear hb hbox hg) | ((with_reducible refine fP (N := 6) rfl ?_); refine Kd.R_lit gV _ 9 ?hg (N := 6) ?hd (xs := ([] : List ByteArray)) (inner := []) (ok := fun _ => True) (okp := fun _ => True) ?hr ?hp (fun _ hk => hk) trivial (fX _ _) (fQ _) (by simp) ?_; (case hd => rfl); (case hg => rfl); (case hr => first | (go_simp; done) | (go_simp; rfl)); (case hp => exact (Reps.none _ _)); intro a3 w3 y hb hg_ hnew_; clear hg_ hnew_; (first | rw [← J.o] at y | (simp only [gX] at y; rw [← J.o] at y)); refine zG3 (fL y (eV (zg_2 HB.o Zb.o))) (fB (g := d) (o := .cells #[.slice j i.length l, .slice s a.length m] 26 (0, 0)) (zg_3 Za.o) hb) (eZ (zg_2 HB.o Zb.o) hb) ?_; clear Za HB; intro Zi Za HB; clear hb y; obtain ⟨_, _, _, _⟩ := zb2 Za.o))
 go_loopg [3, 10] k (fun kq v3 Z w' => ∃ (u : List ByteArray) (c : Int), Z = .int .i64 c ∧ Aside0 (bB.l0 kq u a (a.length : Int) c = some r) ∧ Aside0 (kq ≤ k) ∧ Aside0 (Kd.R gV 9 w' w.heap.size (fun _ => True) v3 u) ∧ Aside0 (w'.heap[d]? = some (.cells #[(.slice j i.length l), (.slice s a.length m)] 26 (0, 0))) ∧ Aside0 (Below w.heap.size w w'))
 case atStart => exact ⟨(M), (0), zr, H', ⟨fQ _⟩, ⟨zlR Zi.o⟩, ⟨zl Za.o⟩, ⟨zg_2 HB.o Zb.o⟩⟩
 case round =>
  clear H'
  try clear p2
  try clear c4
  obtain ⟨u, c, rfl, HA, U, Ze, Za, HB⟩ := hrel
  cases gk with
  | zero => exact absurd HA.o (by simp [bB.l0])
  | succ k1 =>
   have H := HA.o; clear HA
   simp only [bB.l0] at H
   by_cases L : c < (a.length : Int)
   rotate_left
   ·rw [if_neg L] at H
    have V := decide_eq_false L; clear L; obtain rfl := fF H
    go_wp2
    go_ret
    exact ⟨_, ze, by (with_reducible repeat (first | apply fY | apply fZ | apply fK)); exact Ze.o, zg_2 HB.o Zb.o⟩
   rw [if_pos L] at H; have V := decide_eq_true L; clear L
   replace H := zid H; obtain ⟨a5, H⟩ := H
   replace H := zid H; obtain ⟨a6, H⟩ := H
   replace H := zif H; obtain ⟨c9, H⟩ := H; have X := zm c9; clear c9
   obtain ⟨O, x⟩ : ∃ y_ : List ByteArray, y_ = (u ++ [(aC a c).f0]) := ⟨_, rfl⟩
   replace H : (bB.l0 k1 O a (a.length : Int) (wrap64 (c + 1))) = some r := zy H x
   have S := zm x; clear x
   have H' := zm H
   clear H
   have B : 0 ≤ (c : Int) := zd
   have D : c < (a.length : Int) := zd
   obtain ⟨q, z, A, Y, hx737_0, hx737_1, hl737_1, hi737_1⟩ := at_T53 Zh.o c B D
   cases Y; replace hx737_0 := (HB.o.cell (eU w _ hx737_0)).trans hx737_0; replace hx737_1 := (HB.o.cell (eU w _ hx737_1)).trans hx737_1; have Zk := zm hi737_1; have Zl := zm hl737_1; clear hi737_1 hl737_1; replace B := eq_true B; replace D := eq_true D
   go_wp2_with (first | ((with_reducible refine fP (N := 5) rfl ?_); refine fS zo (N := 5) zo (cs := #[.string (⟨#[]⟩ : ByteArray), .slice none 0 0]) (t := 53) zh ?_; intro n hg a8 hbox hb; refine zG8 (fI (zg_6 Ze.o) hb) (fB (g := d) (o := .cells #[.slice j i.length l, .slice (some q) a.length m] 26 (0, 0)) (zg_3 Za.o) hb) (eZ (zg_2 HB.o Zb.o) hb) (hbox) ((by rw [hg]; exact (eV (zg_2 HB.o Zb.o)) : w.heap.size ≤ n)) ((by rw [hg]; exact (eV (zg_2 HB.o Zb.o)) : w.heap.size ≤ n)) ((by rw [hg]; exact gN (hO (g := d) (o := .cells #[.slice j i.length l, .slice (some q) a.length m] 26 (0, 0)) (zg_3 Za.o)) : d ≠ n)) ((by rw [hg]; exact gT (hO (g := d) (o := .cells #[.slice j i.length l, .slice (some q) a.length m] 26 (0, 0)) (zg_3 Za.o)) : n ≠ d)) ?_; clear Ze Za HB; intro Ze Za HB Zc Zq Zg Zd Zf; clear hb hbox hg; have a1 := Zf.o; have a2 := Zd.o; obtain ⟨_, _, _, _⟩ := zb2 Zc.o) | ((with_reducible refine gate_builtin (b := .append) (xs := #[.tmp 14, .tmp 17]) rfl ?_); at_builtin; refine Kd.R_append gV (w0 := w) w.heap.size rfl (.tmp 14) (.tmp 17) 33 9 (.string ⟨#[]⟩) 16 rfl Tryz.underlying33 info9 rfl (by decide) (by omega) u3 u ((aC a c).f0) [.string ((aC a c).f0)] (fun _ => True) (fun _ => False) rfl (by first | (go_simp; done) | (go_simp; rfl)) ?aP (fun _ hk => hk.elim) ?aF ?aO ?aB ?aS ?aL ?_; (case aP => exact rfl); (case aB => exact (zg_5 HB.o Zb.o Zg.o)); (case aF => exact (fun _ _ => trivial)); (case aO => exact (by (with_reducible repeat (first | apply fY | apply fZ | apply fK)); exact eX (fR (p := ⟨n, 1, none⟩) (fR (p := ⟨n, 0, none⟩) (fD Ze.o Zc.o (by decide)) (fun _ hk => hk.2) (.string ((aC a c).f0))) (fun _ hk => hk.2) (.slice z ((aC a c).f1).length A)) (fun _ hk => trivial))); (case aS => exact (eV (zg_5 HB.o Zb.o Zg.o))); (case aL => have := X.o; omega); intro a7 a9 ho hb hg hat; rw [← S.o] at ho; refine zG4 (gW (g := d) (o := .cells #[.slice j i.length l, .slice (some q) a.length m] 26 (0, 0)) (zfr Za.o Zd.o) hg (gJ Ze.o Za.o (by decide))) (gW (g := n) (o := .cells #[.string ((aC a c).f0), .slice z ((aC a c).f1).length A] 53 (0, 0)) (zp2 Zc.o) hg (gJ Ze.o Zc.o (by decide))) (hb) (ho) ?_; clear Ze Za Zc HB; intro Za Zc HB Zj; clear ho hb hg hat))
   go_roundg k1
   case measure => have := U.o; omega
   case rel => exact ⟨(O), (wrap64 (c + 1)), zr, H', ⟨by have := U.o; omega⟩, ⟨zlR Zj.o⟩, ⟨zl Za.o⟩, ⟨zg_5 HB.o Zb.o Zg.o⟩⟩
def cT.f (k : Nat) (l0_0 : List Int) (l0_1 : List (S53)) : Option (Bool) := (cE.f l0_0).bind fun t743 => (if t743 = true then (if (l0_1.length : Int) ≤ 3 then ((bB.f k l0_0 l0_1).bind fun t744 => ((bZ.f k t744).bind fun t747 => (if t747 = true then ((bS.f l0_1 ()).bind fun t748 => (some t748)) else (some false)))) else (some false)) else (some false))
set_option maxHeartbeats 8000000 in
set_option maxRecDepth 100000 in
theorem cT.calls (k : Nat) (d : Option Addr) (i : Nat) (a : List Int) (j : Option Addr) (l : Nat) (b : List (S53)) (r : Bool) (w : World) (s : Kd.C (fG .i64) w d a.length a) (u : a.length ≤ i) (v : Kd.C k53 w j b.length b) (x : b.length ≤ l) (h : cT.f k a b = some r) :
    Calls fM 16 #[.agg #[.slice d a.length i, .slice j b.length l]] w fun e w' => e = .returned (.bool r) ∧ Below w.heap.size w w' := by
 have hu26 := iN; have Zd := zm s; have Ze := zm u; clear s u; have Zf := zm v; have Zg := zm x; clear v x; have HB := zm (fX w.heap.size w); have H := h
 unfold cT.f at H
 clear h; replace H := eW.mp H
 obtain ⟨I, D, H⟩ := H
 try dsimp only at H
 have z := zm D; clear D
 by_cases A : I = true
 rotate_left
 ·replace A := hN.mpr A
  subst A
  replace H : (some false) = some r := by rw [if_neg (show ¬ (false = true) by decide)] at H; exact H
  obtain rfl := fF H
  go_enter Tryz.func16, Tryz.ntmps16
  go_wp2_with (first | ((with_reducible refine fP (N := 1) rfl ?_); (try (refine kY (by rfl) ?_; dsimp only)); refine fS zo (N := 1) zo (cs := #[.slice d a.length i, .slice j b.length l]) (t := 26) zh ?_; intro c hg Y hbox hb; refine zG4 (eZ (zg_1 HB.o) hb) (hbox) ((by rw [hg]; exact (eV (zg_1 HB.o)) : w.heap.size ≤ c)) ((by rw [hg]; exact (eV (zg_1 HB.o)) : w.heap.size ≤ c)) ?_; clear HB; intro HB Za Zh Zb; clear hb hbox hg; obtain ⟨_, _, _, _⟩ := zb2 Za.o) | ((with_reducible refine fJ (f := 41) rfl ?_); refine gU (some 5) rfl rfl oI (by kernel_rfl) rfl #[.slice d a.length i] rfl zq ?_; (with_reducible refine (cE.calls _ _ a false _ ?_ ?_ z.o).mono ?_); exact zC (fE Zd.o HB.o); exact Ze.o; rintro e Z ⟨rfl, hb⟩; refine ⟨_, rfl, ?_⟩; refine zG2 (fB (g := c) (o := .cells #[.slice d a.length i, .slice j b.length l] 26 (0, 0)) (zg_3 Za.o) hb) (eZ (zg_2 HB.o Zb.o) hb) ?_; clear Za HB; intro Za HB; (try clear hb); (try clear hb2); (try clear hk); (try clear hi)))
  go_ret
  exact ⟨ze, zg_2 HB.o Zb.o⟩
 subst A
 replace H : (if (b.length : Int) ≤ 3 then ((bB.f k a b).bind fun m => ((bZ.f k m).bind fun q => (if q = true then ((bS.f b ()).bind fun n => (some n)) else (some false)))) else (some false)) = some r := by rw [if_pos rfl] at H; exact H
 by_cases y : (b.length : Int) ≤ 3
 rotate_left
 ·rw [if_neg y] at H
  have J := decide_eq_false y
  have L : decide (b.length ≤ 3) = false := decide_eq_false (by omega)
  clear y; obtain rfl := fF H
  go_enter Tryz.func16, Tryz.ntmps16
  go_wp2_with (first | ((with_reducible refine fP (N := 1) rfl ?_); (try (refine kY (by rfl) ?_; dsimp only)); refine fS zo (N := 1) zo (cs := #[.slice d a.length i, .slice j b.length l]) (t := 26) zh ?_; intro c hg a0 hbox hb; refine zG4 (eZ (zg_1 HB.o) hb) (hbox) ((by rw [hg]; exact (eV (zg_1 HB.o)) : w.heap.size ≤ c)) ((by rw [hg]; exact (eV (zg_1 HB.o)) : w.heap.size ≤ c)) ?_; clear HB; intro HB Za Zh Zb; clear hb hbox hg; obtain ⟨_, _, _, _⟩ := zb2 Za.o) | ((with_reducible refine fJ (f := 41) rfl ?_); refine gU (some 5) rfl rfl oI (by kernel_rfl) rfl #[.slice d a.length i] rfl zq ?_; (with_reducible refine (cE.calls _ _ a true _ ?_ ?_ z.o).mono ?_); exact zC (fE Zd.o HB.o); exact Ze.o; rintro e a1 ⟨rfl, hb⟩; refine ⟨_, rfl, ?_⟩; refine zG2 (fB (g := c) (o := .cells #[.slice d a.length i, .slice j b.length l] 26 (0, 0)) (zg_3 Za.o) hb) (eZ (zg_2 HB.o Zb.o) hb) ?_; clear Za HB; intro Za HB; (try clear hb); (try clear hb2); (try clear hk); (try clear hi); obtain ⟨_, _, _, _⟩ := zb2 Za.o))
  go_ret
  exact ⟨ze, zg_2 HB.o Zb.o⟩
 rw [if_pos y] at H; have J := decide_eq_true y
 have L : decide (b.length ≤ 3) = true := decide_eq_true (by omega)
 clear y; replace H := eW.mp H
 obtain ⟨m, E, H⟩ := H
 try dsimp only at H
 have O := zm E; clear E; replace H := eW.mp H
 obtain ⟨q, F, H⟩ := H
 try dsimp only at H
 have R := zm F; clear F
 by_cases B : q = true
 rotate_left
 ·replace B := hN.mpr B
  subst B
  replace H : (some false) = some r := by rw [if_neg (show ¬ (false = true) by decide)] at H; exact H
  obtain rfl := fF H
  go_enter Tryz.func16, Tryz.ntmps16
  go_wp2_with (first | ((with_reducible refine fP (N := 1) rfl ?_); (try (refine kY (by rfl) ?_; dsimp only)); refine fS zo (N := 1) zo (cs := #[.slice d a.length i, .slice j b.length l]) (t := 26) zh ?_; intro c hg a2 hbox hb; refine zG4 (eZ (zg_1 HB.o) hb) (hbox) ((by rw [hg]; exact (eV (zg_1 HB.o)) : w.heap.size ≤ c)) ((by rw [hg]; exact (eV (zg_1 HB.o)) : w.heap.size ≤ c)) ?_; clear HB; intro HB Za Zh Zb; clear hb hbox hg; obtain ⟨_, _, _, _⟩ := zb2 Za.o) | ((with_reducible refine fJ (f := 41) rfl ?_); refine gU (some 5) rfl rfl oI (by kernel_rfl) rfl #[.slice d a.length i] rfl zq ?_; (with_reducible refine (cE.calls _ _ a true _ ?_ ?_ z.o).mono ?_); exact zC (fE Zd.o HB.o); exact Ze.o; rintro e a3 ⟨rfl, hb⟩; refine ⟨_, rfl, ?_⟩; refine zG2 (fB (g := c) (o := .cells #[.slice d a.length i, .slice j b.length l] 26 (0, 0)) (zg_3 Za.o) hb) (eZ (zg_2 HB.o Zb.o) hb) ?_; clear Za HB; intro Za HB; (try clear hb); (try clear hb2); (try clear hk); (try clear hi); obtain ⟨_, _, _, _⟩ := zb2 Za.o) | (go_at_call 43; (with_reducible refine (bB.calls k _ _ a _ _ b m _ ?_ ?_ ?_ ?_ O.o).mono ?_); exact zC (fE Zd.o HB.o); exact Ze.o; exact zC (fE Zf.o HB.o); exact Zg.o; rintro e a4 ⟨M, rfl, p, hb⟩; refine zG3 (fL p (eV (zg_2 HB.o Zb.o))) (fB (g := c) (o := .cells #[.slice d a.length i, .slice j b.length l] 26 (0, 0)) (zg_3 Za.o) hb) (eZ (zg_2 HB.o Zb.o) hb) ?_; clear Za HB; intro Zc Za HB; (try clear hb); (try clear hb2); (try clear hk); (try clear hi); (try clear p); obtain ⟨S, T, rfl⟩ := fA Zc.o) | (go_at_call 42; (with_reducible refine (bZ.calls k _ _ m false _ ?_ ?_ R.o).mono ?_); exact zC ((fC Zc.o).2.2); exact (fC Zc.o).2.1; rintro e a5 ⟨rfl, hb⟩; refine zG3 (fI (zg_6 Zc.o) hb) (fB (g := c) (o := .cells #[.slice d a.length i, .slice j b.length l] 26 (0, 0)) (zg_3 Za.o) hb) (eZ (zg_2 HB.o Zb.o) hb) ?_; clear Zc Za HB; intro Zc Za HB; (try clear hb); (try clear hb2); (try clear hk); (try clear hi)))
  go_ret
  exact ⟨ze, zg_2 HB.o Zb.o⟩
 subst B
 replace H : ((bS.f b ()).bind fun n => (some n)) = some r := by rw [if_pos rfl] at H; exact H
 replace H := eW.mp H
 obtain ⟨n, G, H⟩ := H
 replace H : (some n) = some r := H
 have U := zm G; clear G; obtain rfl := fF H
 go_enter Tryz.func16, Tryz.ntmps16
 go_wp2_with (first | ((with_reducible refine fP (N := 1) rfl ?_); (try (refine kY (by rfl) ?_; dsimp only)); refine fS zo (N := 1) zo (cs := #[.slice d a.length i, .slice j b.length l]) (t := 26) zh ?_; intro c hg w9 hbox hb; refine zG4 (eZ (zg_1 HB.o) hb) (hbox) ((by rw [hg]; exact (eV (zg_1 HB.o)) : w.heap.size ≤ c)) ((by rw [hg]; exact (eV (zg_1 HB.o)) : w.heap.size ≤ c)) ?_; clear HB; intro HB Za Zh Zb; clear hb hbox hg; obtain ⟨_, _, _, _⟩ := zb2 Za.o) | ((with_reducible refine fJ (f := 41) rfl ?_); refine gU (some 5) rfl rfl oI (by kernel_rfl) rfl #[.slice d a.length i] rfl zq ?_; (with_reducible refine (cE.calls _ _ a true _ ?_ ?_ z.o).mono ?_); exact zC (fE Zd.o HB.o); exact Ze.o; rintro e a6 ⟨rfl, hb⟩; refine ⟨_, rfl, ?_⟩; refine zG2 (fB (g := c) (o := .cells #[.slice d a.length i, .slice j b.length l] 26 (0, 0)) (zg_3 Za.o) hb) (eZ (zg_2 HB.o Zb.o) hb) ?_; clear Za HB; intro Za HB; (try clear hb); (try clear hb2); (try clear hk); (try clear hi); obtain ⟨_, _, _, _⟩ := zb2 Za.o) | (go_at_call 43; (with_reducible refine (bB.calls k _ _ a _ _ b m _ ?_ ?_ ?_ ?_ O.o).mono ?_); exact zC (fE Zd.o HB.o); exact Ze.o; exact zC (fE Zf.o HB.o); exact Zg.o; rintro e a7 ⟨M, rfl, p, hb⟩; refine zG3 (fL p (eV (zg_2 HB.o Zb.o))) (fB (g := c) (o := .cells #[.slice d a.length i, .slice j b.length l] 26 (0, 0)) (zg_3 Za.o) hb) (eZ (zg_2 HB.o Zb.o) hb) ?_; clear Za HB; intro Zc Za HB; (try clear hb); (try clear hb2); (try clear hk); (try clear hi); (try clear p); obtain ⟨V, X, rfl⟩ := fA Zc.o) | (go_at_call 42; (with_reducible refine (bZ.calls k _ _ m true _ ?_ ?_ R.o).mono ?_); exact zC ((fC Zc.o).2.2); exact (fC Zc.o).2.1; rintro e a8 ⟨rfl, hb⟩; refine zG3 (fI (zg_6 Zc.o) hb) (fB (g := c) (o := .cells #[.slice d a.length i, .slice j b.length l] 26 (0, 0)) (zg_3 Za.o) hb) (eZ (zg_2 HB.o Zb.o) hb) ?_; clear Zc Za HB; intro Zc Za HB; (try clear hb); (try clear hb2); (try clear hk); (try clear hi); obtain ⟨_, _, _, _⟩ := zb2 Za.o) | (go_at_call 44; (with_reducible refine (bS.calls _ _ b () n _ ?_ ?_ U.o).mono ?_); exact zC (fE Zf.o HB.o); exact Zg.o; rintro e a9 ⟨rfl, hb⟩; refine zG3 (fI (zg_6 Zc.o) hb) (fB (g := c) (o := .cells #[.slice d a.length i, .slice j b.length l] 26 (0, 0)) (zg_3 Za.o) hb) (eZ (zg_2 HB.o Zb.o) hb) ?_; clear Zc Za HB; intro Zc Za HB; (try clear hb); (try clear hb2); (try clear hk); (try clear hi)))
 go_ret
 exact ⟨ze, zg_2 HB.o Zb.o⟩
theorem Tryz_extra : Builder.Extra fM Tryz.laysJoin_ren where
  sizeBuilder := by kernel_rfl
  liesBuilder := by kernel_rfl
  t5 := Tryz.underlying5
  a5 := Tryz.isAgg5
  z5 := Tryz.sizeOf5
  v5 := Tryz.zeroValue5
  infoByte := by kernel_rfl
  cellsByte := by kernel_rfl
  sizeByte := by kernel_rfl
  neB5 := by decide
def dC.f (l0 : List ByteArray) (a1 : ByteArray) : Option ByteArray := if l0.length ≤ 140737488355328 then (if (Lib.join (l0.map (·.data.toList)) a1.data.toList).length ≤ 140737488355328 then some (⟨(Lib.join (l0.map (·.data.toList)) a1.data.toList).toArray⟩ : ByteArray) else none) else none
theorem dC.calls (d : Option Addr) (b : Nat) (a : List ByteArray) (a1 : ByteArray) (r : ByteArray) (w : World) (g : Kd.C gV w d a.length a) (i : a.length ≤ b) (h : dC.f a a1 = some r) :
    Calls fM 76 #[.slice d a.length b, .string a1] w fun e w' => e = .returned (.string r) ∧ Below w.heap.size w w' := by
  unfold dC.f at h
  by_cases h0 : a.length ≤ 140737488355328
  rotate_left
  · rw [if_neg h0] at h; cases h
  rw [if_pos h0] at h
  by_cases h1 : (Lib.join (a.map (·.data.toList)) a1.data.toList).length ≤ 140737488355328
  rotate_left
  · rw [if_neg h1] at h; cases h
  rw [if_pos h1] at h
  obtain rfl := fF h
  by_cases hn : 0 < a.length
  rotate_left
  · have e : a = [] := List.eq_nil_of_length_eq_zero (by omega)
    subst e
    refine (Any.strings_Join_none Tryz.laysJoin Tryz_extra d b a1 w).mono ?_
    rintro e w' ⟨rfl, rfl⟩
    exact ⟨rfl, fX _ _⟩
  obtain ⟨ad, ha, hx⟩ := g.2.2 hn
  subst ha
  have hcell : ∀ (j : Nat) x, a[j]? = some x → w.cell? (ad.add j) = some (.string x) := by
    intro j x hj
    obtain ⟨c, hc, hK, hcc⟩ := hx j x hj
    have hK' : c = [.string x] := hK
    subst hK'
    have h2 := hcc 0 _ rfl
    have e : j * gV.sz + 0 = j := by show j * 1 + 0 = j; omega
    rw [e] at h2
    exact h2
  have h00 := hcell 0 a[0] (List.getElem?_eq_getElem hn)
  obtain ⟨bk, o, sp⟩ := ad
  have h01 : w.cell? ⟨bk, o, sp⟩ = some (.string a[0]) := h00
  have hsp : sp = none := by
    cases sp with
    | none => rfl
    | some q =>
      exfalso
      unfold World.cell? at h01
      split at h01
      · simp at h01
      · cases h01
  subst hsp
  have hadd : ∀ j : Nat, Addr.add ⟨bk, o, none⟩ j = ⟨bk, o + j, none⟩ := by
    intro j
    unfold Addr.add
    split
    · rename_i e; subst e; rfl
    · rfl
  refine (Any.strings_Join Tryz.laysJoin Tryz_extra bk o b a a1 w (fun j x hj => ?_) (eU w _ h01) h0 i h1)
  have h3 := hcell j x hj
  rw [hadd j] at h3
  exact h3
end Go.Proofs.YtniceoohmhjjlaaGreatDoor.Q
