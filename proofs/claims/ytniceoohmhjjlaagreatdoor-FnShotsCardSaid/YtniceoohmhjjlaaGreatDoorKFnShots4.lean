/- What laws.FnShots reaches, part 4: the functions as Lean functions, the proofs that the program's functions answer so, and plain laws about them. -/
import Derived.Test.YtniceoohmhjjlaaGreatDoorKFnShots1
import Derived.Test.YtniceoohmhjjlaaGreatDoorKFnShots2
import Derived.Test.YtniceoohmhjjlaaGreatDoorKFnShots3
namespace Go.Proofs.YtniceoohmhjjlaaGreatDoor.Q
open Go.RowKit Go.Proofs.YtniceoohmhjjlaaGreatDoor.Ext Go.Proofs.YtniceoohmhjjlaaGreatDoorW.PrintWords Go.Proofs.YtniceoohmhjjlaaGreatDoorW.PrintLast Go.Proofs.YtniceoohmhjjlaaGreatDoorW.PrintMore
attribute [local go_sem] max2_int min2_int max_two min_two max_three min_three max_four min_four   -- for this text's walks alone
open Bool renaming true → tt, false → ff
open Go.Value renaming ownBlock → ob
open Go renaming results_cell_row → jE
open Go.Act renaming put → gE
open Go.IntKind renaming i64 → nK
open Go.Proofs.Tryz renaming func29 → jI, prog → fM, underlying23 → iP, underlying31 → fW
open Go.Proofs.YtniceoohmhjjlaaGreatDoor.Ext.Kd renaming R_ownB → iY
open Go.Proofs.YtniceoohmhjjlaaGreatDoorW.PrintLast renaming any_of → gD, goesL_ → gU, i64_w → iQ, one_of → iS, pure_ → gR, putSel_on → lI, putSel_upk → kT, steps_cons → kC, take_ → kA, take_ofW → hZ, with_tabW → kJ
open Go.Proofs.YtniceoohmhjjlaaGreatDoorW.PrintWords renaming below_alloc → gO, below_drew1 → gA, below_set → iG, below_size → eV, below_step → eZ, blk_alloc → fV, blk_below → fB, blk_cell → eY, blk_drew → fU, blk_drewN → gG, blk_far → kE, blk_frozen → gL, blk_grown → gW, blk_lt → hO, box_event → fS, gate_callee → fJ, gate_dst → fP, pw_below_drewN → gB
open Go.Proofs.YtniceoohmhjjlaaGreatDoorW.PrintWords.Kd renaming C_below → fE, R_after → iK, R_alloc → fY, R_append_rows_step → mF, R_base → fH, R_below → fI, R_drew → fK, R_drewN → fZ, R_elder' → iZ, R_far → fR, R_lit → lT, R_lit_step → nB, R_lower → fL, R_lt → fO, R_mono → eX, R_ne → gJ, R_new' → fT, R_over' → lL, R_reads' → fC, R_slice → fA, R_types → fD, S_alloc → jA, S_drew → iU, S_drewN → jB, S_mono → gQ, S_slice → iF, S_typed → lR, S_types → hX, at_int → gY, fresh' → gF, int → fG, string → gV
open Go.Proofs.YtniceoohmhjjlaaGreatDoorW.PrintWords.KeepBut renaming of_below → jO, refl → mY, set_ → nQ, trans → gS
open Go.Proofs.YtniceoohmhjjlaaGreatDoorW.PrintWords.Kept renaming below → kU
open Go.Proofs.YtniceoohmhjjlaaGreatDoorW.PrintWords.Reps renaming none → jD, one → lS
open Go.RowKit.Below renaming refl → fX
open Go.World renaming block_lt_of_cell? → eU, cell?_alloc_lt → kN
open _root_.Int renaming reduceToNat → gX, tdiv → kM, tmod → iO
open _root_.Nat renaming le_refl → fQ, ne_of_gt → gT, ne_of_lt → gN
open _root_.Option renaming bind_eq_some_iff → eW
open _root_.Option.some renaming inj → fF, injEq → gC
open _root_.Prod.mk renaming injEq → gP
set_option linter.unusedVariables false
set_option linter.unusedSimpArgs false

set_option linter.unusedVariables false
set_option linter.unusedSimpArgs false
def cR.f (k : Nat) (l0_0 : List Int) (l0_1 : List (S53)) : Option (List ByteArray × Int) := (aG.f k l0_0 l0_1).bind fun t804 => (if t804 = true then ((bD.f k l0_0 l0_1).bind fun t805 => (some (t805, 0))) else (some ((([] : List ByteArray)), 1)))
set_option maxHeartbeats 8000000 in
set_option maxRecDepth 100000 in
theorem cR.calls (k : Nat) (d : Option Addr) (i : Nat) (a : List Int) (j : Option Addr) (l : Nat) (b : List (S53)) (x : List ByteArray) (y : Int) (w : World) (q : Kd.C (fG .i64) w d a.length a) (r : a.length ≤ i) (s : Kd.C k53 w j b.length b) (u : b.length ≤ l) (h : cR.f k a b = some (x, y)) :
    Calls fM 7 #[.agg #[.slice d a.length i, .slice j b.length l]] w fun e w' => ∃ A : Value, e = .returned (.tuple #[A, .int .i64 y]) ∧ Kd.R gV 9 w' w.heap.size (fun _ => True) A x ∧ Below w.heap.size w w' := by
 have hu26 := Tryz.underlying26; have Zc := zm q; have Zd := zm r; clear q r; have Ze := zm s; have Zf := zm u; clear s u; have HB := zm (fX w.heap.size w); have H := h
 unfold cR.f at H
 clear h; replace H := eW.mp H
 obtain ⟨F, B, H⟩ := H
 try dsimp only at H
 have I := zm B; clear B
 by_cases z : F = true
 rotate_left
 ·replace z := Bool.eq_false_iff.mpr z
  subst z
  replace H : (some ((([] : List ByteArray)), 1)) = some (x, y) := by rw [if_neg (show ¬ (false = true) by decide)] at H; exact H
  obtain ⟨G, n⟩ : ∃ y_ : List ByteArray, y_ = (([] : List ByteArray)) := ⟨_, rfl⟩
  replace H : (some (G, 1)) = some (x, y) := zy H n
  have v := zm n; clear n
  simp only [gC, gP] at H
  obtain ⟨rfl, rfl⟩ := H
  go_enter Tryz.func7, Tryz.ntmps7
  go_wp2_with (first | ((with_reducible refine fP (N := 1) rfl ?_); refine fS zo (N := 1) zo (cs := #[.slice d a.length i, .slice j b.length l]) (t := 26) zh ?_; intro c hg O hbox hb; refine zG4 (eZ (zg_1 HB.o) hb) (hbox) ((by rw [hg]; exact (eV (zg_1 HB.o)) : w.heap.size ≤ c)) ((by rw [hg]; exact (eV (zg_1 HB.o)) : w.heap.size ≤ c)) ?_; clear HB; intro HB Za Zg Zb; clear hb hbox hg; obtain ⟨_, _, _, _⟩ := zb2 Za.o) | ((with_reducible refine fJ (f := 18) rfl ?_); refine gU (some 5) rfl rfl Tryz.func18 (by kernel_rfl) rfl #[.agg #[.slice d a.length i, .slice j b.length l]] rfl zq ?_; (with_reducible refine (aG.calls k _ _ a _ _ b false _ ?_ ?_ ?_ ?_ I.o).mono ?_); exact zC (fE Zc.o HB.o); exact Zd.o; exact zC (fE Ze.o HB.o); exact Zf.o; rintro e S ⟨rfl, hb⟩; refine ⟨_, rfl, ?_⟩; refine zG2 (fB (g := c) (o := .cells #[.slice d a.length i, .slice j b.length l] 26 (0, 0)) (zg_3 Za.o) hb) (eZ (zg_2 HB.o Zb.o) hb) ?_; clear Za HB; intro Za HB; (try clear hb); (try clear hb2); (try clear hk); (try clear hi)) | ((with_reducible refine fP (N := 7) rfl ?_); refine lT gV _ 9 ?hg (N := 7) ?hd (xs := ([] : List ByteArray)) (inner := []) (ok := fun _ => True) (okp := fun _ => True) ?hr ?hp (fun _ hk => hk) trivial (fX _ _) (fQ _) (by simp) ?_; (case hd => rfl); (case hg => rfl); (case hr => first | (go_simp; done) | (go_simp; rfl)); (case hp => exact (jD _ _)); intro J T m hb hg_ hnew_; clear hg_ hnew_; (first | rw [← v.o] at m | (simp only [gX] at m; rw [← v.o] at m)); refine zG3 (fL m (eV (zg_2 HB.o Zb.o))) (fB (g := c) (o := .cells #[.slice d a.length i, .slice j b.length l] 26 (0, 0)) (zg_3 Za.o) hb) (eZ (zg_2 HB.o Zb.o) hb) ?_; clear Za HB; intro Zi Za HB; clear hb m))
  go_ret2
  exact ⟨_, ze, by (with_reducible repeat (first | apply fY | apply fZ | apply fK)); exact Zi.o, zg_2 HB.o Zb.o⟩
 subst z
 replace H : ((bD.f k a b).bind fun p => (some (p, 0))) = some (x, y) := by rw [if_pos rfl] at H; exact H
 replace H := eW.mp H
 obtain ⟨p, D, H⟩ := H
 replace H : (some (p, 0)) = some (x, y) := H
 have L := zm D; clear D
 simp only [gC, gP] at H
 obtain ⟨rfl, rfl⟩ := H
 go_enter Tryz.func7, Tryz.ntmps7
 go_wp2_with (first | ((with_reducible refine fP (N := 1) rfl ?_); refine fS zo (N := 1) zo (cs := #[.slice d a.length i, .slice j b.length l]) (t := 26) zh ?_; intro c hg U hbox hb; refine zG4 (eZ (zg_1 HB.o) hb) (hbox) ((by rw [hg]; exact (eV (zg_1 HB.o)) : w.heap.size ≤ c)) ((by rw [hg]; exact (eV (zg_1 HB.o)) : w.heap.size ≤ c)) ?_; clear HB; intro HB Za Zg Zb; clear hb hbox hg; obtain ⟨_, _, _, _⟩ := zb2 Za.o) | ((with_reducible refine fJ (f := 18) rfl ?_); refine gU (some 5) rfl rfl Tryz.func18 (by kernel_rfl) rfl #[.agg #[.slice d a.length i, .slice j b.length l]] rfl zq ?_; (with_reducible refine (aG.calls k _ _ a _ _ b true _ ?_ ?_ ?_ ?_ I.o).mono ?_); exact zC (fE Zc.o HB.o); exact Zd.o; exact zC (fE Ze.o HB.o); exact Zf.o; rintro e V ⟨rfl, hb⟩; refine ⟨_, rfl, ?_⟩; refine zG2 (fB (g := c) (o := .cells #[.slice d a.length i, .slice j b.length l] 26 (0, 0)) (zg_3 Za.o) hb) (eZ (zg_2 HB.o Zb.o) hb) ?_; clear Za HB; intro Za HB; (try clear hb); (try clear hb2); (try clear hk); (try clear hi); obtain ⟨_, _, _, _⟩ := zb2 Za.o) | ((with_reducible refine fJ (f := 19) rfl ?_); refine gU (some 9) rfl rfl Tryz.func19 (by kernel_rfl) rfl #[.agg #[.slice d a.length i, .slice j b.length l]] rfl zq ?_; (with_reducible refine (bD.calls k _ _ a _ _ b p _ ?_ ?_ ?_ ?_ L.o).mono ?_); exact zC (fE Zc.o HB.o); exact Zd.o; exact zC (fE Ze.o HB.o); exact Zf.o; rintro e X ⟨M, rfl, E, hb⟩; refine ⟨_, rfl, ?_⟩; refine zG3 (fL E (eV (zg_2 HB.o Zb.o))) (fB (g := c) (o := .cells #[.slice d a.length i, .slice j b.length l] 26 (0, 0)) (zg_3 Za.o) hb) (eZ (zg_2 HB.o Zb.o) hb) ?_; clear Za HB; intro Zh Za HB; (try clear hb); (try clear hb2); (try clear hk); (try clear hi); (try clear E)))
 go_ret2
 exact ⟨_, ze, by (with_reducible repeat (first | apply fY | apply fZ | apply fK)); exact Zh.o, zg_2 HB.o Zb.o⟩
def dJ.f (l0 : List Int) : Option (List Int × Int × Int) := some (l0, 0, (l0.length : Int) % 1000)
set_option maxHeartbeats 8000000 in
set_option maxRecDepth 100000 in
theorem dJ.calls (m : Option Addr) (n : Nat) (b : List Int) (o : List Int) (p : Int) (q : Int) (c w : World) (hB : Below c.heap.size c w) (j : Kd.C (fG .u8) c m b.length b) (l : b.length ≤ n) (h : dJ.f b = some (o, p, q)) :
    Calls fM 14 #[.slice m b.length n] w fun e w' => ∃ g_ : Nat, e = .returned (.pointer (some ⟨g_, 0, none⟩)) ∧ IsS62 c w' g_ o p q ∧ Below c.heap.size c w' ∧ Below w.heap.size w w' := by
  have hu62 := Tryz.underlying62; have r := zm j; have u := zm l; clear j l; have HBW := zm (fX w.heap.size w); have s := zm hB.size; have HB := zm hB; clear hB
  have H : (some (b, 0, (b.length : Int) % 1000)) = some (o, p, q) := h
  clear h
  simp only [gC, gP] at H
  obtain ⟨rfl, rfl, rfl⟩ := H
  go_enter Tryz.func14, Tryz.ntmps14
  go_wp2_with (first | ((with_reducible refine fP (N := 8) rfl ?_); refine fS zo (N := 8) zo (cs := #[.slice m b.length n, .int .i64 0, .int .i64 ((b.length : Int) % 1000)]) (t := 62) zh ?_; intro a hg v hbox hb; refine zG5 (eZ HBW.o hb) (eZ (by repeat (first | (with_reducible first | exact HB.o | apply gO | apply gB | apply gA) | exact HB.o)) hb) (hbox) ((by rw [hg]; exact (eV (by repeat (first | (with_reducible first | exact HBW.o | apply gO | apply gB | apply gA) | exact HBW.o))) : w.heap.size ≤ a)) ((Nat.le_trans s.o (by rw [hg]; exact (eV (by repeat (first | (with_reducible first | exact HBW.o | apply gO | apply gB | apply gA) | exact HBW.o))) : w.heap.size ≤ a) : c.heap.size ≤ a)) ?_; clear HBW HB; intro HBW HB g i d; clear hb hbox hg))
  go_ret
  exact ⟨_, rfl, (show IsS62 c _ a b 0 ((b.length : Int) % 1000) from ⟨_, _, by (with_reducible repeat (first | refine gG ?_ _ | refine fU ?_ | refine fV ?_ _)); exact g.o, d.o, r.o⟩), by repeat (first | (with_reducible first | exact HB.o | apply gO | apply gB | apply gA | refine iG ?_ d.o) | exact HB.o), by repeat (first | (with_reducible first | exact HBW.o | apply gO | apply gB | apply gA | refine iG ?_ i.o) | exact HBW.o)⟩
def bT.f (s0_0 : List Int) (s0_1 : Int) (s0_2 : Int) : Option (Int × Int × Int) := if (wrap64 (s0_1 + 1)) ≤ (s0_0.length : Int) then (if 0 ≤ (wrap64 ((wrap64 (s0_1 + 1)) - 1)) then (if (wrap64 ((wrap64 (s0_1 + 1)) - 1)) < (s0_0.length : Int) then (some (wrap64 (rd s0_0 (wrap64 ((wrap64 (s0_1 + 1)) - 1))), wrap64 (s0_1 + 1), iO (wrap64 ((wrap64 ((wrap64 (s0_2 * 31)) + (wrap64 (rd s0_0 (wrap64 ((wrap64 (s0_1 + 1)) - 1)))))) + 7)) 2147483648)) else (none)) else (none)) else (if (wrap64 (s0_1 + 1)) > 3000 then (some (0, wrap64 (s0_1 + 1), s0_2)) else (some (iO (wrap64 (kM (iO (wrap64 ((wrap64 (s0_2 * 1103515245)) + 12345)) 2147483648) 65536)) 256, wrap64 (s0_1 + 1), iO (wrap64 ((wrap64 (s0_2 * 1103515245)) + 12345)) 2147483648)))
set_option maxHeartbeats 8000000 in
set_option maxRecDepth 100000 in
theorem bT.calls (g : Nat) (a : List Int) (b : Int) (i : Int) (r : Int) (s : Int) (l : Int) (d w : World) (hI : IsS62 d w g a b i) (hB : Below d.heap.size d w) (h : bT.f a b i = some (r, s, l)) :
    Calls fM 61 #[.pointer (some ⟨g, 0, none⟩)] w fun e w' => e = .returned (.int .i64 r) ∧ IsS62 d w' g a s l ∧ Below d.heap.size d w' ∧ KeepBut w w' g none := by
 have hu62 := Tryz.underlying62
 obtain ⟨A, c, hb, hge, hr⟩ := hI
 have t := cellS62_1 hb; have hf1 := gL hb 1
 have hb1 : (w.setCell ⟨g, 1, none⟩ (.int .i64 (wrap64 (b + 1)))).heap[g]? = some (.cells #[.slice A a.length c, .int .i64 (wrap64 (b + 1)), .int .i64 i] 62 (0, 0)) := by simpa using blk_set hb 1 _
 have hk1 : KeepBut w (w.setCell ⟨g, 1, none⟩ (.int .i64 (wrap64 (b + 1)))) g none := nQ (mY w g none) 1 _
 have hB1 : Below d.heap.size d (w.setCell ⟨g, 1, none⟩ (.int .i64 (wrap64 (b + 1)))) := iG hB hge
 have HH := zm h; clear h; have HR := zm hr; clear hr
 go_enter Tryz.func61, Tryz.ntmps61
 go_wp2
 generalize w.setCell ⟨g, 1, none⟩ (.int .i64 (wrap64 (b + 1))) = j at hb1 hk1 hB1 ⊢
 generalize hx : wrap64 (b + 1) = x at hb1 ⊢
 clear hb t hf1; have hd0 := cellS62_0 hb1; have hd1 := cellS62_1 hb1; have hd2 := cellS62_2 hb1; have hf2 := gL hb1 2; have H := HH.o; clear HH
 unfold bT.f at H
 rw [hx] at H
 by_cases n : x ≤ (a.length : Int)
 rotate_left
 ·rw [if_neg n] at H
  have hd : decide (x ≤ (a.length : Int)) = false := decide_eq_false n
  go_quiet (fail)
  have hb3 : (j.drewN nq).heap[g]? = some (.cells #[.slice A a.length c, .int .i64 x, .int .i64 i] 62 (0, 0)) := hb1
  have hB3 : Below d.heap.size d (j.drewN nq) := (gB hB1 _)
  have hk3 : KeepBut w (j.drewN nq) g none := (keep_drewN hk1 _)
  generalize hw3 : (j.drewN nq) = m at hb3 hB3 hk3 ⊢
  clear hd0 hd1 hd2 hf2; have he0 := cellS62_0 hb3; have he1 := cellS62_1 hb3; have he2 := cellS62_2 hb3; have hf3 := gL hb3 2
  by_cases o : x > 3000
  ·rw [if_pos o] at H
   have hd' : decide (x > 3000) = true := decide_eq_true o
   injection H with H
   injection H with H1 H2
   injection H2 with H2 H3
   subst H1 H2 H3
   go_wp2
   go_ret
   exact ⟨rfl, ⟨_, _, hb3, hge, HR.o⟩, hB3, hk3⟩
  rw [if_neg o] at H
  have hd' : decide (x > 3000) = false := decide_eq_false o
  injection H with H
  injection H with H1 H2
  injection H2 with H2 H3
  subst H1 H2 H3
  go_wp2
  go_ret
  exact ⟨by first | rfl | (simp only [iQ]; rfl), ⟨_, _, by simpa [World.drewN, World.drew] using blk_set hb3 2 _, hge, HR.o⟩, iG hB3 hge, nQ hk3 2 _⟩
 rw [if_pos n] at H
 by_cases p : 0 ≤ wrap64 (x - 1)
 rotate_left
 ·rw [if_neg p] at H; cases H
 rw [if_pos p] at H
 by_cases q : wrap64 (x - 1) < (a.length : Int)
 rotate_left
 ·rw [if_neg q] at H; cases H
 rw [if_pos q] at H
 obtain ⟨ad, ha, hv⟩ := gY HR.o (wrap64 (x - 1)) p q
 subst ha; have hv1 := pw_cell_below hB1 hv
 have hd : decide (x ≤ (a.length : Int)) = true := decide_eq_true n
 go_quiet (fail)
 go_wp2
 refine wp_region_still_tail 21 (by kernel_rfl) (by kernel_rfl) ?_
 simp only [List.take_succ_cons, List.take_zero, List.drop_succ_cons, List.drop_zero]
 change wpStill _ _ (j.drewN nq).drew (fun a' => wpList _ _ _ _ a' (j.drewN nq).drew) _ _
 have hb3 : (j.drewN nq).drew.heap[g]? = some (.cells #[.slice (some ad) a.length c, .int .i64 x, .int .i64 i] 62 (0, 0)) := hb1
 have hv3 : (j.drewN nq).drew.cell? (ad.add (wrap64 (x - 1)).toNat) = some (.int .u8 (rd a (wrap64 (x - 1)))) := hv1
 have hB3 : Below d.heap.size d (j.drewN nq).drew := gA (gB hB1 _)
 have hk3 : KeepBut w (j.drewN nq).drew g none := keep_drew (keep_drewN hk1 _)
 generalize hw3 : (j.drewN nq).drew = m at hb3 hv3 hB3 hk3 ⊢
 have he0 := cellS62_0 hb3; have he1 := cellS62_1 hb3; have he2 := cellS62_2 hb3; have hf3 := gL hb3 2
 have ew : nK.wrap (x - 1) = wrap64 (x - 1) := iQ _
 generalize wrap64 (x - 1) = y at p q H hv hv1 hv3 ew
 repeat still_step
 refine wpStill_nil ?_
 go_wp2
 injection H with H
 injection H with H1 H2
 injection H2 with H2 H3
 subst H1 H2
 rw [H3]
 clear H3
 have hb4 : (m.setCell ⟨g, 2, none⟩ (.int .i64 l)).heap[g]? = some (.cells #[.slice (some ad) a.length c, .int .i64 x, .int .i64 l] 62 (0, 0)) := by simpa using blk_set hb3 2 _
 have hk4 : KeepBut w (m.setCell ⟨g, 2, none⟩ (.int .i64 l)) g none := nQ hk3 2 _
 have hB4 : Below d.heap.size d (m.setCell ⟨g, 2, none⟩ (.int .i64 l)) := iG hB3 hge
 generalize m.setCell ⟨g, 2, none⟩ (.int .i64 l) = u at hb4 hk4 hB4 ⊢
 clear he0 he1 he2 hf3 hv3 hv1 hd0 hd1 hd2 hf2 hb3 hb1 hk1 hB1; have hv4 := pw_cell_below hB4 hv; have he0 := cellS62_0 hb4; have he1 := cellS62_1 hb4
 go_quiet (fail)
 go_wp2
 go_ret
 exact ⟨(by rw [iQ]; rfl), ⟨_, _, hb4, hge, HR.o⟩, gB hB4 _, keep_drewN hk4 _⟩
def aD.f (s0_0 : List Int) (s0_1 : Int) (s0_2 : Int) (a1 : Int) : Option (Int × Int × Int) := if a1 ≤ 1 then (some (0, s0_1, s0_2)) else (if a1 ≤ 256 then ((bT.f s0_0 s0_1 s0_2).bind fun bt224 => (if a1 = 0 then (none) else (some (iO bt224.1 a1, bt224.2.1, bt224.2.2)))) else ((bT.f s0_0 s0_1 s0_2).bind fun bt227 => ((bT.f s0_0 bt227.2.1 bt227.2.2).bind fun bt230 => ((bT.f s0_0 bt230.2.1 bt230.2.2).bind fun bt233 => (if a1 = 0 then (none) else (some (iO (wrap64 ((wrap64 ((wrap64 (bt227.1 * 65536)) + (wrap64 (bt230.1 * 256)))) + bt233.1)) a1, bt233.2.1, bt233.2.2)))))))
set_option maxHeartbeats 8000000 in
set_option maxRecDepth 100000 in
theorem aD.calls (g : Nat) (b : List Int) (d : Int) (i : Int) (a1 : Int) (I : Int) (J : Int) (L : Int) (c w : World) (hI : IsS62 c w g b d i) (hB : Below c.heap.size c w) (h : aD.f b d i a1 = some (I, J, L)) :
    Calls fM 29 #[.pointer (some ⟨g, 0, none⟩), .int .i64 a1] w fun e w' => e = .returned (.int .i64 I) ∧ IsS62 c w' g b J L ∧ Below c.heap.size c w' ∧ KeepBut w w' g none := by
 have a := zm hI; have HK := zm (mY w g none); have HL := zm hB.size; clear hI; have X := zm hB.size; have HB := zm hB; clear hB; have H := h
 unfold aD.f at H
 clear h
 by_cases l : a1 ≤ 1
 ·rw [if_pos l] at H
  have x := decide_eq_true l; clear l
  simp only [gC, gP] at H
  obtain ⟨rfl, rfl, rfl⟩ := H
  go_enter jI, Tryz.ntmps29
  go_wp2
  go_ret
  exact ⟨ze, zg_10 a.o, zg_11 HB.o a.o, zg_12 HK.o⟩
 rw [if_neg l] at H; have x := decide_eq_false l; clear l
 by_cases m : a1 ≤ 256
 ·rw [if_pos m] at H
  have y := decide_eq_true m; clear m; replace H := eW.mp H
  obtain ⟨⟨z, A, B⟩, t, H⟩ := H
  try dsimp only at H
  have R := zm t; clear t
  by_cases s : a1 = 0
  ·rw [if_pos s] at H
   exact absurd H (by simp)
  rw [if_neg s] at H
  have S : (a1 == 0) = false := beq_eq_false_iff_ne.mpr s
  have T : (a1 != 0) = true := bne_iff_ne.mpr s
  simp only [gC, gP] at H
  obtain ⟨rfl, rfl, rfl⟩ := H
  go_enter jI, Tryz.ntmps29
  go_wp2_with (first | ((with_reducible refine fJ (f := 61) rfl ?_); refine gU (some 13) rfl rfl Tryz.func61 (by kernel_rfl) rfl #[.pointer (some ⟨g, 0, none⟩)] rfl zq ?_; (with_reducible refine (bT.calls g b d i z A B c _ ?_ ?_ R.o).mono ?_); exact (zg_10 a.o); exact (zg_11 HB.o a.o); rintro e w7 ⟨rfl, hi, hb, hk⟩; refine ⟨_, rfl, ?_⟩; refine zG3 (gS (zg_12 HK.o) hk (.inl rfl)) (hb) (hi) ?_; clear HK HB a; intro HK HB a; (try clear hb); (try clear hb2); (try clear hk); (try clear hi)))
  go_ret
  exact ⟨ze, zg_10 a.o, zg_11 HB.o a.o, zg_12 HK.o⟩
 rw [if_neg m] at H; have y := decide_eq_false m; clear m; replace H := eW.mp H
 obtain ⟨⟨C, n, o⟩, u, H⟩ := H
 try dsimp only at H
 have U := zm u; clear u; replace H := eW.mp H
 obtain ⟨⟨D, p, q⟩, v, H⟩ := H
 try dsimp only at H
 have V := zm v; clear v; replace H := eW.mp H
 obtain ⟨⟨E, F, G⟩, r, H⟩ := H
 try dsimp only at H
 have M := zm r; clear r
 by_cases j : a1 = 0
 ·rw [if_pos j] at H
  exact absurd H (by simp)
 rw [if_neg j] at H
 have N : (a1 == 0) = false := beq_eq_false_iff_ne.mpr j
 have O : (a1 != 0) = true := bne_iff_ne.mpr j
 simp only [gC, gP] at H
 obtain ⟨rfl, rfl, rfl⟩ := H
 go_enter jI, Tryz.ntmps29
 go_wp2_with (first | ((with_reducible refine fJ (f := 61) rfl ?_); refine gU (some 17) rfl rfl Tryz.func61 (by kernel_rfl) rfl #[.pointer (some ⟨g, 0, none⟩)] rfl zq ?_; (with_reducible refine (bT.calls g b d i C n o c _ ?_ ?_ U.o).mono ?_); exact (zg_10 a.o); exact (zg_11 HB.o a.o); rintro e Y ⟨rfl, hi, hb, hk⟩; refine ⟨_, rfl, ?_⟩; refine zG3 (gS (zg_12 HK.o) hk (.inl rfl)) (hb) (hi) ?_; clear HK HB a; intro HK HB a; (try clear hb); (try clear hb2); (try clear hk); (try clear hi)) | ((with_reducible refine fJ (f := 61) rfl ?_); refine gU (some 19) rfl rfl Tryz.func61 (by kernel_rfl) rfl #[.pointer (some ⟨g, 0, none⟩)] rfl zq ?_; (with_reducible refine (bT.calls g b n o D p q c _ ?_ ?_ V.o).mono ?_); exact (zg_10 a.o); exact (zg_11 HB.o a.o); rintro e Z ⟨rfl, hi, hb, hk⟩; refine ⟨_, rfl, ?_⟩; refine zG3 (gS (zg_12 HK.o) hk (.inl rfl)) (hb) (hi) ?_; clear HK HB a; intro HK HB a; (try clear hb); (try clear hb2); (try clear hk); (try clear hi)) | ((with_reducible refine fJ (f := 61) rfl ?_); refine gU (some 21) rfl rfl Tryz.func61 (by kernel_rfl) rfl #[.pointer (some ⟨g, 0, none⟩)] rfl zq ?_; (with_reducible refine (bT.calls g b p q E F G c _ ?_ ?_ M.o).mono ?_); exact (zg_10 a.o); exact (zg_11 HB.o a.o); rintro e a0 ⟨rfl, hi, hb, hk⟩; refine ⟨_, rfl, ?_⟩; refine zG3 (gS (zg_12 HK.o) hk (.inl rfl)) (hb) (hi) ?_; clear HK HB a; intro HK HB a; (try clear hb); (try clear hb2); (try clear hk); (try clear hi)))
 go_ret
 exact ⟨ze, zg_10 a.o, zg_11 HB.o a.o, zg_12 HK.o⟩
def cO.f (s0_0 : List Int) (s0_1 : Int) (s0_2 : Int) (a1 : Int) : Option (Bool × Int × Int) := (aD.f s0_0 s0_1 s0_2 a1).bind fun bt236 => (some ((bt236.1 == (wrap64 (a1 - 1))), bt236.2.1, bt236.2.2))
set_option maxHeartbeats 8000000 in
set_option maxRecDepth 100000 in
theorem cO.calls (g : Nat) (b : List Int) (c : Int) (d : Int) (a1 : Int) (o : Bool) (p : Int) (q : Int) (i w : World) (hI : IsS62 i w g b c d) (hB : Below i.heap.size i w) (h : cO.f b c d a1 = some (o, p, q)) :
    Calls fM 30 #[.pointer (some ⟨g, 0, none⟩), .int .i64 a1] w fun e w' => e = .returned (.bool o) ∧ IsS62 i w' g b p q ∧ Below i.heap.size i w' ∧ KeepBut w w' g none := by
 have a := zm hI; have HK := zm (mY w g none); have HL := zm hB.size; clear hI; have s := zm hB.size; have HB := zm hB; clear hB; have H := h
 unfold cO.f at H
 clear h; replace H := eW.mp H
 obtain ⟨⟨l, m, n⟩, j, H⟩ := H
 try dsimp only at H
 have r := zm j; clear j
 simp only [gC, gP] at H
 obtain ⟨rfl, rfl, rfl⟩ := H
 go_enter Tryz.func30, Tryz.ntmps30
 go_wp2_with (first | ((with_reducible refine fJ (f := 29) rfl ?_); refine gU (some 7) rfl rfl jI (by kernel_rfl) rfl #[.pointer (some ⟨g, 0, none⟩), .int .i64 a1] rfl zq ?_; (with_reducible refine (aD.calls g b c d a1 l m n i _ ?_ ?_ r.o).mono ?_); exact (zg_10 a.o); exact (zg_11 HB.o a.o); rintro e t ⟨rfl, hi, hb, hk⟩; refine ⟨_, rfl, ?_⟩; refine zG3 (gS (zg_12 HK.o) hk (.inl rfl)) (hb) (hi) ?_; clear HK HB a; intro HK HB a; (try clear hb); (try clear hb2); (try clear hk); (try clear hi)))
 go_ret
 exact ⟨ze, zg_10 a.o, zg_11 HB.o a.o, zg_12 HK.o⟩
def cK.f (s0_0 : List Int) (s0_1 : Int) (s0_2 : Int) : Option (Int × Int × Int) := (aD.f s0_0 s0_1 s0_2 9).bind fun bt551 => ((aD.f s0_0 bt551.2.1 bt551.2.2 70000).bind fun bt554 => ((some (([bt551.1, bt554.1, 2147483647] : List Int) : List Int)).bind fun y557 => ((aD.f s0_0 bt554.2.1 bt554.2.2 9).bind fun bt560 => (if 0 ≤ (wrap64 (kM bt560.1 4)) then (if (wrap64 (kM bt560.1 4)) < (y557.length : Int) then (some (rd y557 (wrap64 (kM bt560.1 4)), bt560.2.1, bt560.2.2)) else (none)) else (none)))))
set_option maxHeartbeats 8000000 in
set_option maxRecDepth 100000 in
theorem cK.calls (g : Nat) (b : List Int) (q : Int) (r : Int) (B : Int) (C : Int) (D : Int) (m w : World) (hI : IsS62 m w g b q r) (hB : Below m.heap.size m w) (h : cK.f b q r = some (B, C, D)) :
    Calls fM 39 #[.pointer (some ⟨g, 0, none⟩)] w fun e w' => e = .returned (.int .i64 B) ∧ IsS62 m w' g b C D ∧ Below m.heap.size m w' ∧ KeepBut w w' g none := by
 have a := zm hI; have HK := zm (mY w g none); have HL := zm hB.size; clear hI; have Y := zm hB.size; have HB := zm hB; clear hB; have H := h
 unfold cK.f at H
 clear h; replace H := eW.mp H
 obtain ⟨⟨d, x, y⟩, E, H⟩ := H
 try dsimp only at H
 have J := zm E; clear E; replace H := eW.mp H
 obtain ⟨⟨i, n, o⟩, F, H⟩ := H
 try dsimp only at H
 have L := zm F; clear F
 obtain ⟨j, p⟩ : ∃ y_ : List Int, y_ = (([d, i, 2147483647] : List Int)) := ⟨_, rfl⟩
 replace H : ((aD.f b n o 9).bind fun c => (if 0 ≤ (wrap64 (kM c.1 4)) then (if (wrap64 (kM c.1 4)) < (j.length : Int) then (some (rd j (wrap64 (kM c.1 4)), c.2.1, c.2.2)) else (none)) else (none))) = some (B, C, D) := zy H p
 have v := zm p; clear p; replace H := eW.mp H
 obtain ⟨⟨s, z, A⟩, G, H⟩ := H
 try dsimp only at H
 have O := zm G; clear G
 obtain ⟨ji5, hji5⟩ : ∃ j_ : Int, (wrap64 (kM s 4)) = j_ := ⟨_, rfl⟩
 replace H : (if 0 ≤ (ji5) then (if (ji5) < (j.length : Int) then (some (rd j (ji5), z, A)) else (none)) else (none)) = some (B, C, D) := by first | (rw [hji5] at H; exact H) | (simp only [hji5] at H ⊢; exact H)
 (try rw [hji5] at J)
 (try rw [hji5] at L)
 (try rw [hji5] at O)
 have hji5w : (nK.wrap (kM s 4)) = ji5 := (iQ _).trans hji5
 replace H := zid H; obtain ⟨S, H⟩ := H
 replace H := zid H; obtain ⟨T, H⟩ := H
 simp only [gC, gP] at H
 obtain ⟨rfl, rfl, rfl⟩ := H
 go_enter Tryz.func39, Tryz.ntmps39
 go_wp2_with (first | ((with_reducible refine fJ (f := 29) rfl ?_); refine gU (some 4) rfl rfl jI (by kernel_rfl) rfl #[.pointer (some ⟨g, 0, none⟩), .int .i64 9] rfl zq ?_; (with_reducible refine (aD.calls g b q r 9 d x y m _ ?_ ?_ J.o).mono ?_); exact (zg_10 a.o); exact (zg_11 HB.o a.o); rintro e w8 ⟨rfl, hi, hb, hk⟩; refine ⟨_, rfl, ?_⟩; refine zG3 (gS (zg_12 HK.o) hk (.inl rfl)) (hb) (hi) ?_; clear HK HB a; intro HK HB a; (try clear hb); (try clear hb2); (try clear hk); (try clear hi)) | ((with_reducible refine fJ (f := 29) rfl ?_); refine gU (some 6) rfl rfl jI (by kernel_rfl) rfl #[.pointer (some ⟨g, 0, none⟩), .int .i64 70000] rfl zq ?_; (with_reducible refine (aD.calls g b x y 70000 i n o m _ ?_ ?_ L.o).mono ?_); exact (zg_10 a.o); exact (zg_11 HB.o a.o); rintro e w9 ⟨rfl, hi, hb, hk⟩; refine ⟨_, rfl, ?_⟩; refine zG3 (gS (zg_12 HK.o) hk (.inl rfl)) (hb) (hi) ?_; clear HK HB a; intro HK HB a; (try clear hb); (try clear hb2); (try clear hk); (try clear hi)) | ((with_reducible refine fP (N := 7) rfl ?_); refine lT (fG .i64) _ 3 ?hg (N := 7) ?hd (xs := ([d, i, 2147483647] : List Int)) (inner := [.int .i64 d, .int .i64 i, .int .i64 2147483647]) (ok := fun _ => True) (okp := fun _ => True) ?hr ?hp (fun _ hk => hk) trivial (fX _ _) (fQ _) (by simp) ?_; (case hd => rfl); (case hg => rfl); (case hr => first | (go_simp; done) | (go_simp; rfl)); (case hp => exact (lS (show Kd.M (fG .i64) _ _ _ d [.int .i64 d] from rfl) (lS (show Kd.M (fG .i64) _ _ _ i [.int .i64 i] from rfl) (lS (show Kd.M (fG .i64) _ _ _ 2147483647 [.int .i64 2147483647] from rfl) (jD _ _))))); intro U Z l hb hg_ hnew_; clear hg_ hnew_; (first | rw [← v.o] at l | (simp only [gX] at l; rw [← v.o] at l)); refine zG4 (fL l (keep_size (w := w) (g := g) (row := none) (zg_12 HK.o))) (IsS62.below (zg_10 a.o) hb) (gS (zg_12 HK.o) (jO hb g none) (.inl rfl)) (eZ (zg_11 HB.o a.o) hb) ?_; clear a HK HB; intro Za a HK HB; clear hb l) | ((with_reducible refine fJ (f := 29) rfl ?_); refine gU (some 9) rfl rfl jI (by kernel_rfl) rfl #[.pointer (some ⟨g, 0, none⟩), .int .i64 9] rfl zq ?_; (with_reducible refine (aD.calls g b n o 9 s z A m _ ?_ ?_ O.o).mono ?_); exact (zg_10 a.o); exact (zg_11 HB.o a.o); rintro e a0 ⟨rfl, hi, hb, hk⟩; refine ⟨_, rfl, ?_⟩; refine zG4 (eX (Kd.R_keep (IsS62.apart (show IsS62 m _ g b n o from zg_10 a.o) (zg_6 Za.o) (by decide)) hk (fun _ h => h.2)) (fun _ h => h.1)) (gS (zg_12 HK.o) hk (.inl rfl)) (hb) (hi) ?_; clear Za HK HB a; intro Za HK HB a; (try clear hb); (try clear hb2); (try clear hk); (try clear hi); obtain ⟨V, X, rfl⟩ := fA Za.o; have t : 0 ≤ ((ji5) : Int) := zd; have u : (ji5) < (j.length : Int) := zd; obtain ⟨R, I, hx563_0⟩ := gY (fC Za.o).2.2 (ji5) t u; cases I; replace t := eq_true t; replace u := eq_true u))
 go_ret
 exact ⟨by first | rfl | (simp [errW_none, errW_some] <;> rfl) | (simp only [← hji5]; first | rfl | (simp [errW_none, errW_some] <;> rfl)) | (simp [*, errW_none, errW_some] <;> rfl), zg_10 a.o, zg_11 HB.o a.o, zg_12 HK.o⟩
def cZ.f (s0_0 : List Int) (s0_1 : Int) (s0_2 : Int) (a1 : Int) : Option (Int × Int × Int) := some (mn (wrap64 (1 + (wrap64 ((s0_0.length : Int) / 12)))) a1, s0_1, s0_2)
set_option maxHeartbeats 8000000 in
set_option maxRecDepth 100000 in
theorem cZ.calls (g : Nat) (a : List Int) (b : Int) (c : Int) (a1 : Int) (j : Int) (l : Int) (m : Int) (i w : World) (hI : IsS62 i w g a b c) (hB : Below i.heap.size i w) (h : cZ.f a b c a1 = some (j, l, m)) :
    Calls fM 31 #[.pointer (some ⟨g, 0, none⟩), .int .i64 a1] w fun e w' => e = .returned (.int .i64 j) ∧ IsS62 i w' g a l m ∧ Below i.heap.size i w' ∧ KeepBut w w' g none := by
  have d := zm hI; have HK := zm (mY w g none); have HL := zm hB.size; clear hI; have n := zm hB.size; have HB := zm hB; clear hB
  have H : (some (mn (wrap64 (1 + (wrap64 ((a.length : Int) / 12)))) a1, b, c)) = some (j, l, m) := h
  clear h
  obtain ⟨ji3, hji3⟩ : ∃ j_ : Int, (mn (wrap64 (1 + (wrap64 ((a.length : Int) / 12)))) a1) = j_ := ⟨_, rfl⟩
  replace H : (some (ji3, b, c)) = some (j, l, m) := by first | (rw [hji3] at H; exact H) | (simp only [hji3] at H ⊢; exact H)
  have hji3_ : (if a1 < (wrap64 (1 + (wrap64 ((a.length : Int) / 12)))) then a1 else (wrap64 (1 + (wrap64 ((a.length : Int) / 12))))) = ji3 := hji3
  simp only [gC, gP] at H
  obtain ⟨rfl, rfl, rfl⟩ := H
  obtain ⟨ASz4_0, cSz4_0, HGz4, hgz4, HSz4_0⟩ := d.o
  have hcz4_0 := cellS62_0 HGz4; have hcz4_1 := cellS62_1 HGz4; have hcz4_2 := cellS62_2 HGz4; have hfz4_1 := gL HGz4 1; have hfz4_2 := gL HGz4 2; clear HGz4 hgz4
  go_enter Tryz.func31, Tryz.ntmps31
  go_wp2
  go_ret
  exact ⟨by first | rfl | (simp [errW_none, errW_some] <;> rfl) | (simp only [← hji3]; first | rfl | (simp [errW_none, errW_some] <;> rfl)) | (simp [*, errW_none, errW_some] <;> rfl), by repeat (first | (with_reducible first | exact d.o | apply IsS62.alloc | apply IsS62.drewN | apply IsS62.drew | apply IsS62.set_1 | apply IsS62.set_2) | exact d.o), by repeat (first | (with_reducible first | exact HB.o | apply gO | apply gB | apply gA | refine iG ?_ (IsS62.ge d.o)) | exact HB.o), by repeat (first | (with_reducible first | exact HK.o | apply nQ | apply keep_drewN | apply keep_drew | apply keep_alloc) | exact HK.o)⟩
def cP.f (s0_0 : List Int) (s0_1 : Int) (s0_2 : Int) (l1 : List ByteArray) : Option (ByteArray × Int × Int) := if (l1.length : Int) = 0 then (some ((⟨#[]⟩ : ByteArray), s0_1, s0_2)) else ((aD.f s0_0 s0_1 s0_2 (l1.length : Int)).bind fun bt330 => (if 0 ≤ bt330.1 then (if bt330.1 < (l1.length : Int) then (some (rdOf ByteArray.empty l1 bt330.1, bt330.2.1, bt330.2.2)) else (none)) else (none)))
set_option maxHeartbeats 8000000 in
set_option maxRecDepth 100000 in
theorem cP.calls (g : Nat) (c : List Int) (j : Int) (l : Int) (t : Option Addr) (A : Nat) (a : List ByteArray) (B : ByteArray) (D : Int) (E : Int) (m w : World) (hI : IsS62 m w g c j l) (hB : Below m.heap.size m w) (q : Kd.C gV w t a.length a) (r : a.length ≤ A) (hf1 : ∀ ad, t = some ad → 0 < a.length → ad.block ≠ g) (h : cP.f c j l a = some (B, D, E)) :
    Calls fM 64 #[.pointer (some ⟨g, 0, none⟩), .slice t a.length A] w fun e w' => e = .returned (.string B) ∧ IsS62 m w' g c D E ∧ Below m.heap.size m w' ∧ KeepBut w w' g none := by
 have F := zm q; have M := zm r; clear q r; have b := zm hI; have HK := zm (mY w g none); have HL := zm hB.size; clear hI; have N := zm hB.size; have HB := zm hB; clear hB; have H := h
 unfold cP.f at H
 clear h
 by_cases i : (a.length : Int) = 0
 ·rw [if_pos i] at H
  have u : ((a.length : Int) == 0) = true := beq_iff_eq.mpr i
  have v : ((a.length : Int) != 0) = false := bne_eq_false_iff_eq.mpr i
  clear i
  simp only [gC, gP] at H
  obtain ⟨rfl, rfl, rfl⟩ := H
  go_enter Tryz.func64, Tryz.ntmps64
  go_wp2
  go_ret
  exact ⟨ze, zg_10 b.o, zg_11 HB.o b.o, zg_12 HK.o⟩
 rw [if_neg i] at H
 have u : ((a.length : Int) == 0) = false := beq_eq_false_iff_ne.mpr i
 have v : ((a.length : Int) != 0) = true := bne_iff_ne.mpr i
 have G : ¬ (a = []) := fun h_ => i (by rw [h_]; rfl)
 replace H := eW.mp H
 obtain ⟨⟨d, x, y⟩, s, H⟩ := H
 try dsimp only at H
 have I := zm s; clear s
 replace H := zid H; obtain ⟨J, H⟩ := H
 replace H := zid H; obtain ⟨L, H⟩ := H
 simp only [gC, gP] at H
 obtain ⟨rfl, rfl, rfl⟩ := H
 go_enter Tryz.func64, Tryz.ntmps64
 go_wp2_with (first | ((with_reducible refine fJ (f := 29) rfl ?_); refine gU (some 12) rfl rfl jI (by kernel_rfl) rfl #[.pointer (some ⟨g, 0, none⟩), .int .i64 (a.length : Int)] rfl zq ?_; (with_reducible refine (aD.calls g c j l (a.length : Int) d x y m _ ?_ ?_ I.o).mono ?_); exact (zg_10 b.o); exact (zg_11 HB.o b.o); rintro e O ⟨rfl, hi, hb, hk⟩; refine ⟨_, rfl, ?_⟩; refine zG3 (gS (zg_12 HK.o) hk (.inl rfl)) (hb) (hi) ?_; clear HK HB b; intro HK HB b; (try clear hb); (try clear hb2); (try clear hk); (try clear hi); have n : 0 ≤ (d : Int) := zd; have o : d < (a.length : Int) := zd; obtain ⟨p, z, hx333_0⟩ := Kd.at_string F.o d n o; cases z; replace hx333_0 := keep_cell HK.o hx333_0 (by first | (rw [add_block]; exact hf1 _ rfl (by omega)) | exact hf1 _ rfl (by omega) | exact hf1 p rfl (by omega)); replace n := eq_true n; replace o := eq_true o))
 go_ret
 exact ⟨ze, zg_10 b.o, zg_11 HB.o b.o, zg_12 HK.o⟩
def bO.f (s0_0 : List Int) (s0_1 : Int) (s0_2 : Int) : Option (ByteArray × Int × Int) := (cP.f s0_0 s0_1 s0_2 (([(⟨#[97]⟩ : ByteArray), (⟨#[98]⟩ : ByteArray), (⟨#[99]⟩ : ByteArray), (⟨#[115, 110, 97, 112]⟩ : ByteArray)] : List ByteArray))).bind fun bt337 => (some (bt337.1, bt337.2.1, bt337.2.2))
set_option maxHeartbeats 8000000 in
set_option maxRecDepth 100000 in
theorem bO.calls (g : Nat) (c : List Int) (d : Int) (i : Int) (r : ByteArray) (s : Int) (t : Int) (m w : World) (hI : IsS62 m w g c d i) (hB : Below m.heap.size m w) (h : bO.f c d i = some (r, s, t)) :
    Calls fM 33 #[.pointer (some ⟨g, 0, none⟩)] w fun e w' => e = .returned (.string r) ∧ IsS62 m w' g c s t ∧ Below m.heap.size m w' ∧ KeepBut w w' g none := by
 have b := zm hI; have HK := zm (mY w g none); have HL := zm hB.size; clear hI; have C := zm hB.size; have HB := zm hB; clear hB; have H := h
 unfold bO.f at H
 clear h
 obtain ⟨o, j⟩ : ∃ y_ : List ByteArray, y_ = (([(⟨#[97]⟩ : ByteArray), (⟨#[98]⟩ : ByteArray), (⟨#[99]⟩ : ByteArray), (⟨#[115, 110, 97, 112]⟩ : ByteArray)] : List ByteArray)) := ⟨_, rfl⟩
 replace H : ((cP.f c d i o).bind fun l => (some (l.1, l.2.1, l.2.2))) = some (r, s, t) := zy H j
 have p := zm j; clear j; replace H := eW.mp H
 obtain ⟨⟨u, v, x⟩, q, H⟩ := H
 try dsimp only at H
 have A := zm q; clear q
 simp only [gC, gP] at H
 obtain ⟨rfl, rfl, rfl⟩ := H
 go_enter Tryz.func33, Tryz.ntmps33
 go_wp2_with (first | ((with_reducible refine fP (N := 4) rfl ?_); refine lT gV _ 9 ?hg (N := 4) ?hd (xs := ([(⟨#[97]⟩ : ByteArray), (⟨#[98]⟩ : ByteArray), (⟨#[99]⟩ : ByteArray), (⟨#[115, 110, 97, 112]⟩ : ByteArray)] : List ByteArray)) (inner := [.string (⟨#[97]⟩ : ByteArray), .string (⟨#[98]⟩ : ByteArray), .string (⟨#[99]⟩ : ByteArray), .string (⟨#[115, 110, 97, 112]⟩ : ByteArray)]) (ok := fun _ => True) (okp := fun _ => True) ?hr ?hp (fun _ hk => hk) trivial (fX _ _) (fQ _) (by simp) ?_; (case hd => rfl); (case hg => rfl); (case hr => first | (go_simp; done) | (go_simp; rfl)); (case hp => exact (lS (show Kd.M gV _ _ _ (⟨#[97]⟩ : ByteArray) [.string (⟨#[97]⟩ : ByteArray)] from rfl) (lS (show Kd.M gV _ _ _ (⟨#[98]⟩ : ByteArray) [.string (⟨#[98]⟩ : ByteArray)] from rfl) (lS (show Kd.M gV _ _ _ (⟨#[99]⟩ : ByteArray) [.string (⟨#[99]⟩ : ByteArray)] from rfl) (lS (show Kd.M gV _ _ _ (⟨#[115, 110, 97, 112]⟩ : ByteArray) [.string (⟨#[115, 110, 97, 112]⟩ : ByteArray)] from rfl) (jD _ _)))))); intro B D n hb hg_ hnew_; clear hg_ hnew_; (first | rw [← p.o] at n | (simp only [gX] at n; rw [← p.o] at n)); refine zG4 (fL n (keep_size (w := w) (g := g) (row := none) (zg_12 HK.o))) (IsS62.below (zg_10 b.o) hb) (gS (zg_12 HK.o) (jO hb g none) (.inl rfl)) (eZ (zg_11 HB.o b.o) hb) ?_; clear b HK HB; intro a b HK HB; clear hb n; obtain ⟨y, z, rfl⟩ := fA a.o) | ((with_reducible refine fJ (f := 64) rfl ?_); refine gU (some 5) rfl rfl Tryz.func64 (by kernel_rfl) rfl #[.pointer (some ⟨g, 0, none⟩), .slice y o.length z] rfl zq ?_; (with_reducible refine (cP.calls g c d i _ _ o u v x m _ ?_ ?_ ?_ ?_ ?_ A.o).mono ?_); exact (zg_10 b.o); exact (zg_11 HB.o b.o); exact zC ((fC a.o).2.2); exact (fC a.o).2.1; exact far_slice (IsS62.own_ne b.o a.o (by decide)); rintro e E ⟨rfl, hi, hb, hk⟩; refine ⟨_, rfl, ?_⟩; refine zG4 (eX (Kd.R_keep (IsS62.apart (show IsS62 m _ g c d i from zg_10 b.o) (zg_6 a.o) (by decide)) hk (fun _ h => h.2)) (fun _ h => h.1)) (gS (zg_12 HK.o) hk (.inl rfl)) (hb) (hi) ?_; clear a HK HB b; intro a HK HB b; (try clear hb); (try clear hb2); (try clear hk); (try clear hi)))
 go_ret
 exact ⟨ze, zg_10 b.o, zg_11 HB.o b.o, zg_12 HK.o⟩
def bE.l0 : Nat → ByteArray → Int → List Int → List Int → List (S60) → List Int → Option (Int)
  | 0, _, _, _, _, _, _ => none
  | k + 1, x1, x5, x276000, x276001, x276002, x276003 => if x5 < (x276002.length : Int) then (if 0 ≤ x5 then (if ((aH x276002 x5).f0).toList = x1.toList then (some x5) else (bE.l0 k x1 (wrap64 (x5 + 1)) x276000 x276001 x276002 x276003)) else (none)) else (some (-1))
def bE.f (k : Nat) (l0_0 : List Int) (l0_1 : List Int) (l0_2 : List (S60)) (l0_3 : List Int) (a1 : ByteArray) : Option (Int) := bE.l0 k a1 0 l0_0 l0_1 l0_2 l0_3
set_option maxHeartbeats 8000000 in
set_option maxRecDepth 100000 in
theorem bE.calls (k : Nat) (l : Option Addr) (m : Nat) (c : List Int) (n : Option Addr) (o : Nat) (d : List Int) (p : Option Addr) (q : Nat) (a : List (S60)) (s : Option Addr) (u : Nat) (g : List Int) (a1 : ByteArray) (r : Int) (w : World) (z : Kd.C (fG .i64) w l c.length c) (A : c.length ≤ m) (B : Kd.C (fG .i64) w n d.length d) (D : d.length ≤ o) (E : Kd.C k60 w p a.length a) (F : a.length ≤ q) (G : Kd.C (fG .i64) w s g.length g) (I : g.length ≤ u) (h : bE.f k c d a g a1 = some r) :
    Calls fM 62 #[.agg #[.slice l c.length m, .slice n d.length o, .slice p a.length q, .slice s g.length u], .string a1] w fun e w' => e = .returned (.int .i64 r) ∧ Below w.heap.size w w' := by
 have hu31 := fW; have Zf := zm z; have Zg := zm A; clear z A; have Zh := zm B; have Zi := zm D; clear B D; have Ze := zm E; have Zj := zm F; clear E F; have Zk := zm G; have Zl := zm I; clear G I; have HB := zm (fX w.heap.size w)
 have H : (bE.l0 k a1 0 c d a g) = some r := h
 clear h
 have H' := zm H
 clear H
 go_enter Tryz.func62, Tryz.ntmps62
 go_wp2_with (first | ((with_reducible refine fP (N := 2) rfl ?_); refine fS zo (N := 2) zo (cs := #[.slice l c.length m, .slice n d.length o, .slice p a.length q, .slice s g.length u]) (t := 31) zh ?_; intro v hg Y hbox hb; refine zG4 (eZ (zg_1 HB.o) hb) (hbox) ((by rw [hg]; exact (eV (zg_1 HB.o)) : w.heap.size ≤ v)) ((by rw [hg]; exact (eV (zg_1 HB.o)) : w.heap.size ≤ v)) ?_; clear HB; intro HB Za Zm Zb; clear hb hbox hg))
 go_loopg [5] k (fun kq V w' => ∃ (b : Int), V = .int .i64 b ∧ Aside0 (bE.l0 kq a1 b c d a g = some r) ∧ Aside0 (kq ≤ k) ∧ Aside0 (w'.heap[v]? = some (.cells #[(.slice l c.length m), (.slice n d.length o), (.slice p a.length q), (.slice s g.length u)] 31 (0, 0))) ∧ Aside0 (Below w.heap.size w w'))
 case atStart => exact ⟨(0), zr, H', ⟨fQ _⟩, ⟨zl Za.o⟩, ⟨zg_2 HB.o Zb.o⟩⟩
 case round =>
  clear H'
  try clear Z
  obtain ⟨b, rfl, HA, R, Za, HB⟩ := hrel
  cases gk with
  | zero => exact absurd HA.o (by simp [bE.l0])
  | succ k1 =>
   have H := HA.o; clear HA
   simp only [bE.l0] at H
   by_cases J : b < (a.length : Int)
   rotate_left
   ·rw [if_neg J] at H
    have S := decide_eq_false J; clear J; obtain rfl := fF H
    obtain ⟨_, _, _, _, _, _, _, _⟩ := zb4 Za.o
    go_wp2
    go_ret
    exact ⟨ze, zg_2 HB.o Zb.o⟩
   rw [if_pos J] at H; have S := decide_eq_true J; clear J
   replace H := zid H; obtain ⟨X, H⟩ := H
   by_cases x : ((aH a b).f0).toList = a1.toList
   ·rw [if_pos x] at H
    have T : (((aH a b).f0).toList == a1.toList) = true := beq_iff_eq.mpr x
    have U : (((aH a b).f0).toList != a1.toList) = false := bne_eq_false_iff_eq.mpr x
    clear x; obtain rfl := fF H
    obtain ⟨_, _, _, _, _, _, _, _⟩ := zb4 Za.o
    have i : 0 ≤ (b : Int) := zd
    have j : b < (a.length : Int) := zd
    obtain ⟨O, L, M, y, hx276_0, hx276_1, hl276_1, hi276_1⟩ := at_T60 Ze.o b i j
    cases y; replace hx276_0 := (HB.o.cell (eU w _ hx276_0)).trans hx276_0; replace hx276_1 := (HB.o.cell (eU w _ hx276_1)).trans hx276_1; have Zc := zm hi276_1; have Zd := zm hl276_1; clear hi276_1 hl276_1; replace i := eq_true i; replace j := eq_true j
    go_wp2
    go_ret
    exact ⟨ze, zg_2 HB.o Zb.o⟩
   rw [if_neg x] at H
   have T : (((aH a b).f0).toList == a1.toList) = false := beq_eq_false_iff_ne.mpr x
   have U : (((aH a b).f0).toList != a1.toList) = true := bne_iff_ne.mpr x
   have H' := zm H
   clear H
   obtain ⟨_, _, _, _, _, _, _, _⟩ := zb4 Za.o
   have i : 0 ≤ (b : Int) := zd
   have j : b < (a.length : Int) := zd
   obtain ⟨O, L, M, y, hx276_0, hx276_1, hl276_1, hi276_1⟩ := at_T60 Ze.o b i j
   cases y; replace hx276_0 := (HB.o.cell (eU w _ hx276_0)).trans hx276_0; replace hx276_1 := (HB.o.cell (eU w _ hx276_1)).trans hx276_1; have Zc := zm hi276_1; have Zd := zm hl276_1; clear hi276_1 hl276_1; replace i := eq_true i; replace j := eq_true j
   go_wp2
   go_roundg k1
   case measure => have := R.o; omega
   case rel => exact ⟨(wrap64 (b + 1)), zr, H', ⟨by have := R.o; omega⟩, ⟨zl Za.o⟩, ⟨zg_2 HB.o Zb.o⟩⟩
def aE.l0 : Nat → Int → List Int → List Int → List (S60) → List Int → List Int → List Int → List (S60) → List Int → Option (List Int × List Int × (List (S60)) × List Int)
  | 0, _, _, _, _, _, _, _, _, _ => none
  | k + 1, x4, x240000, x240001, x240002, x240003, x263000, x263001, x263002, x263003 => if x4 < (x240002.length : Int) then (if 0 ≤ x4 then ((some (([] : List Int) : List Int)).bind fun y264 => (if y264.length + ((aH x240002 x4).f1).length < 17592186044416 then (if x263002.length < 3518437208883 then (aE.l0 k (wrap64 (x4 + 1)) x240000 x240001 x240002 x240003 x263000 x263001 (x263002 ++ [(⟨(aH x240002 x4).f0, (y264 ++ ((aH x240002 x4).f1))⟩ : S60)]) x263003) else (none)) else (none))) else (none)) else (some (x263000, x263001, x263002, x263003))
def aE.f (k : Nat) (l0_0 : List Int) (l0_1 : List Int) (l0_2 : List (S60)) (l0_3 : List Int) : Option (List Int × List Int × (List (S60)) × List Int) := (some (([] : List Int) : List Int)).bind fun y241 => (if y241.length + l0_0.length < 17592186044416 then ((some (([] : List Int) : List Int)).bind fun y247 => (if y247.length + l0_1.length < 17592186044416 then ((some (([] : List Int) : List Int)).bind fun y256 => (if y256.length + l0_3.length < 17592186044416 then (aE.l0 k 0 l0_0 l0_1 l0_2 l0_3 (y241 ++ l0_0) (y247 ++ l0_1) (([] : List (S60))) (y256 ++ l0_3)) else (none))) else (none))) else (none))
def aE.T1 : Bool × List (List Nat × List Nat) := (true, [([], []), ([], []), ([1], [1]), ([0, 2], [0, 2]), ([], []), ([], []), ([5], [5]), ([4, 6, 3], [4, 6]), ([], []), ([], []), ([], []), ([10], [10]), ([9, 11, 7], [9, 11]), ([3, 7, 8, 12], [3, 7, 8, 12]), ([], []), ([14, 13, 12, 0, 1, 2, 3, 4, 5, 6, 7, 8, 9, 10, 11, 12, 13, 14], [13, 14])])
def aE.B1 : List Nat := [0, 0, 2, 7, 0, 0, 32, 127, 0, 0, 0, 1024, 3839, 8191, 0, 32767]
theorem aE.tab1 : rtab .any (opsOf Tryz.f40 1) = aE.T1 := by kernel_rfl
theorem aE.bits1 : waitsOk aE.T1.2 aE.B1 = true := by kernel_rfl
def aE.T5 : Bool × List (List Nat × List Nat) := (true, [([], []), ([0], [0]), ([], []), ([2], [2]), ([], []), ([3, 4], [3, 4]), ([5], [5]), ([6], [6]), ([], []), ([], []), ([9], [9]), ([], []), ([10, 11], [10, 11]), ([12], [12]), ([13], [13]), ([8, 14], [8, 14]), ([7, 15], [7, 15]), ([16], [16]), ([1, 17, 15], [1, 17]), ([0, 1, 2, 3, 4, 5, 6, 7, 8, 9, 10, 11, 12, 13, 14, 15, 16, 17, 18], []), ([19, 18, 18, 0, 1, 2, 3, 4, 5, 6, 7, 8, 9, 10, 11, 12, 13, 14, 15, 16, 17, 18], [18, 19])])
def aE.B5 : List Nat := [0, 1, 0, 4, 0, 28, 60, 124, 0, 0, 512, 0, 3584, 7680, 15872, 32512, 65532, 131068, 262143, 524287, 1048575]
theorem aE.tab5 : rtab .any (opsOf Tryz.f40 5) = aE.T5 := by kernel_rfl
theorem aE.bits5 : waitsOk aE.T5.2 aE.B5 = true := by kernel_rfl
set_option maxHeartbeats 8000000 in
set_option maxRecDepth 100000 in
theorem aE.calls (k : Nat) (a9 : Option Addr) (b0 : Nat) (T : List Int) (b1 : Option Addr) (b2 : Nat) (E : List Int) (d0 : Option Addr) (c7 : Nat) (y : List (S60)) (b3 : Option Addr) (b4 : Nat) (x : List Int) (r1 : List Int) (r2 : List Int) (r3 : List (S60)) (r4 : List Int) (w : World) (i9 : Kd.C (fG .i64) w a9 T.length T) (j0 : T.length ≤ b0) (j1 : Kd.C (fG .i64) w b1 E.length E) (j2 : E.length ≤ b2) (j3 : Kd.C k60 w d0 y.length y) (j4 : y.length ≤ c7) (j5 : Kd.C (fG .i64) w b3 x.length x) (j6 : x.length ≤ b4) (h : aE.f k T E y x = some (r1, r2, r3, r4)) :
    Calls fM 40 #[.agg #[.slice a9 T.length b0, .slice b1 E.length b2, .slice d0 y.length c7, .slice b3 x.length b4]] w fun e w' => ∃ h9 i0 m6 i1 : Value, e = .returned (.agg #[h9, i0, m6, i1]) ∧ Kd.R (fG .i64) 3 w' w.heap.size (fun k_ => some k_ ≠ ob i0 ∧ some k_ ≠ ob i1) h9 r1 ∧ Kd.R (fG .i64) 3 w' w.heap.size (fun k_ => some k_ ≠ ob h9 ∧ some k_ ≠ ob i1) i0 r2 ∧ Kd.S k60 60 w' w.heap.size (fun k_ => some k_ ≠ ob h9 ∧ some k_ ≠ ob i0 ∧ some k_ ≠ ob i1) m6 r3 ∧ Kd.R (fG .i64) 3 w' w.heap.size (fun k_ => some k_ ≠ ob h9 ∧ some k_ ≠ ob i0) i1 r4 ∧ Below w.heap.size w w' := by
 have hu31 := fW; have hu60 := Tryz.underlying60; have ZE := zm i9; have ZJ := zm j0; clear i9 j0; have ZF := zm j1; have ZK := zm j2; clear j1 j2; have ZB := zm j3; have ZL := zm j4; clear j3 j4; have ZG := zm j5; have ZM := zm j6; clear j5 j6; have HB := zm (fX w.heap.size w); have H := h
 unfold aE.f at H
 clear h
 obtain ⟨f6, g8⟩ : ∃ y_ : List Int, y_ = (([] : List Int)) := ⟨_, rfl⟩
 replace H : (if f6.length + T.length < 17592186044416 then ((some (([] : List Int) : List Int)).bind fun d1 => (if d1.length + E.length < 17592186044416 then ((some (([] : List Int) : List Int)).bind fun c6 => (if c6.length + x.length < 17592186044416 then (aE.l0 k 0 T E y x (f6 ++ T) (d1 ++ E) (([] : List (S60))) (c6 ++ x)) else (none))) else (none))) else (none)) = some (r1, r2, r3, r4) := zy H g8
 have j7 := zm g8; clear g8
 replace H := zif H; obtain ⟨c2, H⟩ := H; have n1 := zm c2; clear c2
 obtain ⟨U, g9⟩ : ∃ y_ : List Int, y_ = (f6 ++ T) := ⟨_, rfl⟩
 replace H : ((some (([] : List Int) : List Int)).bind fun d1 => (if d1.length + E.length < 17592186044416 then ((some (([] : List Int) : List Int)).bind fun c6 => (if c6.length + x.length < 17592186044416 then (aE.l0 k 0 T E y x U (d1 ++ E) (([] : List (S60))) (c6 ++ x)) else (none))) else (none))) = some (r1, r2, r3, r4) := zy H g9
 have l6 := zm g9; clear g9
 obtain ⟨d1, h0⟩ : ∃ y_ : List Int, y_ = (([] : List Int)) := ⟨_, rfl⟩
 replace H : (if d1.length + E.length < 17592186044416 then ((some (([] : List Int) : List Int)).bind fun c6 => (if c6.length + x.length < 17592186044416 then (aE.l0 k 0 T E y x U (d1 ++ E) (([] : List (S60))) (c6 ++ x)) else (none))) else (none)) = some (r1, r2, r3, r4) := zy H h0
 have j8 := zm h0; clear h0
 replace H := zif H; obtain ⟨c3, H⟩ := H; have n3 := zm c3; clear c3
 obtain ⟨X, h1⟩ : ∃ y_ : List Int, y_ = (d1 ++ E) := ⟨_, rfl⟩
 replace H : ((some (([] : List Int) : List Int)).bind fun c6 => (if c6.length + x.length < 17592186044416 then (aE.l0 k 0 T E y x U X (([] : List (S60))) (c6 ++ x)) else (none))) = some (r1, r2, r3, r4) := zy H h1
 have l7 := zm h1; clear h1
 obtain ⟨d5, h2⟩ : ∃ y_ : List (S60), y_ = (([] : List (S60))) := ⟨_, rfl⟩
 replace H : ((some (([] : List Int) : List Int)).bind fun c6 => (if c6.length + x.length < 17592186044416 then (aE.l0 k 0 T E y x U X d5 (c6 ++ x)) else (none))) = some (r1, r2, r3, r4) := zy H h2
 have j9 := zm h2; clear h2
 obtain ⟨c6, h3⟩ : ∃ y_ : List Int, y_ = (([] : List Int)) := ⟨_, rfl⟩
 replace H : (if c6.length + x.length < 17592186044416 then (aE.l0 k 0 T E y x U X d5 (c6 ++ x)) else (none)) = some (r1, r2, r3, r4) := zy H h3
 have k0 := zm h3; clear h3
 replace H := zif H; obtain ⟨c4, H⟩ := H; have n5 := zm c4; clear c4
 obtain ⟨a2, h4⟩ : ∃ y_ : List Int, y_ = (c6 ++ x) := ⟨_, rfl⟩
 replace H : (aE.l0 k 0 T E y x U X d5 a2) = some (r1, r2, r3, r4) := zy H h4
 have l8 := zm h4; clear h4
 have H' := zm H
 clear H
 go_enter Tryz.func40, Tryz.ntmps40
 try go_wp2_with (first | ((with_reducible refine fP (N := 1) rfl ?_); refine fS zo (N := 1) zo (cs := #[.slice a9 T.length b0, .slice b1 E.length b2, .slice d0 y.length c7, .slice b3 x.length b4]) (t := 31) zh ?_; intro B hg w5 hbox hb; refine zG4 (eZ (zg_1 HB.o) hb) (hbox) ((by rw [hg]; exact (eV (zg_1 HB.o)) : w.heap.size ≤ B)) ((by rw [hg]; exact (eV (zg_1 HB.o)) : w.heap.size ≤ B)) ?_; clear HB; intro HB Za ZN Zl; clear hb hbox hg) | ((with_reducible refine fP (N := 2) rfl ?_); refine fS zo (N := 2) zo (cs := #[.slice none 0 0, .slice none 0 0, .slice none 0 0, .slice none 0 0]) (t := 31) zh ?_; intro c5 hg w6 hbox hb; refine zG7 (fB (g := B) (o := .cells #[.slice a9 T.length b0, .slice b1 E.length b2, .slice d0 y.length c7, .slice b3 x.length b4] 31 (0, 0)) (zg_3 Za.o) hb) (eZ (zg_2 HB.o Zl.o) hb) (hbox) ((by rw [hg]; exact (eV (zg_2 HB.o Zl.o)) : w.heap.size ≤ c5)) ((by rw [hg]; exact (eV (zg_2 HB.o Zl.o)) : w.heap.size ≤ c5)) ((by rw [hg]; exact gN (hO (g := B) (o := .cells #[.slice a9 T.length b0, .slice b1 E.length b2, .slice d0 y.length c7, .slice b3 x.length b4] 31 (0, 0)) (zg_3 Za.o)) : B ≠ c5)) ((by rw [hg]; exact gT (hO (g := B) (o := .cells #[.slice a9 T.length b0, .slice b1 E.length b2, .slice d0 y.length c7, .slice b3 x.length b4] 31 (0, 0)) (zg_3 Za.o)) : c5 ≠ B)) ?_; clear Za HB; intro Za HB Zg ZO Zq Zv Zw; clear hb hbox hg))
 have d2 := zm (fU Za.o); have d3 := zm (fU Zg.o); have d4 := zm (gA HB.o); clear Za; clear Zg; clear HB; have Za := d2; have Zg := d3; have HB := d4; clear d2 d3 d4
 refine start_ (n := 16) (S := fun w' => True) (ds := []) #[ff, ff, ff, ff, ff, ff, ff, ff, ff, ff, ff, ff, ff, ff, ff, ff] (by kernel_rfl) rfl rfl trivial (fun hHeld => ?_); refine kJ aE.tab1 aE.bits1 (fun HT_ HW_ => ?_)
 generalize w6.drew = w7 at Za Zg HB hHeld ⊢
 refine gR (i := 1) (N := some 6) #[ff, tt, ff, ff, ff, ff, ff, ff, ff, ff, ff, ff, ff, ff, ff, ff] rfl rfl (gD HT_.o zk) (fun _ _ _ h => h) (.inl ⟨by rfl, zi⟩) zu ?_
 refine gR (i := 5) (N := some 10) #[ff, tt, ff, ff, ff, tt, ff, ff, ff, ff, ff, ff, ff, ff, ff, ff] rfl rfl (gD HT_.o zk) (fun _ _ _ h => h) (.inl ⟨by rfl, zi⟩) zu ?_
 refine gR (i := 10) (N := some 15) #[ff, tt, ff, ff, ff, tt, ff, ff, ff, ff, tt, ff, ff, ff, ff, ff] rfl rfl (gD HT_.o zk) (fun _ _ _ h => h) (.inl ⟨by rfl, zi⟩) zu ?_
 refine inv_at [0, 2, 3, 4, 6, 7, 8, 9, 11, 12, 13, 14, 15] (fun a0_ b a w' => ∃ (Z : Value) (a3 : Value) (a0 : Value) (a4 : Value) (a5 : Value) (a1 : Value) (a6 : Value) (c : Nat) (own_ : Nat → Nat) (m13_ : Value) (m14_ : Value), a = putSel a0_ b [(0, 5, Z), (2, 7, .slice a9 T.length b0), (3, 8, a3), (4, 9, a0), (6, 11, .slice b1 E.length b2), (7, 12, a4), (8, 13, a5), (9, 14, a1), (11, 16, .slice b3 x.length b4), (12, 17, a6), (13, 18, m13_), (14, 3, m14_)] ∧ (w'.heap[B]? = some (.cells #[.slice a9 T.length b0, .slice b1 E.length b2, .slice d0 y.length c7, .slice b3 x.length b4] 31 (0, 0))) ∧ (w'.heap[c5]? = some (.cells #[.slice none 0 0, .slice none 0 0, .slice none 0 0, .slice none 0 0] 31 (0, 0))) ∧ (Below w.heap.size w w') ∧ (b 0 = true → b 3 = false → Kd.R (fG .i64) 3 w' w.heap.size (fun k_ => own_ k_ = 0) Z f6) ∧ (b 3 = true → Kd.R (fG .i64) 3 w' w.heap.size (fun k_ => own_ k_ = 0) a3 U) ∧ (b 4 = true → b 7 = false → Kd.R (fG .i64) 3 w' w.heap.size (fun k_ => own_ k_ = 4) a0 d1) ∧ (b 7 = true → Kd.R (fG .i64) 3 w' w.heap.size (fun k_ => own_ k_ = 4) a4 X) ∧ (b 8 = true → Kd.S k60 60 w' w.heap.size (fun k_ => own_ k_ = 8) a5 d5) ∧ (b 9 = true → b 12 = false → Kd.R (fG .i64) 3 w' w.heap.size (fun k_ => own_ k_ = 9) a1 c6) ∧ (b 12 = true → Kd.R (fG .i64) 3 w' w.heap.size (fun k_ => own_ k_ = 9) a6 a2) ∧ (b 14 = true → b 15 = false → w'.heap[c]? = some (.cells #[.slice none 0 0, .slice none 0 0, .slice none 0 0, .slice none 0 0] 31 (0, 0))) ∧ (b 14 = true → w.heap.size ≤ c) ∧ (b 14 = true → w.heap.size ≤ c) ∧ (b 14 = true → B ≠ c) ∧ (b 14 = true → c ≠ B) ∧ (b 14 = true → c5 ≠ c) ∧ (b 14 = true → c ≠ c5) ∧ (b 15 = true → w'.heap[c]? = some (.cells #[a3, a4, a5, a6] 31 (0, 0))) ∧ (b 13 = true → (m13_ : Value) = .agg #[a3, a4, a5, a6]) ∧ (b 14 = true → (m14_ : Value) = .pointer (some ⟨c, 0, none⟩))) HT_.o HW_.o (by kernel_rfl) (by kernel_rfl) ?_ ?_ ?_
 ·exact ⟨.bool false, .bool false, .bool false, .bool false, .bool false, .bool false, .bool false, 0, fun _ => 0, .bool false, .bool false, by simp only [putSel, Bool.false_eq_true, if_false], Za.o, Zg.o, HB.o, fun h_ => absurd h_ (by decide), fun h_ => absurd h_ (by decide), fun h_ => absurd h_ (by decide), fun h_ => absurd h_ (by decide), fun h_ => absurd h_ (by decide), fun h_ => absurd h_ (by decide), fun h_ => absurd h_ (by decide), fun h_ => absurd h_ (by decide), fun h_ => absurd h_ (by decide), fun h_ => absurd h_ (by decide), fun h_ => absurd h_ (by decide), fun h_ => absurd h_ (by decide), fun h_ => absurd h_ (by decide), fun h_ => absurd h_ (by decide), fun h_ => absurd h_ (by decide), fun h_ => absurd h_ (by decide), fun h_ => absurd h_ (by decide)⟩
 ·skip
  clear Za Zg HB
  refine kC ?_ ?_
  ·rintro b a w' ⟨Z, a3, a0, a4, a5, a1, a6, c, own_, m13_, m14_, ha, q, r, M, O, D, I, J, u, G, V, s, z, A, d, j, l, m, F, a7, L⟩ hb_ hon hoff
   refine ⟨_, rfl, fun K hK => ?_⟩
   replace ha := zm ha
   refine nB (fG .i64) _ 3 ?hg (N := 5) ?hd (xs := ([] : List Int)) (inner := []) (ok := fun _ => True) (okp := fun _ => True) ?hr ?hp (fun _ hk => hk) trivial (fX _ _) (fQ _) (by simp) ?_; (case hd => rfl); (case hg => rfl); (case hr => first | (go_simp; done) | (go_simp; rfl)); (case hp => exact (jD _ _))
   intro Z w8 c8 hb hg_ hnew_
   (first | rw [← j7.o] at c8 | (simp only [gX] at c8; rw [← j7.o] at c8))
   refine hK.out _ _ ⟨Z, a3, a0, a4, a5, a1, a6, c, (fun k_ => if k_ < w'.heap.size then own_ k_ else 0), m13_, m14_, (by rw [ha.o]; exact kT 0 hb_ rfl rfl rfl), fB q hb, fB r hb, eZ M hb, fun _ _ => Kd.R_ownN c8 (eV M), fun h0_ => absurd ((hoff 3 (by kernel_rfl)).symm.trans h0_) (by decide), fun h0_ h1_ => iY (I h0_ h1_) hb, fun h0_ => absurd ((hoff 7 (by kernel_rfl)).symm.trans h0_) (by decide), fun h0_ => Kd.S_ownB (u h0_) hb, fun h0_ h1_ => iY (G h0_ h1_) hb, fun h0_ => absurd ((hoff 12 (by kernel_rfl)).symm.trans h0_) (by decide), fun h0_ h1_ => fB (s h0_ h1_) hb, z, A, d, j, l, m, fun h0_ => absurd ((hoff 15 (by kernel_rfl)).symm.trans h0_) (by decide), fun h0_ => absurd ((hoff 13 (by kernel_rfl)).symm.trans h0_) (by decide), L⟩
  refine kC ?_ ?_
  ·rintro b a w' ⟨Z, a3, a0, a4, a5, a1, a6, c, own_, m13_, m14_, ha, q, r, M, O, D, I, J, u, G, V, s, z, A, d, j, l, m, F, a7, L⟩ hb_ hon hoff
   refine ⟨_, rfl, fun K hK => ?_⟩
   have e6 : a.tmps[6]? = some (.pointer (some ⟨B, 0, none⟩)) := by rw [ha]; exact (putSel_off rfl).trans rfl
   replace ha := zm ha; have Za := zm q
   have hc0_ : w'.cell? ⟨B, 0, none⟩ = some (.slice a9 T.length b0) := (eY Za.o 0).trans rfl
   have hc1_ : w'.cell? ⟨B, 1, none⟩ = some (.slice b1 E.length b2) := (eY Za.o 1).trans rfl
   have hc2_ : w'.cell? ⟨B, 2, none⟩ = some (.slice d0 y.length c7) := (eY Za.o 2).trans rfl
   have hc3_ : w'.cell? ⟨B, 3, none⟩ = some (.slice b3 x.length b4) := (eY Za.o 3).trans rfl
   refine value_ (w1 := w') (v := .slice a9 T.length b0) (by rfl) rfl ?_ ?_
   ·go_simp
    (try simp only [iQ])
    try rfl
   refine hK.out _ _ ⟨Z, a3, a0, a4, a5, a1, a6, c, own_, m13_, m14_, (by rw [ha.o]; exact kT 1 hb_ rfl rfl rfl), q, r, M, O, fun h0_ => absurd ((hoff 3 (by kernel_rfl)).symm.trans h0_) (by decide), I, fun h0_ => absurd ((hoff 7 (by kernel_rfl)).symm.trans h0_) (by decide), u, G, fun h0_ => absurd ((hoff 12 (by kernel_rfl)).symm.trans h0_) (by decide), s, z, A, d, j, l, m, fun h0_ => absurd ((hoff 15 (by kernel_rfl)).symm.trans h0_) (by decide), fun h0_ => absurd ((hoff 13 (by kernel_rfl)).symm.trans h0_) (by decide), L⟩
  refine kC ?_ ?_
  ·rintro b a w' ⟨Z, a3, a0, a4, a5, a1, a6, c, own_, m13_, m14_, ha, q, r, M, O, D, I, J, u, G, V, s, z, A, d, j, l, m, F, a7, L⟩ hb_ hon hoff
   refine ⟨_, rfl, fun K hK => ?_⟩
   have e5 : a.tmps[5]? = some (Z) := by rw [ha]; exact lI (e := (0, 5, Z)) 0 rfl rfl (hon 0 (by kernel_rfl)) rfl
   have e7 : a.tmps[7]? = some (.slice a9 T.length b0) := by rw [ha]; exact lI (e := (2, 7, .slice a9 T.length b0)) 1 rfl rfl (hon 2 (by kernel_rfl)) rfl
   replace ha := zm ha; have HB := zm M; have Zs := zm (O (hon 0 (by kernel_rfl)) hb_)
   refine mF (fG .i64) (w0 := w) w.heap.size (by rfl) (.tmp 5) (.tmp 7) 23 3 (.int .i64 0) 8 rfl iP info3 rfl (by decide) (by omega) Z f6 T _ _ _ (fun _ => True) (fun _ => False) (eval_of e5) (eval_of e7) ?aO ?aR (fun _ _ h => h) (fun _ h => h.elim) ?aF ?aB ?aS ?aL ?_
   (case aR => exact zC (fE ZE.o HB.o))
   (case aB => exact M)
   (case aF => exact (fun _ _ => trivial))
   (case aO => exact eX Zs.o (fun _ _ => trivial))
   (case aS => exact (eV M))
   (case aL => have := n1.o; omega)
   intro a3 v3 ho hb hg hat
   rw [← l6.o] at ho
   refine hK.out _ _ ⟨Z, a3, a0, a4, a5, a1, a6, c, (fun k_ => if k_ < w'.heap.size then own_ k_ else 0), m13_, m14_, (by rw [ha.o]; exact kT 2 hb_ rfl rfl rfl), gW q hg (gJ Zs.o q (by decide)), gW r hg (gJ Zs.o r (by decide)), hb, fun _ h1_ => absurd ((up_self b 3).symm.trans h1_) (by decide), fun _ => Kd.R_ownA rfl ho hat Zs.o.1, fun h0_ h1_ => Kd.R_ownG (I h0_ h1_) Zs.o.1 (by decide) hg, fun h0_ => absurd ((hoff 7 (by kernel_rfl)).symm.trans h0_) (by decide), fun h0_ => Kd.S_ownG (u h0_) Zs.o.1 (by decide) hg, fun h0_ h1_ => Kd.R_ownG (G h0_ h1_) Zs.o.1 (by decide) hg, fun h0_ => absurd ((hoff 12 (by kernel_rfl)).symm.trans h0_) (by decide), fun h0_ h1_ => gW (s h0_ h1_) hg (gJ Zs.o (s h0_ h1_) (by decide)), z, A, d, j, l, m, fun h0_ => absurd ((hoff 15 (by kernel_rfl)).symm.trans h0_) (by decide), fun h0_ => absurd ((hoff 13 (by kernel_rfl)).symm.trans h0_) (by decide), L⟩
  refine kC ?_ ?_
  ·rintro b a w' ⟨Z, a3, a0, a4, a5, a1, a6, c, own_, m13_, m14_, ha, q, r, M, O, D, I, J, u, G, V, s, z, A, d, j, l, m, F, a7, L⟩ hb_ hon hoff
   refine ⟨_, rfl, fun K hK => ?_⟩
   replace ha := zm ha
   refine nB (fG .i64) _ 3 ?hg (N := 9) ?hd (xs := ([] : List Int)) (inner := []) (ok := fun _ => True) (okp := fun _ => True) ?hr ?hp (fun _ hk => hk) trivial (fX _ _) (fQ _) (by simp) ?_; (case hd => rfl); (case hg => rfl); (case hr => first | (go_simp; done) | (go_simp; rfl)); (case hp => exact (jD _ _))
   intro a0 w8 c8 hb hg_ hnew_
   (first | rw [← j8.o] at c8 | (simp only [gX] at c8; rw [← j8.o] at c8))
   refine hK.out _ _ ⟨Z, a3, a0, a4, a5, a1, a6, c, (fun k_ => if k_ < w'.heap.size then own_ k_ else 4), m13_, m14_, (by rw [ha.o]; exact kT 3 hb_ rfl rfl rfl), fB q hb, fB r hb, eZ M hb, fun h0_ h1_ => iY (O h0_ h1_) hb, fun h0_ => iY (D h0_) hb, fun _ _ => Kd.R_ownN c8 (eV M), fun h0_ => absurd ((hoff 7 (by kernel_rfl)).symm.trans h0_) (by decide), fun h0_ => Kd.S_ownB (u h0_) hb, fun h0_ h1_ => iY (G h0_ h1_) hb, fun h0_ => absurd ((hoff 12 (by kernel_rfl)).symm.trans h0_) (by decide), fun h0_ h1_ => fB (s h0_ h1_) hb, z, A, d, j, l, m, fun h0_ => absurd ((hoff 15 (by kernel_rfl)).symm.trans h0_) (by decide), fun h0_ => absurd ((hoff 13 (by kernel_rfl)).symm.trans h0_) (by decide), L⟩
  refine kC ?_ ?_
  ·rintro b a w' ⟨Z, a3, a0, a4, a5, a1, a6, c, own_, m13_, m14_, ha, q, r, M, O, D, I, J, u, G, V, s, z, A, d, j, l, m, F, a7, L⟩ hb_ hon hoff
   refine ⟨_, rfl, fun K hK => ?_⟩
   have v5 : a.tmps[10]? = some (.pointer (some ⟨B, 1, none⟩)) := by rw [ha]; exact (putSel_off rfl).trans rfl
   replace ha := zm ha; have Za := zm q
   have hc0_ : w'.cell? ⟨B, 0, none⟩ = some (.slice a9 T.length b0) := (eY Za.o 0).trans rfl
   have hc1_ : w'.cell? ⟨B, 1, none⟩ = some (.slice b1 E.length b2) := (eY Za.o 1).trans rfl
   have hc2_ : w'.cell? ⟨B, 2, none⟩ = some (.slice d0 y.length c7) := (eY Za.o 2).trans rfl
   have hc3_ : w'.cell? ⟨B, 3, none⟩ = some (.slice b3 x.length b4) := (eY Za.o 3).trans rfl
   refine value_ (w1 := w') (v := .slice b1 E.length b2) (by rfl) rfl ?_ ?_
   ·go_simp
    (try simp only [iQ])
    try rfl
   refine hK.out _ _ ⟨Z, a3, a0, a4, a5, a1, a6, c, own_, m13_, m14_, (by rw [ha.o]; exact kT 4 hb_ rfl rfl rfl), q, r, M, O, D, I, fun h0_ => absurd ((hoff 7 (by kernel_rfl)).symm.trans h0_) (by decide), u, G, fun h0_ => absurd ((hoff 12 (by kernel_rfl)).symm.trans h0_) (by decide), s, z, A, d, j, l, m, fun h0_ => absurd ((hoff 15 (by kernel_rfl)).symm.trans h0_) (by decide), fun h0_ => absurd ((hoff 13 (by kernel_rfl)).symm.trans h0_) (by decide), L⟩
  refine kC ?_ ?_
  ·rintro b a w' ⟨Z, a3, a0, a4, a5, a1, a6, c, own_, m13_, m14_, ha, q, r, M, O, D, I, J, u, G, V, s, z, A, d, j, l, m, F, a7, L⟩ hb_ hon hoff
   refine ⟨_, rfl, fun K hK => ?_⟩
   have e9 : a.tmps[9]? = some (a0) := by rw [ha]; exact lI (e := (4, 9, a0)) 3 rfl rfl (hon 4 (by kernel_rfl)) rfl
   have r7 : a.tmps[11]? = some (.slice b1 E.length b2) := by rw [ha]; exact lI (e := (6, 11, .slice b1 E.length b2)) 4 rfl rfl (hon 6 (by kernel_rfl)) rfl
   replace ha := zm ha; have HB := zm M; have Zt := zm (I (hon 4 (by kernel_rfl)) hb_)
   refine mF (fG .i64) (w0 := w) w.heap.size (by rfl) (.tmp 9) (.tmp 11) 23 3 (.int .i64 0) 8 rfl iP info3 rfl (by decide) (by omega) a0 d1 E _ _ _ (fun _ => True) (fun _ => False) (eval_of e9) (eval_of r7) ?aO ?aR (fun _ _ h => h) (fun _ h => h.elim) ?aF ?aB ?aS ?aL ?_
   (case aR => exact zC (fE ZF.o HB.o))
   (case aB => exact M)
   (case aF => exact (fun _ _ => trivial))
   (case aO => exact eX Zt.o (fun _ _ => trivial))
   (case aS => exact (eV M))
   (case aL => have := n3.o; omega)
   intro a4 v6 ho hb hg hat
   rw [← l7.o] at ho
   refine hK.out _ _ ⟨Z, a3, a0, a4, a5, a1, a6, c, (fun k_ => if k_ < w'.heap.size then own_ k_ else 4), m13_, m14_, (by rw [ha.o]; exact kT 5 hb_ rfl rfl rfl), gW q hg (gJ Zt.o q (by decide)), gW r hg (gJ Zt.o r (by decide)), hb, fun _ h1_ => absurd ((hon 3 (by kernel_rfl)).symm.trans h1_) (by decide), fun h0_ => Kd.R_ownG (D h0_) Zt.o.1 (by decide) hg, fun _ h1_ => absurd ((up_self b 7).symm.trans h1_) (by decide), fun _ => Kd.R_ownA rfl ho hat Zt.o.1, fun h0_ => Kd.S_ownG (u h0_) Zt.o.1 (by decide) hg, fun h0_ h1_ => Kd.R_ownG (G h0_ h1_) Zt.o.1 (by decide) hg, fun h0_ => absurd ((hoff 12 (by kernel_rfl)).symm.trans h0_) (by decide), fun h0_ h1_ => gW (s h0_ h1_) hg (gJ Zt.o (s h0_ h1_) (by decide)), z, A, d, j, l, m, fun h0_ => absurd ((hoff 15 (by kernel_rfl)).symm.trans h0_) (by decide), fun h0_ => absurd ((hoff 13 (by kernel_rfl)).symm.trans h0_) (by decide), L⟩
  refine kC ?_ ?_
  ·rintro b a w' ⟨Z, a3, a0, a4, a5, a1, a6, c, own_, m13_, m14_, ha, q, r, M, O, D, I, J, u, G, V, s, z, A, d, j, l, m, F, a7, L⟩ hb_ hon hoff
   refine ⟨_, rfl, fun K hK => ?_⟩
   replace ha := zm ha
   refine Kd.S_lit_step k60 _ 60 ?hg (N := 13) ?hd (xs := ([] : List (S60))) (inner := []) (ok := fun _ => True) (okp := fun _ => True) ?hr ?hp (fun _ hk => hk) trivial (fX _ _) (fQ _) (by simp) ?_; (case hd => rfl); (case hg => rfl); (case hr => first | (go_simp; done) | (go_simp; rfl)); (case hp => exact (jD _ _))
   intro a5 w8 c8 hb hg_ hnew_
   (first | rw [← j9.o] at c8 | (simp only [gX] at c8; rw [← j9.o] at c8))
   refine hK.out _ _ ⟨Z, a3, a0, a4, a5, a1, a6, c, (fun k_ => if k_ < w'.heap.size then own_ k_ else 8), m13_, m14_, (by rw [ha.o]; exact kT 6 hb_ rfl rfl rfl), fB q hb, fB r hb, eZ M hb, fun h0_ h1_ => iY (O h0_ h1_) hb, fun h0_ => iY (D h0_) hb, fun h0_ h1_ => iY (I h0_ h1_) hb, fun h0_ => iY (J h0_) hb, fun _ => Kd.S_ownN c8 (eV M), fun h0_ h1_ => iY (G h0_ h1_) hb, fun h0_ => iY (V h0_) hb, fun h0_ h1_ => fB (s h0_ h1_) hb, z, A, d, j, l, m, fun h0_ => absurd ((hoff 15 (by kernel_rfl)).symm.trans h0_) (by decide), fun h0_ => absurd ((hoff 13 (by kernel_rfl)).symm.trans h0_) (by decide), L⟩
  refine kC ?_ ?_
  ·rintro b a w' ⟨Z, a3, a0, a4, a5, a1, a6, c, own_, m13_, m14_, ha, q, r, M, O, D, I, J, u, G, V, s, z, A, d, j, l, m, F, a7, L⟩ hb_ hon hoff
   refine ⟨_, rfl, fun K hK => ?_⟩
   replace ha := zm ha
   refine nB (fG .i64) _ 3 ?hg (N := 14) ?hd (xs := ([] : List Int)) (inner := []) (ok := fun _ => True) (okp := fun _ => True) ?hr ?hp (fun _ hk => hk) trivial (fX _ _) (fQ _) (by simp) ?_; (case hd => rfl); (case hg => rfl); (case hr => first | (go_simp; done) | (go_simp; rfl)); (case hp => exact (jD _ _))
   intro a1 w8 c8 hb hg_ hnew_
   (first | rw [← k0.o] at c8 | (simp only [gX] at c8; rw [← k0.o] at c8))
   refine hK.out _ _ ⟨Z, a3, a0, a4, a5, a1, a6, c, (fun k_ => if k_ < w'.heap.size then own_ k_ else 9), m13_, m14_, (by rw [ha.o]; exact kT 7 hb_ rfl rfl rfl), fB q hb, fB r hb, eZ M hb, fun h0_ h1_ => iY (O h0_ h1_) hb, fun h0_ => iY (D h0_) hb, fun h0_ h1_ => iY (I h0_ h1_) hb, fun h0_ => iY (J h0_) hb, fun h0_ => Kd.S_ownB (u h0_) hb, fun _ _ => Kd.R_ownN c8 (eV M), fun h0_ => absurd ((hoff 12 (by kernel_rfl)).symm.trans h0_) (by decide), fun h0_ h1_ => fB (s h0_ h1_) hb, z, A, d, j, l, m, fun h0_ => absurd ((hoff 15 (by kernel_rfl)).symm.trans h0_) (by decide), fun h0_ => absurd ((hoff 13 (by kernel_rfl)).symm.trans h0_) (by decide), L⟩
  refine kC ?_ ?_
  ·rintro b a w' ⟨Z, a3, a0, a4, a5, a1, a6, c, own_, m13_, m14_, ha, q, r, M, O, D, I, J, u, G, V, s, z, A, d, j, l, m, F, a7, L⟩ hb_ hon hoff
   refine ⟨_, rfl, fun K hK => ?_⟩
   have v7 : a.tmps[15]? = some (.pointer (some ⟨B, 3, none⟩)) := by rw [ha]; exact (putSel_off rfl).trans rfl
   replace ha := zm ha; have Za := zm q
   have hc0_ : w'.cell? ⟨B, 0, none⟩ = some (.slice a9 T.length b0) := (eY Za.o 0).trans rfl
   have hc1_ : w'.cell? ⟨B, 1, none⟩ = some (.slice b1 E.length b2) := (eY Za.o 1).trans rfl
   have hc2_ : w'.cell? ⟨B, 2, none⟩ = some (.slice d0 y.length c7) := (eY Za.o 2).trans rfl
   have hc3_ : w'.cell? ⟨B, 3, none⟩ = some (.slice b3 x.length b4) := (eY Za.o 3).trans rfl
   refine value_ (w1 := w') (v := .slice b3 x.length b4) (by rfl) rfl ?_ ?_
   ·go_simp
    (try simp only [iQ])
    try rfl
   refine hK.out _ _ ⟨Z, a3, a0, a4, a5, a1, a6, c, own_, m13_, m14_, (by rw [ha.o]; exact kT 8 hb_ rfl rfl rfl), q, r, M, O, D, I, J, u, G, fun h0_ => absurd ((hoff 12 (by kernel_rfl)).symm.trans h0_) (by decide), s, z, A, d, j, l, m, fun h0_ => absurd ((hoff 15 (by kernel_rfl)).symm.trans h0_) (by decide), fun h0_ => absurd ((hoff 13 (by kernel_rfl)).symm.trans h0_) (by decide), L⟩
  refine kC ?_ ?_
  ·rintro b a w' ⟨Z, a3, a0, a4, a5, a1, a6, c, own_, m13_, m14_, ha, q, r, M, O, D, I, J, u, G, V, s, z, A, d, j, l, m, F, a7, L⟩ hb_ hon hoff
   refine ⟨_, rfl, fun K hK => ?_⟩
   have r8 : a.tmps[14]? = some (a1) := by rw [ha]; exact lI (e := (9, 14, a1)) 7 rfl rfl (hon 9 (by kernel_rfl)) rfl
   have r9 : a.tmps[16]? = some (.slice b3 x.length b4) := by rw [ha]; exact lI (e := (11, 16, .slice b3 x.length b4)) 8 rfl rfl (hon 11 (by kernel_rfl)) rfl
   replace ha := zm ha; have HB := zm M; have Zu := zm (G (hon 9 (by kernel_rfl)) hb_)
   refine mF (fG .i64) (w0 := w) w.heap.size (by rfl) (.tmp 14) (.tmp 16) 23 3 (.int .i64 0) 8 rfl iP info3 rfl (by decide) (by omega) a1 c6 x _ _ _ (fun _ => True) (fun _ => False) (eval_of r8) (eval_of r9) ?aO ?aR (fun _ _ h => h) (fun _ h => h.elim) ?aF ?aB ?aS ?aL ?_
   (case aR => exact zC (fE ZG.o HB.o))
   (case aB => exact M)
   (case aF => exact (fun _ _ => trivial))
   (case aO => exact eX Zu.o (fun _ _ => trivial))
   (case aS => exact (eV M))
   (case aL => have := n5.o; omega)
   intro a6 v8 ho hb hg hat
   rw [← l8.o] at ho
   refine hK.out _ _ ⟨Z, a3, a0, a4, a5, a1, a6, c, (fun k_ => if k_ < w'.heap.size then own_ k_ else 9), m13_, m14_, (by rw [ha.o]; exact kT 9 hb_ rfl rfl rfl), gW q hg (gJ Zu.o q (by decide)), gW r hg (gJ Zu.o r (by decide)), hb, fun _ h1_ => absurd ((hon 3 (by kernel_rfl)).symm.trans h1_) (by decide), fun h0_ => Kd.R_ownG (D h0_) Zu.o.1 (by decide) hg, fun _ h1_ => absurd ((hon 7 (by kernel_rfl)).symm.trans h1_) (by decide), fun h0_ => Kd.R_ownG (J h0_) Zu.o.1 (by decide) hg, fun h0_ => Kd.S_ownG (u h0_) Zu.o.1 (by decide) hg, fun _ h1_ => absurd ((up_self b 12).symm.trans h1_) (by decide), fun _ => Kd.R_ownA rfl ho hat Zu.o.1, fun h0_ h1_ => gW (s h0_ h1_) hg (gJ Zu.o (s h0_ h1_) (by decide)), z, A, d, j, l, m, fun h0_ => absurd ((hoff 15 (by kernel_rfl)).symm.trans h0_) (by decide), fun h0_ => absurd ((hoff 13 (by kernel_rfl)).symm.trans h0_) (by decide), L⟩
  refine kC ?_ ?_
  ·rintro b a w' ⟨Z, a3, a0, a4, a5, a1, a6, c, own_, m13_, m14_, ha, q, r, M, O, D, I, J, u, G, V, s, z, A, d, j, l, m, F, a7, L⟩ hb_ hon hoff
   refine ⟨_, rfl, fun K hK => ?_⟩
   have e8 : a.tmps[8]? = some (a3) := by rw [ha]; exact lI (e := (3, 8, a3)) 2 rfl rfl (hon 3 (by kernel_rfl)) rfl
   have v9 : a.tmps[12]? = some (a4) := by rw [ha]; exact lI (e := (7, 12, a4)) 5 rfl rfl (hon 7 (by kernel_rfl)) rfl
   have w2 : a.tmps[13]? = some (a5) := by rw [ha]; exact lI (e := (8, 13, a5)) 6 rfl rfl (hon 8 (by kernel_rfl)) rfl
   have w3 : a.tmps[17]? = some (a6) := by rw [ha]; exact lI (e := (12, 17, a6)) 9 rfl rfl (hon 12 (by kernel_rfl)) rfl
   replace ha := zm ha; have Zm := zm (D (hon 3 (by kernel_rfl))); have Zn := zm (J (hon 7 (by kernel_rfl))); have Zr := zm (u (hon 8 (by kernel_rfl))); have Zo := zm (V (hon 12 (by kernel_rfl)))
   obtain ⟨f7, f8, eo_⟩ := fA Zm.o
   subst eo_
   obtain ⟨f9, g0, eo_⟩ := fA Zn.o
   subst eo_
   obtain ⟨g1, g2, eo_⟩ := iF Zr.o
   subst eo_
   obtain ⟨g3, g4, eo_⟩ := fA Zo.o
   subst eo_
   refine value_ (w1 := w') (v := .agg #[.slice f7 U.length f8, .slice f9 X.length g0, .slice g1 d5.length g2, .slice g3 a2.length g4]) (by rfl) rfl ?_ ?_
   ·go_simp
    (try simp only [iQ])
    try rfl
   refine hK.out _ _ ⟨Z, .slice f7 U.length f8, a0, .slice f9 X.length g0, .slice g1 d5.length g2, a1, .slice g3 a2.length g4, c, own_, (.agg #[.slice f7 U.length f8, .slice f9 X.length g0, .slice g1 d5.length g2, .slice g3 a2.length g4]), m14_, (by rw [ha.o]; exact kT 10 hb_ rfl rfl rfl), q, r, M, fun _ h1_ => absurd ((hon 3 (by kernel_rfl)).symm.trans h1_) (by decide), D, fun _ h1_ => absurd ((hon 7 (by kernel_rfl)).symm.trans h1_) (by decide), J, u, fun _ h1_ => absurd ((hon 12 (by kernel_rfl)).symm.trans h1_) (by decide), V, s, z, A, d, j, l, m, fun h0_ => absurd ((hoff 15 (by kernel_rfl)).symm.trans h0_) (by decide), fun _ => rfl, L⟩
  refine kC ?_ ?_
  ·rintro b a w' ⟨Z, a3, a0, a4, a5, a1, a6, c, own_, m13_, m14_, ha, q, r, M, O, D, I, J, u, G, V, s, z, A, d, j, l, m, F, a7, L⟩ hb_ hon hoff
   refine ⟨_, rfl, fun K hK => ?_⟩
   replace ha := zm ha
   refine box_step ?hg (N := 3) ?hd (cs := #[.slice none 0 0, .slice none 0 0, .slice none 0 0, .slice none 0 0]) (t := 31) ?hr ?_; (case hd => rfl); (case hg => rfl); (case hr => first | (go_simp; done) | (go_simp; rfl))
   intro c hg w8 hbox hb
   refine hK.out _ _ ⟨Z, a3, a0, a4, a5, a1, a6, c, (fun k_ => if k_ < w'.heap.size then own_ k_ else 1014), m13_, (.pointer (some ⟨c, 0, none⟩)), (by rw [ha.o]; exact kT 11 hb_ rfl rfl rfl), fB q hb, fB r hb, eZ M hb, fun h0_ h1_ => iY (O h0_ h1_) hb, fun h0_ => iY (D h0_) hb, fun h0_ h1_ => iY (I h0_ h1_) hb, fun h0_ => iY (J h0_) hb, fun h0_ => Kd.S_ownB (u h0_) hb, fun h0_ h1_ => iY (G h0_ h1_) hb, fun h0_ => iY (V h0_) hb, fun _ _ => (hbox), fun _ => ((by rw [hg]; exact (eV M) : w.heap.size ≤ c)), fun _ => ((by rw [hg]; exact (eV M) : w.heap.size ≤ c)), fun _ => ((by rw [hg]; exact gN (hO (g := B) (o := .cells #[.slice a9 T.length b0, .slice b1 E.length b2, .slice d0 y.length c7, .slice b3 x.length b4] 31 (0, 0)) q) : B ≠ c)), fun _ => ((by rw [hg]; exact gT (hO (g := B) (o := .cells #[.slice a9 T.length b0, .slice b1 E.length b2, .slice d0 y.length c7, .slice b3 x.length b4] 31 (0, 0)) q) : c ≠ B)), fun _ => ((by rw [hg]; exact gN (hO (g := c5) (o := .cells #[.slice none 0 0, .slice none 0 0, .slice none 0 0, .slice none 0 0] 31 (0, 0)) r) : c5 ≠ c)), fun _ => ((by rw [hg]; exact gT (hO (g := c5) (o := .cells #[.slice none 0 0, .slice none 0 0, .slice none 0 0, .slice none 0 0] 31 (0, 0)) r) : c ≠ c5)), fun h0_ => absurd ((hoff 15 (by kernel_rfl)).symm.trans h0_) (by decide), a7, fun _ => rfl⟩
  refine kC ?_ ?_
  ·rintro b a w' ⟨Z, a3, a0, a4, a5, a1, a6, c, own_, m13_, m14_, ha, q, r, M, O, D, I, J, u, G, V, s, z, A, d, j, l, m, F, a7, L⟩ hb_ hon hoff
   refine ⟨_, rfl, fun K hK => ?_⟩
   have e3 : a.tmps[3]? = some (m14_) := by rw [ha]; exact lI (e := (14, 3, m14_)) 11 rfl rfl (hon 14 (by kernel_rfl)) rfl
   rw [L (hon 14 (by kernel_rfl))] at e3
   have s0 : a.tmps[18]? = some (m13_) := by rw [ha]; exact lI (e := (13, 18, m13_)) 10 rfl rfl (hon 13 (by kernel_rfl)) rfl
   rw [a7 (hon 13 (by kernel_rfl))] at s0
   replace ha := zm ha; have Za := zm q; have Zg := zm r; have HB := zm M; have Zm := zm (D (hon 3 (by kernel_rfl))); have Zn := zm (J (hon 7 (by kernel_rfl))); have Zr := zm (u (hon 8 (by kernel_rfl))); have Zo := zm (V (hon 12 (by kernel_rfl))); have Zb := zm (s (hon 14 (by kernel_rfl)) hb_); have ZC := zm (z (hon 14 (by kernel_rfl))); have Zp := zm (A (hon 14 (by kernel_rfl))); have Zh := zm (d (hon 14 (by kernel_rfl))); have Zj := zm (j (hon 14 (by kernel_rfl))); have Zi := zm (l (hon 14 (by kernel_rfl))); have Zk := zm (m (hon 14 (by kernel_rfl)))
   obtain ⟨n6, n7, k3⟩ := fA Zo.o
   (first | subst k3 | (injection k3 with f1_ f2_ f3_; have f4_ := f1_.symm; have f5_ := f3_.symm; clear f1_ f2_ f3_; subst f4_; subst f5_))
   obtain ⟨n8, n9, k4⟩ := iF Zr.o
   (first | subst k4 | (injection k4 with f1_ f2_ f3_; have f4_ := f1_.symm; have f5_ := f3_.symm; clear f1_ f2_ f3_; subst f4_; subst f5_))
   obtain ⟨o0, o1, k5⟩ := fA Zn.o
   (first | subst k5 | (injection k5 with f1_ f2_ f3_; have f4_ := f1_.symm; have f5_ := f3_.symm; clear f1_ f2_ f3_; subst f4_; subst f5_))
   obtain ⟨o2, o3, k6⟩ := fA Zm.o
   (first | subst k6 | (injection k6 with f1_ f2_ f3_; have f4_ := f1_.symm; have f5_ := f3_.symm; clear f1_ f2_ f3_; subst f4_; subst f5_))
   have u5 : w'.cell? ⟨c, 0, none⟩ = some (.slice none 0 0) := (eY Zb.o 0).trans rfl
   have s4 := gL Zb.o 0; have p3 := Zh.o; have p4 := Zi.o; have p5 := Zj.o; have p6 := Zk.o
   have u6 : w'.cell? ⟨c, 1, none⟩ = some (.slice none 0 0) := (eY Zb.o 1).trans rfl
   have s5 := gL Zb.o 1; have p7 := Zh.o; have p8 := Zi.o; have p9 := Zj.o; have q0 := Zk.o
   have u7 : w'.cell? ⟨c, 2, none⟩ = some (.slice none 0 0) := (eY Zb.o 2).trans rfl
   have s6 := gL Zb.o 2; have q1 := Zh.o; have q2 := Zi.o; have q3 := Zj.o; have q4 := Zk.o
   have u8 : w'.cell? ⟨c, 3, none⟩ = some (.slice none 0 0) := (eY Zb.o 3).trans rfl
   have s7 := gL Zb.o 3; have q5 := Zh.o; have q6 := Zi.o; have q7 := Zj.o; have q8 := Zk.o
   refine skip_ (w1 := ?_) (by rfl) rfl ?_ ?_
   rotate_left
   ·go_simp
    rfl
   refine hK.out _ _ ⟨Z, .slice o2 U.length o3, a0, .slice o0 X.length o1, .slice n8 d5.length n9, a1, .slice n6 a2.length n7, c, own_, m13_, m14_, (by rw [ha.o]; exact putSel_none (v := undef) rfl), (by exact zfar4 Za.o Zh.o), (by exact zfar4 Zg.o Zi.o), (zg_8 HB.o Zl.o Zq.o Zp.o), fun _ h1_ => absurd ((hon 3 (by kernel_rfl)).symm.trans h1_) (by decide), fun _ => (eX (zR4 (fD Zm.o Zb.o (by decide))) (fun _ hk => hk.1)), fun _ h1_ => absurd ((hon 7 (by kernel_rfl)).symm.trans h1_) (by decide), fun _ => (eX (zR4 (fD Zn.o Zb.o (by decide))) (fun _ hk => hk.1)), fun _ => (gQ (zS4 (hX Zr.o Zb.o (by decide))) (fun _ hk => hk.1)), fun _ h1_ => absurd ((hon 12 (by kernel_rfl)).symm.trans h1_) (by decide), fun _ => (eX (zR4 (fD Zo.o Zb.o (by decide))) (fun _ hk => hk.1)), fun _ h1_ => absurd ((up_self b 15).symm.trans h1_) (by decide), fun _ => ZC.o, fun _ => Zp.o, fun _ => Zh.o, fun _ => Zj.o, fun _ => Zi.o, fun _ => Zk.o, fun _ => (by exact zput4 Zb.o), a7, L⟩
  exact steps_nil
 rintro b a w4 hall ⟨Z, a3, a0, a4, a5, a1, a6, c, own_, m13_, m14_, ha, q, r, M, O, D, I, J, u, G, V, s, z, A, d, j, l, m, F, a7, L⟩
 clear Za Zg HB; have hb0_ := hall 0 (by kernel_rfl); have hb2_ := hall 2 (by kernel_rfl); have hb3_ := hall 3 (by kernel_rfl); have hb4_ := hall 4 (by kernel_rfl); have hb6_ := hall 6 (by kernel_rfl); have hb7_ := hall 7 (by kernel_rfl); have hb8_ := hall 8 (by kernel_rfl); have hb9_ := hall 9 (by kernel_rfl); have hb11_ := hall 11 (by kernel_rfl); have hb12_ := hall 12 (by kernel_rfl); have hb13_ := hall 13 (by kernel_rfl); have hb14_ := hall 14 (by kernel_rfl); have hb15_ := hall 15 (by kernel_rfl); subst ha; obtain rfl := a7 hb13_; obtain rfl := L hb14_
 simp only [putSel, hb0_, hb2_, hb3_, hb4_, hb6_, hb7_, hb8_, hb9_, hb11_, hb12_, hb13_, hb14_, hb15_, if_true, gE, zs, zz, zt]
 have Za := zm q; clear q; have Zg := zm r; clear r; have HB := zm M; clear M; clear O; have Zm := zm (D hb3_); clear D; clear I; have Zn := zm (J hb7_); clear J; have Zr := zm (u hb8_); clear u; clear G; have Zo := zm (V hb12_); clear V; clear s; have ZC := zm (z hb14_); clear z; have Zp := zm (A hb14_); clear A; have Zh := zm (d hb14_); clear d; have Zj := zm (j hb14_); clear j; have Zi := zm (l hb14_); clear l; have Zk := zm (m hb14_); clear m; have Zb := zm (F hb15_); clear F; clear hall hb0_ hb2_ hb3_ hb4_ hb6_ hb7_ hb8_ hb9_ hb11_ hb12_ hb13_ hb14_ hb15_
 obtain ⟨b5, b6, k7⟩ := fA Zo.o
 (first | subst k7 | (injection k7 with f1_ f2_ f3_; have f4_ := f1_.symm; have f5_ := f3_.symm; clear f1_ f2_ f3_; subst f4_; subst f5_))
 obtain ⟨o4, o5, k8⟩ := iF Zr.o
 (first | subst k8 | (injection k8 with f1_ f2_ f3_; have f4_ := f1_.symm; have f5_ := f3_.symm; clear f1_ f2_ f3_; subst f4_; subst f5_))
 obtain ⟨b7, b8, k9⟩ := fA Zn.o
 (first | subst k9 | (injection k9 with f1_ f2_ f3_; have f4_ := f1_.symm; have f5_ := f3_.symm; clear f1_ f2_ f3_; subst f4_; subst f5_))
 obtain ⟨b9, c0, l1⟩ := fA Zm.o
 (first | subst l1 | (injection l1 with f1_ f2_ f3_; have f4_ := f1_.symm; have f5_ := f3_.symm; clear f1_ f2_ f3_; subst f4_; subst f5_))
 have m0_ := zm (eX (ok' := fun k_ => some k_ ≠ ob (.slice b7 X.length b8) ∧ some k_ ≠ ob (.slice b5 a2.length b6)) Zm.o (fun k_ hk_ => ⟨own_ne hk_ Zn.o.1 (by decide), own_ne hk_ Zo.o.1 (by decide)⟩)); have m1_ := zm (eX (ok' := fun k_ => some k_ ≠ ob (.slice b9 U.length c0) ∧ some k_ ≠ ob (.slice b5 a2.length b6)) Zn.o (fun k_ hk_ => ⟨own_ne hk_ Zm.o.1 (by decide), own_ne hk_ Zo.o.1 (by decide)⟩)); have m2_ := zm (gQ (ok' := fun k_ => some k_ ≠ ob (.slice b9 U.length c0) ∧ some k_ ≠ ob (.slice b7 X.length b8) ∧ some k_ ≠ ob (.slice b5 a2.length b6)) Zr.o (fun k_ hk_ => ⟨own_ne hk_ Zm.o.1 (by decide), own_ne hk_ Zn.o.1 (by decide), own_ne hk_ Zo.o.1 (by decide)⟩)); have m3_ := zm (eX (ok' := fun k_ => some k_ ≠ ob (.slice b9 U.length c0) ∧ some k_ ≠ ob (.slice b7 X.length b8)) Zo.o (fun k_ hk_ => ⟨own_ne hk_ Zm.o.1 (by decide), own_ne hk_ Zn.o.1 (by decide)⟩)); clear Zm Zn Zr Zo; have Zm := m0_; have Zn := m1_; have Zr := m2_; have Zo := m3_; clear m0_ m1_ m2_ m3_
 try go_wp2
 go_loopg [4] k (fun kq v4 w' => ∃ (Y : Int) (a8 : List (S60)) (u263002 : Value), v4 = .int .i64 Y ∧ Aside0 (aE.l0 kq Y T E y x U X a8 a2 = some (r1, r2, r3, r4)) ∧ Aside0 (kq ≤ k) ∧ Aside0 (Kd.R (fG .i64) 3 w' w.heap.size (fun k_ => some k_ ≠ ob ((.slice b7 X.length b8)) ∧ some k_ ≠ ob ((.slice b5 a2.length b6))) (.slice b9 U.length c0) U) ∧ Aside0 (Kd.R (fG .i64) 3 w' w.heap.size (fun k_ => some k_ ≠ ob ((.slice b9 U.length c0)) ∧ some k_ ≠ ob ((.slice b5 a2.length b6))) (.slice b7 X.length b8) X) ∧ Aside0 (Kd.S k60 60 w' w.heap.size (fun k_ => some k_ ≠ ob ((.slice b9 U.length c0)) ∧ some k_ ≠ ob ((.slice b7 X.length b8)) ∧ some k_ ≠ ob ((.slice b5 a2.length b6))) u263002 a8) ∧ Aside0 (Kd.R (fG .i64) 3 w' w.heap.size (fun k_ => some k_ ≠ ob ((.slice b9 U.length c0)) ∧ some k_ ≠ ob ((.slice b7 X.length b8))) (.slice b5 a2.length b6) a2) ∧ Aside0 (w'.heap[B]? = some (.cells #[(.slice a9 T.length b0), (.slice b1 E.length b2), (.slice d0 y.length c7), (.slice b3 x.length b4)] 31 (0, 0))) ∧ Aside0 (w'.heap[c5]? = some (.cells #[(.slice none 0 0), (.slice none 0 0), (.slice none 0 0), (.slice none 0 0)] 31 (0, 0))) ∧ Aside0 (w'.heap[c]? = some (.cells #[(.slice b9 U.length c0), (.slice b7 X.length b8), u263002, (.slice b5 a2.length b6)] 31 (0, 0))) ∧ Aside0 (Below w.heap.size w w'))
 case atStart => exact ⟨(0), (d5), (.slice o4 d5.length o5), zr, H', ⟨fQ _⟩, ⟨zlR Zm.o⟩, ⟨zlR Zn.o⟩, ⟨zlS Zr.o⟩, ⟨zlR Zo.o⟩, ⟨zl Za.o⟩, ⟨zl Zg.o⟩, ⟨zl Zb.o⟩, ⟨zg_8 HB.o Zl.o Zq.o Zp.o⟩⟩
 case round =>
  clear H'
  try clear c1
  try clear c2
  try clear p2
  try clear c3
  try clear c4
  obtain ⟨Y, a8, u263002, rfl, HA, m7, Zd, Ze, Zc, Zf, Za, Zg, Zb, HB⟩ := hrel
  cases gk with
  | zero => exact absurd HA.o (by simp [aE.l0])
  | succ k1 =>
   have H := HA.o; clear HA
   simp only [aE.l0] at H
   by_cases g7 : Y < (y.length : Int)
   rotate_left
   ·rw [if_neg g7] at H
    have m0 := decide_eq_false g7; clear g7
    simp only [gC, gP] at H
    obtain ⟨rfl, rfl, rfl, rfl⟩ := H
    have s8 := Zv.o; have s9 := Zw.o; have t0 := Zh.o; have t1 := Zj.o
    obtain ⟨_, _, _, _, _, _, _, _⟩ := zb4 Za.o
    have t2 := Zk.o; have t3 := Zi.o
    obtain ⟨_, _, _, _, _, _, _, _⟩ := zb4 Zb.o
    obtain ⟨_, _, _, _, _, _, _, _⟩ := zb4 Zg.o
    obtain ⟨o6, o7, o8⟩ := iF Zc.o
    subst o8
    go_wp2
    refine bodyPost_ret (jE rfl _ _ c5 31 #[.slice b9 U.length c0, .slice b7 X.length b8, .slice o6 a8.length o7, .slice b5 a2.length b6] (0, 0) _ rfl (by exact zput4 Zg.o) fW rfl (by kernel_rfl)) rfl ?_
    exact ⟨_, _, _, _, ze, eX (zR4 (fD Zd.o Zg.o (by decide))) (fun _ hk => ⟨hk.1.1, hk.1.2⟩), eX (zR4 (fD Ze.o Zg.o (by decide))) (fun _ hk => ⟨hk.1.1, hk.1.2⟩), gQ (zS4 (hX Zc.o Zg.o (by decide))) (fun _ hk => ⟨hk.1.1, ⟨hk.1.2.1, hk.1.2.2⟩⟩), eX (zR4 (fD Zf.o Zg.o (by decide))) (fun _ hk => ⟨hk.1.1, hk.1.2⟩), zg_8 HB.o Zl.o Zq.o Zp.o⟩
   rw [if_pos g7] at H; have m0 := decide_eq_true g7; clear g7
   replace H := zid H; obtain ⟨t4, H⟩ := H
   obtain ⟨h5, h6⟩ : ∃ y_ : List Int, y_ = (([] : List Int)) := ⟨_, rfl⟩
   replace H : (if h5.length + ((aH y Y).f1).length < 17592186044416 then (if a8.length < 3518437208883 then (aE.l0 k1 (wrap64 (Y + 1)) T E y x U X (a8 ++ [(⟨(aH y Y).f0, (h5 ++ ((aH y Y).f1))⟩ : S60)]) a2) else (none)) else (none)) = some (r1, r2, r3, r4) := zy H h6
   have k2 := zm h6; clear h6
   replace H := zif H; obtain ⟨m8, H⟩ := H; have m1 := zm m8; clear m8
   obtain ⟨f5, h7⟩ : ∃ y_ : List Int, y_ = (h5 ++ ((aH y Y).f1)) := ⟨_, rfl⟩
   replace H : (if a8.length < 3518437208883 then (aE.l0 k1 (wrap64 (Y + 1)) T E y x U X (a8 ++ [(⟨(aH y Y).f0, f5⟩ : S60)]) a2) else (none)) = some (r1, r2, r3, r4) := zy H h7
   have m2 := zm h7; clear h7
   replace H := zif H; obtain ⟨m9, H⟩ := H; have m3 := zm m9; clear m9
   obtain ⟨e2, h8⟩ : ∃ y_ : List (S60), y_ = (a8 ++ [(⟨(aH y Y).f0, f5⟩ : S60)]) := ⟨_, rfl⟩
   replace H : (aE.l0 k1 (wrap64 (Y + 1)) T E y x U X e2 a2) = some (r1, r2, r3, r4) := zy H h8
   have m4 := zm h8; clear h8
   have H' := zm H
   clear H; have t5 := Zv.o; have t6 := Zw.o; have t7 := Zh.o; have t8 := Zj.o
   obtain ⟨_, _, _, _, _, _, _, _⟩ := zb4 Za.o
   try go_wp2
   have d2 := zm (fK Zd.o); have d3 := zm (fK Ze.o); have d4 := zm (iU Zc.o); have d7 := zm (fK Zf.o); have d8 := zm (fU Za.o); have d9 := zm (fU Zg.o); have e0 := zm (fU Zb.o); have e1 := zm (gA HB.o); clear Zd; clear Ze; clear Zc; clear Zf; clear Za; clear Zg; clear Zb; clear HB; have Zd := d2; have Ze := d3; have Zc := d4; have Zf := d7; have Za := d8; have Zg := d9; have Zb := e0; have HB := e1; clear d2 d3 d4 d7 d8 d9 e0 e1
   have i5 : 0 ≤ (Y : Int) := zd
   have i6 : Y < (y.length : Int) := zd
   obtain ⟨c9, i2, i3, o9, hx263_0, hx263_1, hl263_1, hi263_1⟩ := at_T60 ZB.o Y i5 i6
   have hw263_1 := hx263_1; have hw263_0 := hx263_0; cases o9; replace hx263_0 := (HB.o.cell (eU w _ hx263_0)).trans hx263_0; replace hx263_1 := (HB.o.cell (eU w _ hx263_1)).trans hx263_1; have ZA := zm hi263_1; have ZH := zm hl263_1; clear hi263_1 hl263_1; replace i5 := eq_true i5; replace i6 := eq_true i6
   have i7 : 0 ≤ (Y : Int) := zd
   have i8 : Y < (y.length : Int) := zd
   obtain ⟨m5, s1, s2, p0, hx267_0, hx267_1, hl267_1, hi267_1⟩ := at_T60 ZB.o Y i7 i8
   have hw267_1 := hx267_1; have hw267_0 := hx267_0
   obtain rfl : c9 = m5 := (by injection p0)
   replace hx267_0 := (HB.o.cell (eU w _ hx267_0)).trans hx267_0; replace hx267_1 := (HB.o.cell (eU w _ hx267_1)).trans hx267_1; have Zy := zm hi267_1; have ZI := zm hl267_1; clear hi267_1 hl267_1; replace i7 := eq_true i7; replace i8 := eq_true i8; have ea_ := fF (hx263_1.symm.trans hx267_1)
   injection ea_ with ea_ en_ ec_
   subst ea_; subst ec_; clear en_
   refine start_ (n := 21) (S := fun w' => w'.cell? ⟨c, 0, none⟩ = some (.slice b9 U.length c0) ∧ w'.cell? ⟨c, 1, none⟩ = some (.slice b7 X.length b8) ∧ w'.cell? ⟨c, 2, none⟩ = some (u263002) ∧ w'.cell? ⟨c, 3, none⟩ = some (.slice b5 a2.length b6) ∧ w'.cell? ⟨B, 0, none⟩ = some (.slice a9 T.length b0) ∧ w'.cell? ⟨B, 1, none⟩ = some (.slice b1 E.length b2) ∧ w'.cell? ⟨B, 2, none⟩ = some (.slice (some c9) y.length c7) ∧ w'.cell? ⟨B, 3, none⟩ = some (.slice b3 x.length b4) ∧ w'.cell? (c9.add ((Y).toNat * 2)) = some (.string ((aH y Y).f0)) ∧ w'.cell? ⟨(c9.add ((Y).toNat * 2)).block, (c9.add ((Y).toNat * 2)).off + 1, none⟩ = some (.slice i2 ((aH y Y).f1).length i3) ∧ w'.cell? (c9.add ((Y).toNat * 2)) = some (.string ((aH y Y).f0)) ∧ w'.cell? ⟨(c9.add ((Y).toNat * 2)).block, (c9.add ((Y).toNat * 2)).off + 1, none⟩ = some (.slice i2 ((aH y Y).f1).length i3)) (ds := [20]) #[ff, ff, ff, ff, ff, ff, ff, ff, ff, ff, ff, ff, ff, ff, ff, ff, ff, ff, ff, ff, ff] (by kernel_rfl) rfl rfl ⟨(eY Zb.o 0).trans rfl, (eY Zb.o 1).trans rfl, (eY Zb.o 2).trans rfl, (eY Zb.o 3).trans rfl, (eY Za.o 0).trans rfl, (eY Za.o 1).trans rfl, (eY Za.o 2).trans rfl, (eY Za.o 3).trans rfl, ((HB.o.cell (eU w _ hw263_0)).trans hw263_0), ((HB.o.cell (eU w _ hw263_1)).trans hw263_1), ((HB.o.cell (eU w _ hw267_0)).trans hw267_0), ((HB.o.cell (eU w _ hw267_1)).trans hw267_1)⟩ (fun hHeld => ?_); refine kJ aE.tab5 aE.bits5 (fun HT_ HW_ => ?_)
   generalize wr.drew = w9 at Zd Ze Zc Zf Za Zg Zb HB ZA Zy hx263_0 hx263_1 hx267_0 hx267_1 hHeld ⊢
   refine gR (i := 0) (N := some 26) #[tt, ff, ff, ff, ff, ff, ff, ff, ff, ff, ff, ff, ff, ff, ff, ff, ff, ff, ff, ff, ff] rfl rfl (gD HT_.o zk) (fun _ _ _ h => h) (.inl ⟨by rfl, zi⟩) zu ?_
   refine gR (i := 2) (N := some 28) #[tt, ff, tt, ff, ff, ff, ff, ff, ff, ff, ff, ff, ff, ff, ff, ff, ff, ff, ff, ff, ff] rfl rfl (gD HT_.o zk) (fun _ _ _ h => h) (.inl ⟨by rfl, zi⟩) zu ?_
   refine gR (i := 4) (N := some 30) #[tt, ff, tt, ff, tt, ff, ff, ff, ff, ff, ff, ff, ff, ff, ff, ff, ff, ff, ff, ff, ff] rfl rfl (gD HT_.o zk) (fun _ _ _ h => h) (.inl ⟨by rfl, zi⟩) zu ?_
   refine gR (i := 9) (N := some 35) #[tt, ff, tt, ff, tt, ff, ff, ff, ff, tt, ff, ff, ff, ff, ff, ff, ff, ff, ff, ff, ff] rfl rfl (gD HT_.o zk) (fun _ _ _ h => h) (.inl ⟨by rfl, zi⟩) zu ?_
   refine gR (i := 11) (N := some 37) #[tt, ff, tt, ff, tt, ff, ff, ff, ff, tt, ff, tt, ff, ff, ff, ff, ff, ff, ff, ff, ff] rfl rfl (gD HT_.o zk) (fun _ _ _ h => h) (.inl ⟨by rfl, zi⟩) zu ?_
   refine kA (i := 1) (N := some 27) #[tt, tt, tt, ff, tt, ff, ff, ff, ff, tt, ff, tt, ff, ff, ff, ff, ff, ff, ff, ff, ff] rfl rfl (hZ HT_.o HW_.o zk) (fun _ _ _ h => h) (.inl ⟨by rfl, zi12⟩) hHeld zu ?_
   refine kA (i := 3) (N := some 29) #[tt, tt, tt, tt, tt, ff, ff, ff, ff, tt, ff, tt, ff, ff, ff, ff, ff, ff, ff, ff, ff] rfl rfl (hZ HT_.o HW_.o zk) (fun _ _ _ h => h) (.inl ⟨by rfl, zi12⟩) hHeld zu ?_
   refine gR (i := 5) (N := some 31) #[tt, tt, tt, tt, tt, tt, ff, ff, ff, tt, ff, tt, ff, ff, ff, ff, ff, ff, ff, ff, ff] rfl rfl (gD HT_.o zk) (fun _ _ _ h => h) (.inl ⟨by rfl, zi⟩) zu ?_
   refine gR (i := 6) (N := some 32) #[tt, tt, tt, tt, tt, tt, tt, ff, ff, tt, ff, tt, ff, ff, ff, ff, ff, ff, ff, ff, ff] rfl rfl (gD HT_.o zk) (fun _ _ _ h => h) (.inl ⟨by rfl, zi⟩) zu ?_
   refine kA (i := 7) (N := some 33) #[tt, tt, tt, tt, tt, tt, tt, tt, ff, tt, ff, tt, ff, ff, ff, ff, ff, ff, ff, ff, ff] rfl rfl (hZ HT_.o HW_.o zk) (fun _ _ _ h => h) (.inl ⟨by rfl, zi12⟩) hHeld zu ?_
   refine kA (i := 10) (N := some 36) #[tt, tt, tt, tt, tt, tt, tt, tt, ff, tt, tt, tt, ff, ff, ff, ff, ff, ff, ff, ff, ff] rfl rfl (hZ HT_.o HW_.o zk) (fun _ _ _ h => h) (.inl ⟨by rfl, zi12⟩) hHeld zu ?_
   refine gR (i := 12) (N := some 38) #[tt, tt, tt, tt, tt, tt, tt, tt, ff, tt, tt, tt, tt, ff, ff, ff, ff, ff, ff, ff, ff] rfl rfl (gD HT_.o zk) (fun _ _ _ h => h) (.inl ⟨by rfl, zi⟩) zu ?_
   refine gR (i := 13) (N := some 39) #[tt, tt, tt, tt, tt, tt, tt, tt, ff, tt, tt, tt, tt, tt, ff, ff, ff, ff, ff, ff, ff] rfl rfl (gD HT_.o zk) (fun _ _ _ h => h) (.inl ⟨by rfl, zi⟩) zu ?_
   refine kA (i := 14) (N := some 40) #[tt, tt, tt, tt, tt, tt, tt, tt, ff, tt, tt, tt, tt, tt, tt, ff, ff, ff, ff, ff, ff] rfl rfl (hZ HT_.o HW_.o zk) (fun _ _ _ h => h) (.inl ⟨by rfl, zi12⟩) hHeld zu ?_
   refine one_ (i := 8) (N := some 34) #[tt, tt, tt, tt, tt, tt, tt, tt, tt, tt, tt, tt, tt, tt, tt, ff, ff, ff, ff, ff, ff] rfl rfl (iS HT_.o zk) (by decide) (fun K hK => ?_)
   refine nB (fG .i64) _ 3 ?hg (N := 34) ?hd (xs := ([] : List Int)) (inner := []) (ok := fun _ => True) (okp := fun _ => True) ?hr ?hp (fun _ hk => hk) trivial (fX _ _) (fQ _) (by simp) ?_; (case hd => rfl); (case hg => rfl); (case hr => first | (go_simp; done) | (go_simp; rfl)); (case hp => exact (jD _ _))
   intro p1 x0 d6 hb hg_ hnew_
   clear hg_ hnew_
   (first | rw [← k2.o] at d6 | (simp only [gX] at d6; rw [← k2.o] at d6))
   have d2 := zm (iZ (zg_6 Zd.o) (fH d6) hb); have d3 := zm (iZ (zg_6 Ze.o) (fH d6) hb); have d4 := zm (Kd.S_elder' (zg_7 Zc.o) (fH d6) hb); have d7 := zm (iZ (zg_6 Zf.o) (fH d6) hb); have d8 := zm (fL (fT (fT (fT d6 (fO (zg_6 Zd.o))) (fO (zg_6 Ze.o))) (fO (zg_6 Zf.o))) (eV (zg_8 HB.o Zl.o Zq.o Zp.o))); have d9 := zm (fB (g := B) (o := .cells #[.slice a9 T.length b0, .slice b1 E.length b2, .slice (some c9) y.length c7, .slice b3 x.length b4] 31 (0, 0)) (zg_3 Za.o) hb); have e0 := zm (fB (g := c5) (o := .cells #[.slice none 0 0, .slice none 0 0, .slice none 0 0, .slice none 0 0] 31 (0, 0)) (zg_3 Zg.o) hb); have e1 := zm (fB (g := c) (o := .cells #[.slice b9 U.length c0, .slice b7 X.length b8, u263002, .slice b5 a2.length b6] 31 (0, 0)) (zg_3 Zb.o) hb); have i4 := zm (eZ (zg_8 HB.o Zl.o Zq.o Zp.o) hb); clear Zd; clear Ze; clear Zc; clear Zf; clear Za; clear Zg; clear Zb; clear HB; have Zd := d2; have Ze := d3; have Zc := d4; have Zf := d7; have Zx := d8; have Za := d9; have Zg := e0; have Zb := e1; have HB := i4; clear d2 d3 d4 d7 d8 d9 e0 e1 i4; clear hb d6
   refine hK.out _ _ ⟨(eY Zb.o 0).trans rfl, (eY Zb.o 1).trans rfl, (eY Zb.o 2).trans rfl, (eY Zb.o 3).trans rfl, (eY Za.o 0).trans rfl, (eY Za.o 1).trans rfl, (eY Za.o 2).trans rfl, (eY Za.o 3).trans rfl, ((HB.o.cell (eU w _ hw263_0)).trans hw263_0), ((HB.o.cell (eU w _ hw263_1)).trans hw263_1), ((HB.o.cell (eU w _ hw267_0)).trans hw267_0), ((HB.o.cell (eU w _ hw267_1)).trans hw267_1)⟩ (fun hHeld => ?_)
   clear hK K
   refine norm_ (a' := ?_) ?_ ?_
   rotate_left
   ·show gE _ (some 34) _ = _
    simp only [gE, zs, zz, zt, iQ, i32_w]
    rfl
   refine one_ (i := 15) (N := some 41) #[tt, tt, tt, tt, tt, tt, tt, tt, tt, tt, tt, tt, tt, tt, tt, tt, ff, ff, ff, ff, ff] rfl rfl (iS HT_.o zk) (by decide) (fun K hK => ?_)
   refine mF (fG .i64) (w0 := w) w.heap.size (by rfl) (.tmp 34) (.tmp 40) 23 3 (.int .i64 0) 8 rfl iP info3 rfl (by decide) (by omega) p1 h5 ((aH y Y).f1) _ _ _ (fun k_ => some k_ ≠ ob (.slice b9 U.length c0) ∧ some k_ ≠ ob (.slice b7 X.length b8) ∧ some k_ ≠ ob (.slice b5 a2.length b6)) (fun _ => False) rfl rfl ?aO ?aR (fun _ _ h => h) (fun _ h => h.elim) ?aF ?aB ?aS ?aL ?_
   (case aR => exact zC (fE Zy.o HB.o))
   (case aB => exact (zg_8 HB.o Zl.o Zq.o Zp.o))
   (case aF => exact (fun k_ hk => ⟨gF (fO (zg_6 Zd.o)) k_ hk, gF (fO (zg_6 Ze.o)) k_ hk, gF (fO (zg_6 Zf.o)) k_ hk⟩))
   (case aO => exact (by (with_reducible repeat (first | apply fY | apply fZ | apply fK)); exact eX Zx.o (fun _ hk => ⟨hk.1.1.2, ⟨hk.1.2, hk.2⟩⟩)))
   (case aS => exact (eV (zg_8 HB.o Zl.o Zq.o Zp.o)))
   (case aL => have := m1.o; omega)
   intro v0 x1 ho hb hg hat
   rw [← m2.o] at ho
   have d2 := zm (iK (ok := (fun k_ => some k_ ≠ ob (.slice b7 X.length b8) ∧ some k_ ≠ ob (.slice b5 a2.length b6))) (zg_6 Zd.o) hg hat); have d3 := zm (iK (ok := (fun k_ => some k_ ≠ ob (.slice b9 U.length c0) ∧ some k_ ≠ ob (.slice b5 a2.length b6))) (zg_6 Ze.o) hg hat); have d4 := zm (Kd.S_after (ok := (fun k_ => some k_ ≠ ob (.slice b9 U.length c0) ∧ some k_ ≠ ob (.slice b7 X.length b8) ∧ some k_ ≠ ob (.slice b5 a2.length b6))) (zg_7 Zc.o) hg hat); have d7 := zm (iK (ok := (fun k_ => some k_ ≠ ob (.slice b9 U.length c0) ∧ some k_ ≠ ob (.slice b7 X.length b8))) (zg_6 Zf.o) hg hat); have d8 := zm (gW (g := B) (o := .cells #[.slice a9 T.length b0, .slice b1 E.length b2, .slice (some c9) y.length c7, .slice b3 x.length b4] 31 (0, 0)) (zg_3 Za.o) hg (gJ Zx.o Za.o (by decide))); have d9 := zm (gW (g := c5) (o := .cells #[.slice none 0 0, .slice none 0 0, .slice none 0 0, .slice none 0 0] 31 (0, 0)) (zg_3 Zg.o) hg (gJ Zx.o Zg.o (by decide))); have e0 := zm (gW (g := c) (o := .cells #[.slice b9 U.length c0, .slice b7 X.length b8, u263002, .slice b5 a2.length b6] 31 (0, 0)) (zg_3 Zb.o) hg (gJ Zx.o Zb.o (by decide))); have e1 := zm (hb); have i4 := zm (ho); clear Zd; clear Ze; clear Zc; clear Zf; clear Za; clear Zg; clear Zb; clear HB; clear Zx; have Zd := d2; have Ze := d3; have Zc := d4; have Zf := d7; have Za := d8; have Zg := d9; have Zb := e0; have HB := e1; have Zz := i4; clear d2 d3 d4 d7 d8 d9 e0 e1 i4; clear ho hb hg hat
   obtain ⟨l2, l3, l4⟩ := fA Zz.o
   (first | subst l4 | (injection l4 with f1_ f2_ f3_; have f4_ := f1_.symm; have f5_ := f3_.symm; clear f1_ f2_ f3_; subst f4_; subst f5_))
   refine hK.out _ _ ⟨(eY Zb.o 0).trans rfl, (eY Zb.o 1).trans rfl, (eY Zb.o 2).trans rfl, (eY Zb.o 3).trans rfl, (eY Za.o 0).trans rfl, (eY Za.o 1).trans rfl, (eY Za.o 2).trans rfl, (eY Za.o 3).trans rfl, ((HB.o.cell (eU w _ hw263_0)).trans hw263_0), ((HB.o.cell (eU w _ hw263_1)).trans hw263_1), ((HB.o.cell (eU w _ hw267_0)).trans hw267_0), ((HB.o.cell (eU w _ hw267_1)).trans hw267_1)⟩ (fun hHeld => ?_)
   clear hK K
   refine norm_ (a' := ?_) ?_ ?_
   rotate_left
   ·show gE _ (some 41) _ = _
    simp only [gE, zs, zz, zt, iQ, i32_w]
    rfl
   refine gR (i := 16) (N := some 42) #[tt, tt, tt, tt, tt, tt, tt, tt, tt, tt, tt, tt, tt, tt, tt, tt, tt, ff, ff, ff, ff] rfl rfl (gD HT_.o zk) (fun _ _ _ h => h) (.inl ⟨by rfl, zi⟩) zu ?_
   refine one_ (i := 17) (N := some 43) #[tt, tt, tt, tt, tt, tt, tt, tt, tt, tt, tt, tt, tt, tt, tt, tt, tt, tt, ff, ff, ff] rfl rfl (iS HT_.o zk) (by decide) (fun K hK => ?_)
   refine value_ (w1 := ?_) (v := ?_) (by rfl) rfl ?_ ?_
   rotate_left 2
   ·go_simp
    constructor
    ·rfl
    ·rfl
   refine hK.out _ _ ⟨(eY (fV Zb.o _) 0).trans rfl, (eY (fV Zb.o _) 1).trans rfl, (eY (fV Zb.o _) 2).trans rfl, (eY (fV Zb.o _) 3).trans rfl, (eY (fV Za.o _) 0).trans rfl, (eY (fV Za.o _) 1).trans rfl, (eY (fV Za.o _) 2).trans rfl, (eY (fV Za.o _) 3).trans rfl, (kN _ _ _ (eU _ _ (((HB.o.cell (eU w _ hw263_0)).trans hw263_0)))).trans (((HB.o.cell (eU w _ hw263_0)).trans hw263_0)), (kN _ _ _ (eU _ _ (((HB.o.cell (eU w _ hw263_1)).trans hw263_1)))).trans (((HB.o.cell (eU w _ hw263_1)).trans hw263_1)), (kN _ _ _ (eU _ _ (((HB.o.cell (eU w _ hw267_0)).trans hw267_0)))).trans (((HB.o.cell (eU w _ hw267_0)).trans hw267_0)), (kN _ _ _ (eU _ _ (((HB.o.cell (eU w _ hw267_1)).trans hw267_1)))).trans (((HB.o.cell (eU w _ hw267_1)).trans hw267_1))⟩ (fun hHeld => ?_)
   clear hK K
   refine norm_ (a' := ?_) ?_ ?_
   rotate_left
   ·show gE _ (some 43) _ = _
    simp only [gE, zs, zz, zt, iQ, i32_w]
    rfl
   refine one_ (i := 18) (N := some 44) #[tt, tt, tt, tt, tt, tt, tt, tt, tt, tt, tt, tt, tt, tt, tt, tt, tt, tt, tt, ff, ff] rfl rfl (iS HT_.o zk) (by decide) (fun K hK => ?_)
   refine Kd.S_append_step k60 (w0 := w) w.heap.size (by rfl) (.tmp 27) (.tmp 43) 29 60 (.agg #[(.string ⟨#[]⟩), (.slice none 0 0)]) 40 rfl Tryz.underlying29 info60 rfl (by decide) (by omega) u263002 a8 (⟨(aH y Y).f0, f5⟩ : S60) [.string ((aH y Y).f0), .slice l2 f5.length l3] (fun k_ => some k_ ≠ ob (.slice b9 U.length c0) ∧ some k_ ≠ ob (.slice b7 X.length b8) ∧ some k_ ≠ ob (.slice b5 a2.length b6)) (fun k_ => some k_ = ob (.slice l2 f5.length l3)) rfl rfl ?aP (fun k_ hk_ => ((eX (ok' := fun k_ => ((fun k_ => some k_ ≠ ob (.slice b9 U.length c0) ∧ some k_ ≠ ob (.slice b7 X.length b8) ∧ some k_ ≠ ob (.slice b5 a2.length b6))) k_ ∧ some k_ ≠ ob u263002) (Kd.R_apart' (Zz.o) (lR Zc.o) (by decide)) (fun k_ hk => ⟨⟨hk.1.1, ⟨hk.1.2.1, hk.1.2.2⟩⟩, hk.2⟩))).1 k_ hk_.symm) ?aF ?aO ?aB ?aS ?aL ?_
   (case aP => exact k60_mkM _ _ _ (⟨(aH y Y).f0, f5⟩ : S60) (eX (Kd.R_tight rfl (eX (ok' := fun k_ => ((fun k_ => some k_ ≠ ob (.slice b9 U.length c0) ∧ some k_ ≠ ob (.slice b7 X.length b8) ∧ some k_ ≠ ob (.slice b5 a2.length b6))) k_ ∧ some k_ ≠ ob u263002) (Kd.R_apart' (Zz.o) (lR Zc.o) (by decide)) (fun k_ hk => ⟨⟨hk.1.1, ⟨hk.1.2.1, hk.1.2.2⟩⟩, hk.2⟩))) (fun _ h_ => h_)))
   (case aB => exact (zg_8 HB.o Zl.o Zq.o Zp.o))
   (case aF => exact (fun k_ hk => ⟨gF (fO (zg_6 Zd.o)) k_ hk, gF (fO (zg_6 Ze.o)) k_ hk, gF (fO (zg_6 Zf.o)) k_ hk⟩))
   (case aO => exact (by (with_reducible repeat (first | apply jA | apply jB | apply iU)); exact gQ Zc.o (fun k_ hk => ⟨⟨hk.1.1, ⟨hk.1.2.1, hk.1.2.2⟩⟩, fun e_ => hk.2 e_⟩)))
   (case aS => exact (eV (zg_8 HB.o Zl.o Zq.o Zp.o)))
   (case aL => have := m3.o; omega)
   intro v1 s3 ho hb hg hat
   rw [← m4.o] at ho
   have d2 := zm (lL (zg_6 Zd.o) (lR (zg_7 Zc.o)) (by decide) hg); have d3 := zm (lL (zg_6 Ze.o) (lR (zg_7 Zc.o)) (by decide) hg); have d4 := zm (lL (zg_6 Zf.o) (lR (zg_7 Zc.o)) (by decide) hg); have d7 := zm (gW (g := B) (o := .cells #[.slice a9 T.length b0, .slice b1 E.length b2, .slice (some c9) y.length c7, .slice b3 x.length b4] 31 (0, 0)) (zg_3 Za.o) hg (Kd.S_ne Zc.o Za.o (by decide))); have d8 := zm (gW (g := c5) (o := .cells #[.slice none 0 0, .slice none 0 0, .slice none 0 0, .slice none 0 0] 31 (0, 0)) (zg_3 Zg.o) hg (Kd.S_ne Zc.o Zg.o (by decide))); have d9 := zm (gW (g := c) (o := .cells #[.slice b9 U.length c0, .slice b7 X.length b8, u263002, .slice b5 a2.length b6] 31 (0, 0)) (zg_3 Zb.o) hg (Kd.S_ne Zc.o Zb.o (by decide))); have e0 := zm (hb); have e1 := zm (ho); clear Zd; clear Ze; clear Zf; clear Za; clear Zg; clear Zb; clear HB; clear Zc; clear Zz; have Zd := d2; have Ze := d3; have Zf := d4; have Za := d7; have Zg := d8; have Zb := d9; have HB := e0; have ZD := e1; clear d2 d3 d4 d7 d8 d9 e0 e1; clear ho hb hg hat
   obtain ⟨g5, g6, l5⟩ := iF ZD.o
   (first | subst l5 | (injection l5 with f1_ f2_ f3_; have f4_ := f1_.symm; have f5_ := f3_.symm; clear f1_ f2_ f3_; subst f4_; subst f5_))
   refine hK.out _ _ ⟨(eY Zb.o 0).trans rfl, (eY Zb.o 1).trans rfl, (eY Zb.o 2).trans rfl, (eY Zb.o 3).trans rfl, (eY Za.o 0).trans rfl, (eY Za.o 1).trans rfl, (eY Za.o 2).trans rfl, (eY Za.o 3).trans rfl, ((HB.o.cell (eU w _ hw263_0)).trans hw263_0), ((HB.o.cell (eU w _ hw263_1)).trans hw263_1), ((HB.o.cell (eU w _ hw267_0)).trans hw267_0), ((HB.o.cell (eU w _ hw267_1)).trans hw267_1)⟩ (fun hHeld => ?_)
   clear hK K
   refine norm_ (a' := ?_) ?_ ?_
   rotate_left
   ·show gE _ (some 44) _ = _
    simp only [gE, zs, zz, zt, iQ, i32_w]
    rfl
   refine gR (i := 19) (N := some 45) #[tt, tt, tt, tt, tt, tt, tt, tt, tt, tt, tt, tt, tt, tt, tt, tt, tt, tt, tt, tt, ff] rfl rfl (gD HT_.o zk) (fun _ _ _ h => h) (.inl ⟨by rfl, zi⟩) zu ?_
   refine last_ (i := 20) (N := none) #[tt, tt, tt, tt, tt, tt, tt, tt, tt, tt, tt, tt, tt, tt, tt, tt, tt, tt, tt, tt, tt] rfl rfl (iS HT_.o zk) (by decide) (fun K hK => ?_)
   have v2 : s3.cell? ⟨c, 2, none⟩ = some (u263002) := (eY Zb.o 2).trans rfl
   have t9 := gL Zb.o 2; have q9 := Zh.o; have r0 := Zi.o; have r5 := Zj.o; have r6 := Zk.o
   refine skip_ (w1 := ?_) (by rfl) rfl ?_ ?_
   rotate_left
   ·go_simp
    rfl
   refine hK.out _ _ ?_
   clear hK K
   refine done_ (done_of HT_.o zk) ?_
   try go_wp2
   go_roundg k1
   case measure => have := m7.o; omega
   case rel => exact ⟨(wrap64 (Y + 1)), (e2), (.slice g5 e2.length g6), zr, H', ⟨by have := m7.o; omega⟩, ⟨by (with_reducible repeat (first | apply fY | apply fZ | apply fK)); exact eX (fR (p := ⟨c, 2, none⟩) (fD Zd.o Zb.o (by decide)) (fun _ hk => hk.2) (.slice g5 e2.length g6)) (fun _ hk => ⟨hk.1.1.1, hk.1.1.2⟩)⟩, ⟨by (with_reducible repeat (first | apply fY | apply fZ | apply fK)); exact eX (fR (p := ⟨c, 2, none⟩) (fD Ze.o Zb.o (by decide)) (fun _ hk => hk.2) (.slice g5 e2.length g6)) (fun _ hk => ⟨hk.1.1.1, hk.1.1.2⟩)⟩, ⟨by (with_reducible repeat (first | apply jA | apply jB | apply iU)); exact gQ (Kd.S_far (p := ⟨c, 2, none⟩) (hX ZD.o Zb.o (by decide)) (fun _ hk => hk.2) (.slice g5 e2.length g6)) (fun _ hk => ⟨hk.1.1, ⟨hk.1.2.1, hk.1.2.2⟩⟩)⟩, ⟨by (with_reducible repeat (first | apply fY | apply fZ | apply fK)); exact eX (fR (p := ⟨c, 2, none⟩) (fD Zf.o Zb.o (by decide)) (fun _ hk => hk.2) (.slice g5 e2.length g6)) (fun _ hk => ⟨hk.1.1.1, hk.1.1.2⟩)⟩, ⟨by (with_reducible repeat (first | refine gG ?_ _ | refine fU ?_ | refine fV ?_ _)); refine kE ?_ Zh.o _; (with_reducible repeat (first | refine gG ?_ _ | refine fU ?_ | refine fV ?_ _)); exact Za.o⟩, ⟨by (with_reducible repeat (first | refine gG ?_ _ | refine fU ?_ | refine fV ?_ _)); refine kE ?_ Zi.o _; (with_reducible repeat (first | refine gG ?_ _ | refine fU ?_ | refine fV ?_ _)); exact Zg.o⟩, ⟨by (with_reducible repeat (first | refine gG ?_ _ | refine fU ?_ | refine fV ?_ _)); refine blk_put (cs := #[.slice b9 U.length c0, .slice b7 X.length b8, u263002, .slice b5 a2.length b6]) ?_ 2 _ rfl; (with_reducible repeat (first | refine gG ?_ _ | refine fU ?_ | refine fV ?_ _)); exact Zb.o⟩, ⟨zg_8 HB.o Zl.o Zq.o Zp.o⟩⟩
def bC.l0 : Nat → List Int → List Int → Int → Option (List Int)
  | 0, _, _, _ => none
  | k + 1, x0, x3, x4 => if x4 < (x0.length : Int) then (if 0 ≤ x4 then (if (rd x0 x4) ≥ 2 then (if x3.length < 17592186044416 then (bC.l0 k x0 (x3 ++ [wrap64 ((rd x0 x4) - 2)]) (wrap64 (x4 + 1))) else (none)) else (bC.l0 k x0 x3 (wrap64 (x4 + 1)))) else (none)) else (some x3)
def bC.f (k : Nat) (l0 : List Int) : Option (List Int) := bC.l0 k l0 (([] : List Int)) 0
set_option maxHeartbeats 8000000 in
set_option maxRecDepth 100000 in
theorem bC.calls (k : Nat) (T : Option Addr) (U : Nat) (c : List Int) (r : List Int) (w : World) (G : Kd.C (fG .i64) w T c.length c) (I : c.length ≤ U) (h : bC.f k c = some r) :
    Calls fM 88 #[.slice T c.length U] w fun e w' => ∃ J : Value, e = .returned (J) ∧ Kd.R (fG .i64) 3 w' w.heap.size (fun _ => True) J r ∧ Below w.heap.size w w' := by
 have y := zm G; have a2 := zm I; clear G I; have HB := zm (fX w.heap.size w)
 have H : (bC.l0 k c (([] : List Int)) 0) = some r := h
 clear h
 obtain ⟨z, j⟩ : ∃ y_ : List Int, y_ = (([] : List Int)) := ⟨_, rfl⟩
 replace H : (bC.l0 k c z 0) = some r := zy H j
 have s := zm j; clear j
 have H' := zm H
 clear H
 go_enter Tryz.func88, Tryz.ntmps88
 go_wp2_with (first | ((with_reducible refine fP (N := 5) rfl ?_); refine lT (fG .i64) _ 3 ?hg (N := 5) ?hd (xs := ([] : List Int)) (inner := []) (ok := fun _ => True) (okp := fun _ => True) ?hr ?hp (fun _ hk => hk) trivial (fX _ _) (fQ _) (by simp) ?_; (case hd => rfl); (case hg => rfl); (case hr => first | (go_simp; done) | (go_simp; rfl)); (case hp => exact (jD _ _)); intro X w2 n hb hg_ hnew_; clear hg_ hnew_; (first | rw [← s.o] at n | (simp only [gX] at n; rw [← s.o] at n)); refine zG2 (fL n (eV (zg_1 HB.o))) (eZ (zg_1 HB.o) hb) ?_; clear HB; intro B HB; clear hb n))
 go_loopg [3, 4] k (fun kq Y Z w' => ∃ (i : List Int) (a : Int), Z = .int .i64 a ∧ Aside0 (bC.l0 kq c i a = some r) ∧ Aside0 (kq ≤ k) ∧ Aside0 (Kd.R (fG .i64) 3 w' w.heap.size (fun _ => True) Y i) ∧ Aside0 (Below w.heap.size w w'))
 case atStart => exact ⟨(z), (0), zr, H', ⟨fQ _⟩, ⟨zlR B.o⟩, ⟨zg_1 HB.o⟩⟩
 case round =>
  clear H'
  try clear p2
  obtain ⟨i, a, rfl, HA, t, l, HB⟩ := hrel
  cases gk with
  | zero => exact absurd HA.o (by simp [bC.l0])
  | succ k1 =>
   have H := HA.o; clear HA
   simp only [bC.l0] at H
   by_cases v : a < (c.length : Int)
   rotate_left
   ·rw [if_neg v] at H
    have L := decide_eq_false v; clear v; obtain rfl := fF H
    go_wp2
    go_ret
    exact ⟨_, ze, by (with_reducible repeat (first | apply fY | apply fZ | apply fK)); exact l.o, zg_1 HB.o⟩
   rw [if_pos v] at H; have L := decide_eq_true v; clear v
   replace H := zid H; obtain ⟨a0, H⟩ := H
   by_cases x : (rd c a) ≥ 2
   rotate_left
   ·rw [if_neg x] at H
    have M := decide_eq_false x; clear x
    have H' := zm H
    clear H
    have d : 0 ≤ (a : Int) := zd
    have g : a < (c.length : Int) := zd
    obtain ⟨u, o, hx280_0⟩ := gY y.o a d g
    cases o; replace hx280_0 := (HB.o.cell (eU w _ hx280_0)).trans hx280_0; replace d := eq_true d; replace g := eq_true g
    go_wp2
    go_roundg k1
    case measure => have := t.o; omega
    case rel => exact ⟨(i), (wrap64 (a + 1)), zr, H', ⟨by have := t.o; omega⟩, ⟨zlR l.o⟩, ⟨zg_1 HB.o⟩⟩
   rw [if_pos x] at H; have M := decide_eq_true x; clear x
   replace H := zif H; obtain ⟨V, H⟩ := H; have O := zm V; clear V
   obtain ⟨A, m⟩ : ∃ y_ : List Int, y_ = (i ++ [wrap64 ((rd c a) - 2)]) := ⟨_, rfl⟩
   replace H : (bC.l0 k1 c A (wrap64 (a + 1))) = some r := zy H m
   have D := zm m; clear m
   have H' := zm H
   clear H
   have d : 0 ≤ (a : Int) := zd
   have g : a < (c.length : Int) := zd
   obtain ⟨u, o, hx280_0⟩ := gY y.o a d g
   cases o; replace hx280_0 := (HB.o.cell (eU w _ hx280_0)).trans hx280_0; replace d := eq_true d; replace g := eq_true g
   have p : 0 ≤ (a : Int) := zd
   have q : a < (c.length : Int) := zd
   obtain ⟨E, S, hx281_0⟩ := gY y.o a p q
   obtain rfl : u = E := (by injection S)
   replace hx281_0 := (HB.o.cell (eU w _ hx281_0)).trans hx281_0; replace p := eq_true p; replace q := eq_true q
   go_wp2_with (first | ((with_reducible refine gate_builtin (b := .append) (xs := #[.tmp 17, .tmp 23]) rfl ?_); at_builtin; refine Kd.R_append (fG .i64) (w0 := w) w.heap.size rfl (.tmp 17) (.tmp 23) 23 3 (.int .i64 0) 8 rfl iP info3 rfl (by decide) (by omega) u3 i (wrap64 ((rd c a) - 2)) [.int .i64 (wrap64 ((rd c a) - 2))] (fun _ => True) (fun _ => False) rfl rfl ?aP (fun _ hk => hk.elim) ?aF ?aO ?aB ?aS ?aL ?_; (case aP => exact rfl); (case aB => exact (zg_1 HB.o)); (case aF => exact (fun _ _ => trivial)); (case aO => exact (zg_6 l.o)); (case aS => exact (eV (zg_1 HB.o))); (case aL => have := O.o; omega); intro a1 w8 ho hb hg hat; rw [← D.o] at ho; refine zG2 (hb) (ho) ?_; clear l HB; intro HB F; clear ho hb hg hat))
   go_roundg k1
   case measure => have := t.o; omega
   case rel => exact ⟨(A), (wrap64 (a + 1)), zr, H', ⟨by have := t.o; omega⟩, ⟨zlR F.o⟩, ⟨zg_1 HB.o⟩⟩
def aV.l0 : Nat → List Int → Int → List Int → List Int → List (S60) → List Int → Option (List Int × List Int × (List (S60)) × List Int)
  | 0, _, _, _, _, _, _ => none
  | k + 1, x5, x6, x286000, x286001, x286002, x286003 => if x6 < (x5.length : Int) then (if 0 ≤ x6 then (if 0 ≤ (rd x5 x6) then (if (rd x5 x6) < (x286000.length : Int) then (aV.l0 k x5 (wrap64 (x6 + 1)) (x286000.set ((rd x5 x6) : Int).toNat (wrap64 ((rd x286000 (rd x5 x6)) + 1))) x286001 x286002 x286003) else (none)) else (none)) else (none)) else (some (x286000, x286001, x286002, x286003))
def aV.f (k : Nat) (l0_0 : List Int) (l0_1 : List Int) (l0_2 : List (S60)) (l0_3 : List Int) (l1 : List Int) : Option (List Int × List Int × (List (S60)) × List Int) := (bC.f k l1).bind fun t287 => (aV.l0 k t287 0 l0_0 l0_1 l0_2 l0_3)
def aV.T5 : Bool × List (List Nat × List Nat) := (true, [([], []), ([0], [0]), ([], []), ([], []), ([2, 3], [2, 3]), ([4], [4]), ([1, 5], [1, 5]), ([6], [6]), ([7], [7]), ([1, 5, 0, 1, 2, 3, 4, 5, 6, 7, 8], [1, 5]), ([9, 8, 0, 1, 2, 3, 4, 5, 6, 7, 8], [8, 9])])
def aV.B5 : List Nat := [0, 1, 0, 0, 12, 28, 63, 127, 255, 511, 1023]
theorem aV.tab5 : rtab .any (opsOf Tryz.f63 5) = aV.T5 := by kernel_rfl
theorem aV.bits5 : waitsOk aV.T5.2 aV.B5 = true := by kernel_rfl
set_option maxHeartbeats 8000000 in
set_option maxRecDepth 100000 in
theorem aV.calls (k : Nat) (a : Nat → Prop) (B : Value) (y : List Int) (b : Nat → Prop) (D : Value) (z : List Int) (c : Nat → Prop) (a3 : Value) (r : List (S60)) (d : Nat → Prop) (E : Value) (A : List Int) (A1 : Option Addr) (c1 : Nat) (l1 : List Int) (r1 : List Int) (r2 : List Int) (r3 : List (S60)) (r4 : List Int) (x w : World) (hB : Below x.heap.size x w) (a0 : Kd.R (fG .i64) 3 w x.heap.size a B y) (b6 : ∀ k_, a k_ → ¬ b k_) (f3 : ∀ k_, a k_ → ¬ c k_) (b7 : ∀ k_, a k_ → ¬ d k_) (a1 : Kd.R (fG .i64) 3 w x.heap.size b D z) (b8 : ∀ k_, b k_ → ¬ a k_) (f4 : ∀ k_, b k_ → ¬ c k_) (b9 : ∀ k_, b k_ → ¬ d k_) (e9 : Kd.S k60 60 w x.heap.size c a3 r) (c0 : ∀ k_, c k_ → ¬ a k_) (c2 : ∀ k_, c k_ → ¬ b k_) (c3 : ∀ k_, c k_ → ¬ d k_) (a2 : Kd.R (fG .i64) 3 w x.heap.size d E A) (c4 : ∀ k_, d k_ → ¬ a k_) (c5 : ∀ k_, d k_ → ¬ b k_) (f5 : ∀ k_, d k_ → ¬ c k_) (f6 : ∀ W_, Kept w W_ (fun _ => False) → Kd.C (fG .i64) W_ A1 l1.length l1) (f7 : l1.length ≤ c1) (h : aV.f k y z r A l1 = some (r1, r2, r3, r4)) :
    Calls fM 63 #[.agg #[B, D, a3, E], .slice A1 l1.length c1] w fun e w' => ∃ c7 c9 f8 d0 : Value, e = .returned (.agg #[c7, c9, f8, d0]) ∧ Kd.R (fG .i64) 3 w' x.heap.size (fun k_ => ((a k_ ∨ b k_ ∨ c k_ ∨ d k_) ∨ w.heap.size ≤ k_) ∧ some k_ ≠ ob c9 ∧ some k_ ≠ ob d0) c7 r1 ∧ Kd.R (fG .i64) 3 w' x.heap.size (fun k_ => ((a k_ ∨ b k_ ∨ c k_ ∨ d k_) ∨ w.heap.size ≤ k_) ∧ some k_ ≠ ob c7 ∧ some k_ ≠ ob d0) c9 r2 ∧ Kd.S k60 60 w' x.heap.size (fun k_ => ((a k_ ∨ b k_ ∨ c k_ ∨ d k_) ∨ w.heap.size ≤ k_) ∧ some k_ ≠ ob c7 ∧ some k_ ≠ ob c9 ∧ some k_ ≠ ob d0) f8 r3 ∧ Kd.R (fG .i64) 3 w' x.heap.size (fun k_ => ((a k_ ∨ b k_ ∨ c k_ ∨ d k_) ∨ w.heap.size ≤ k_) ∧ some k_ ≠ ob c7 ∧ some k_ ≠ ob c9) d0 r4 ∧ Below x.heap.size x w' ∧ Kept w w' (fun k_ => a k_ ∨ b k_ ∨ c k_ ∨ d k_) := by
 have hu31 := fW; have Zg := zm (show Kd.R (fG .i64) 3 w x.heap.size (fun k_ => ((a k_ ∨ b k_ ∨ c k_ ∨ d k_) ∨ w.heap.size ≤ k_) ∧ some k_ ≠ ob D ∧ some k_ ≠ ob E) B y from eX a0 (fun k_ hk => ⟨(.inl (.inl hk)), fun e_ => b6 k_ hk (a1.1 k_ e_.symm), fun e_ => b7 k_ hk (a2.1 k_ e_.symm)⟩)); have Zh := zm (show Kd.R (fG .i64) 3 w x.heap.size (fun k_ => ((a k_ ∨ b k_ ∨ c k_ ∨ d k_) ∨ w.heap.size ≤ k_) ∧ some k_ ≠ ob B ∧ some k_ ≠ ob E) D z from eX a1 (fun k_ hk => ⟨(.inl (.inr (.inl hk))), fun e_ => b8 k_ hk (a0.1 k_ e_.symm), fun e_ => b9 k_ hk (a2.1 k_ e_.symm)⟩)); have Zj := zm (show Kd.S k60 60 w x.heap.size (fun k_ => ((a k_ ∨ b k_ ∨ c k_ ∨ d k_) ∨ w.heap.size ≤ k_) ∧ some k_ ≠ ob B ∧ some k_ ≠ ob D ∧ some k_ ≠ ob E) a3 r from gQ e9 (fun k_ hk => ⟨(.inl (.inr (.inr (.inl hk)))), fun e_ => c0 k_ hk (a0.1 k_ e_.symm), fun e_ => c2 k_ hk (a1.1 k_ e_.symm), fun e_ => c3 k_ hk (a2.1 k_ e_.symm)⟩)); have Zi := zm (show Kd.R (fG .i64) 3 w x.heap.size (fun k_ => ((a k_ ∨ b k_ ∨ c k_ ∨ d k_) ∨ w.heap.size ≤ k_) ∧ some k_ ≠ ob B ∧ some k_ ≠ ob D) E A from eX a2 (fun k_ hk => ⟨(.inl (.inr (.inr (.inr hk)))), fun e_ => c4 k_ hk (a0.1 k_ e_.symm), fun e_ => c5 k_ hk (a1.1 k_ e_.symm)⟩)); have h6 := zm f6; have h7 := zm f7; clear f6 f7; have HK := zm (Kept.refl w (fun k_ => a k_ ∨ b k_ ∨ c k_ ∨ d k_)); have HKF := zm (Kept.refl w (fun _ => False)); have j6 := zm hB.size; have HB := zm hB; clear hB
 have H : ((bC.f k l1).bind fun b3 => (aV.l0 k b3 0 y z r A)) = some (r1, r2, r3, r4) := h
 clear h; replace H := eW.mp H
 obtain ⟨b3, f9, H⟩ := H
 try dsimp only at H
 have A3 := zm f9; clear f9
 have H' := zm H
 clear H
 obtain ⟨a5, a6, h8⟩ := fA Zg.o
 subst h8
 obtain ⟨a7, a8, h9⟩ := fA Zh.o
 subst h9
 obtain ⟨G, I, i0⟩ := iF Zj.o
 subst i0
 obtain ⟨a9, b0, i1⟩ := fA Zi.o
 subst i1
 go_enter Tryz.func63, Tryz.ntmps63
 go_wp2_with (first | ((with_reducible refine fP (N := 2) rfl ?_); refine fS zo (N := 2) zo (cs := #[.slice a5 y.length a6, .slice a7 z.length a8, .slice G r.length I, .slice a9 A.length b0]) (t := 31) zh ?_; intro q hg w8 hbox hb; have J := zm (fI (zg_6 Zg.o) hb); have L := zm (fI (zg_6 Zh.o) hb); have O := zm (Kd.S_below (zg_7 Zj.o) hb); have T := zm (fI (zg_6 Zi.o) hb); have U := zm (kU (S := (fun k_ => a k_ ∨ b k_ ∨ c k_ ∨ d k_)) (zg_13 HK.o) hb); have HKG := zm (kU (S := (fun _ => False)) (zg_13 HKF.o) hb); clear HKF; have HKF := HKG; clear HKG; have V := zm (eZ (zg_1 HB.o) hb); have X := zm (hbox); have Y := zm ((by rw [hg]; exact (by first | exact HK.o.1 | exact (show Kept w _ (fun k_ => a k_ ∨ b k_ ∨ c k_ ∨ d k_) from zg_13 HK.o).1) : w.heap.size ≤ q)); have Z := zm ((by rw [hg]; exact (eV (zg_1 HB.o)) : x.heap.size ≤ q)); replace Zg := J; replace Zh := L; replace Zj := O; replace Zi := T; replace HK := U; replace HB := V; have Zb := X; have Zk := Y; have Zl := Z; clear J L O T U V X Y Z; clear hb hbox hg) | ((with_reducible refine fP (N := 4) rfl ?_); refine fS zo (N := 4) zo (cs := #[.slice none 0 0, .slice none 0 0, .slice none 0 0, .slice none 0 0]) (t := 31) zh ?_; intro F hg w9 hbox hb; have J := zm (fI (zg_6 Zg.o) hb); have L := zm (fI (zg_6 Zh.o) hb); have O := zm (Kd.S_below (zg_7 Zj.o) hb); have T := zm (fI (zg_6 Zi.o) hb); have U := zm (fB (g := q) (o := .cells #[.slice a5 y.length a6, .slice a7 z.length a8, .slice G r.length I, .slice a9 A.length b0] 31 (0, 0)) (zg_3 Zb.o) hb); have V := zm (kU (S := (fun k_ => a k_ ∨ b k_ ∨ c k_ ∨ d k_)) (zg_14 HK.o Zk.o) hb); have HKG := zm (kU (S := (fun _ => False)) (zg_14 HKF.o Zk.o) hb); clear HKF; have HKF := HKG; clear HKG; have X := zm (eZ (zg_2 HB.o Zl.o) hb); have Y := zm (hbox); have Z := zm ((by rw [hg]; exact (by first | exact HK.o.1 | exact (show Kept w _ (fun k_ => a k_ ∨ b k_ ∨ c k_ ∨ d k_) from zg_14 HK.o Zk.o).1) : w.heap.size ≤ F)); have g0 := zm ((by rw [hg]; exact (eV (zg_2 HB.o Zl.o)) : x.heap.size ≤ F)); have d9 := zm ((by rw [hg]; exact gN (hO (g := q) (o := .cells #[.slice a5 y.length a6, .slice a7 z.length a8, .slice G r.length I, .slice a9 A.length b0] 31 (0, 0)) (zg_3 Zb.o)) : q ≠ F)); have e0 := zm ((by rw [hg]; exact gT (hO (g := q) (o := .cells #[.slice a5 y.length a6, .slice a7 z.length a8, .slice G r.length I, .slice a9 A.length b0] 31 (0, 0)) (zg_3 Zb.o)) : F ≠ q)); replace Zg := J; replace Zh := L; replace Zj := O; replace Zi := T; replace Zb := U; replace HK := V; replace HB := X; have Zc := Y; have Zm := Z; have Zn := g0; have Zp := d9; have Zq := e0; clear J L O T U V X Y Z g0 d9 e0; clear hb hbox hg) | ((with_reducible refine fJ (f := 88) rfl ?_); refine gU (some 8) rfl rfl Tryz.func88 (by kernel_rfl) rfl #[.slice A1 l1.length c1] rfl zq ?_; (with_reducible refine (bC.calls k _ _ l1 b3 _ ?_ ?_ A3.o).mono ?_); exact Kd.C_kept_now h6.o (zg_15 HKF.o Zk.o Zm.o); exact h7.o; rintro e j7 ⟨a4, rfl, b1, hb⟩; refine ⟨_, rfl, ?_⟩; refine zG9 (iZ (zg_6 Zg.o) (fH b1) hb) (iZ (zg_6 Zh.o) (fH b1) hb) (Kd.S_elder' (zg_7 Zj.o) (fH b1) hb) (iZ (zg_6 Zi.o) (fH b1) hb) (fL (fT (fT (fT (Kd.R_newM (M := fun k_ => ((a k_ ∨ b k_ ∨ c k_ ∨ d k_) ∨ w.heap.size ≤ k_)) b1 (by first | exact HK.o.1 | exact (show Kept w _ (fun k_ => a k_ ∨ b k_ ∨ c k_ ∨ d k_) from zg_15 HK.o Zk.o Zm.o).1) (fun k_ h_ => .inr h_)) (fO (zg_6 Zg.o))) (fO (zg_6 Zh.o))) (fO (zg_6 Zi.o))) (eV (zg_5 HB.o Zl.o Zn.o))) (fB (g := q) (o := .cells #[.slice a5 y.length a6, .slice a7 z.length a8, .slice G r.length I, .slice a9 A.length b0] 31 (0, 0)) (zg_3 Zb.o) hb) (fB (g := F) (o := .cells #[.slice none 0 0, .slice none 0 0, .slice none 0 0, .slice none 0 0] 31 (0, 0)) (zg_3 Zc.o) hb) (kU (S := (fun k_ => a k_ ∨ b k_ ∨ c k_ ∨ d k_)) (zg_15 HK.o Zk.o Zm.o) hb) (eZ (zg_5 HB.o Zl.o Zn.o) hb) ?_; clear Zg Zh Zj Zi Zb Zc HK HB; intro Zg Zh Zj Zi Zs Zb Zc HK HB; (try clear hb); (try clear hb2); (try clear hk); (try clear hi); (try clear b1); (try clear HKF)))
 go_loopg [6] k (fun kq v6 w' => ∃ (m : List Int) (l : Int) (j : List Int) (u : List Int) (v : List Int) (u286000 : Value) (u286001 : Value) (u286003 : Value), v6 = .int .i64 l ∧ Aside0 (aV.l0 kq m l j u r v = some (r1, r2, r3, r4)) ∧ Aside0 (kq ≤ k) ∧ Aside0 (Kd.R (fG .i64) 3 w' x.heap.size (fun k_ => ((a k_ ∨ b k_ ∨ c k_ ∨ d k_) ∨ w.heap.size ≤ k_) ∧ some k_ ≠ ob u286000 ∧ some k_ ≠ ob u286001 ∧ some k_ ≠ ob u286003) a4 m) ∧ Aside0 (Kd.R (fG .i64) 3 w' x.heap.size (fun k_ => ((a k_ ∨ b k_ ∨ c k_ ∨ d k_) ∨ w.heap.size ≤ k_) ∧ some k_ ≠ ob a4 ∧ some k_ ≠ ob u286001 ∧ some k_ ≠ ob u286003) u286000 j) ∧ Aside0 (Kd.R (fG .i64) 3 w' x.heap.size (fun k_ => ((a k_ ∨ b k_ ∨ c k_ ∨ d k_) ∨ w.heap.size ≤ k_) ∧ some k_ ≠ ob a4 ∧ some k_ ≠ ob u286000 ∧ some k_ ≠ ob u286003) u286001 u) ∧ Aside0 (Kd.S k60 60 w' x.heap.size (fun k_ => ((a k_ ∨ b k_ ∨ c k_ ∨ d k_) ∨ w.heap.size ≤ k_) ∧ some k_ ≠ ob a4 ∧ some k_ ≠ ob u286000 ∧ some k_ ≠ ob u286001 ∧ some k_ ≠ ob u286003) (.slice G r.length I) r) ∧ Aside0 (Kd.R (fG .i64) 3 w' x.heap.size (fun k_ => ((a k_ ∨ b k_ ∨ c k_ ∨ d k_) ∨ w.heap.size ≤ k_) ∧ some k_ ≠ ob a4 ∧ some k_ ≠ ob u286000 ∧ some k_ ≠ ob u286001) u286003 v) ∧ Aside0 (w'.heap[q]? = some (.cells #[u286000, u286001, (.slice G r.length I), u286003] 31 (0, 0))) ∧ Aside0 (w'.heap[F]? = some (.cells #[(.slice none 0 0), (.slice none 0 0), (.slice none 0 0), (.slice none 0 0)] 31 (0, 0))) ∧ Aside0 (Kept w w' (fun k_ => a k_ ∨ b k_ ∨ c k_ ∨ d k_)) ∧ Aside0 (Below x.heap.size x w'))
 case atStart => exact ⟨(b3), (0), (y), (z), (A), (.slice a5 y.length a6), (.slice a7 z.length a8), (.slice a9 A.length b0), zr, H', ⟨fQ _⟩, ⟨by (with_reducible repeat (first | apply fY | apply fZ | apply fK)); exact eX Zs.o (fun _ hk => ⟨hk.1.1.1.1, ⟨hk.1.1.2, ⟨hk.1.2, hk.2⟩⟩⟩)⟩, ⟨by (with_reducible repeat (first | apply fY | apply fZ | apply fK)); exact eX Zg.o (fun _ hk => ⟨hk.1.1, ⟨hk.2, ⟨hk.1.2.1, hk.1.2.2⟩⟩⟩)⟩, ⟨by (with_reducible repeat (first | apply fY | apply fZ | apply fK)); exact eX Zh.o (fun _ hk => ⟨hk.1.1, ⟨hk.2, ⟨hk.1.2.1, hk.1.2.2⟩⟩⟩)⟩, ⟨by (with_reducible repeat (first | apply jA | apply jB | apply iU)); exact gQ Zj.o (fun _ hk => ⟨hk.1.1, ⟨hk.2, ⟨hk.1.2.1, ⟨hk.1.2.2.1, hk.1.2.2.2⟩⟩⟩⟩)⟩, ⟨by (with_reducible repeat (first | apply fY | apply fZ | apply fK)); exact eX Zi.o (fun _ hk => ⟨hk.1.1, ⟨hk.2, ⟨hk.1.2.1, hk.1.2.2⟩⟩⟩)⟩, ⟨zl Zb.o⟩, ⟨zl Zc.o⟩, ⟨zg_15 HK.o Zk.o Zm.o⟩, ⟨zg_5 HB.o Zl.o Zn.o⟩⟩
 case round =>
  clear H'
  try clear c1
  try clear p2
  try clear c6
  try clear c8
  obtain ⟨m, l, j, u, v, u286000, u286001, u286003, rfl, HA, g1, Zo, Za, Zd, Zf, Ze, Zb, Zc, HK, HB⟩ := hrel
  cases gk with
  | zero => exact absurd HA.o (by simp [aV.l0])
  | succ k1 =>
   have H := HA.o; clear HA
   simp only [aV.l0] at H
   by_cases b2 : l < (m.length : Int)
   rotate_left
   ·rw [if_neg b2] at H
    have f0 := decide_eq_false b2; clear b2
    simp only [gC, gP] at H
    obtain ⟨rfl, rfl, rfl, rfl⟩ := H
    obtain ⟨j0, j1, g3⟩ := fA Zo.o
    subst g3; have i2 := Zp.o; have i3 := Zq.o
    obtain ⟨_, _, _, _, _, _, _, _⟩ := zb4 Zb.o
    obtain ⟨g4, g5, g6⟩ := fA Za.o
    subst g6
    obtain ⟨_, _, _, _, _, _, _, _⟩ := zb4 Zc.o
    obtain ⟨g7, g8, g9⟩ := fA Zd.o
    subst g9
    obtain ⟨h0, h1, h2⟩ := fA Ze.o
    subst h2
    go_wp2
    refine bodyPost_ret (jE rfl _ _ F 31 #[.slice g4 j.length g5, .slice g7 u.length g8, .slice G r.length I, .slice h0 v.length h1] (0, 0) _ rfl (by exact zput4 Zc.o) fW rfl (by kernel_rfl)) rfl ?_
    exact ⟨_, _, _, _, ze, eX (zR4 (fD Za.o Zc.o (by decide))) (fun _ hk => ⟨hk.1.1, ⟨hk.1.2.2.1, hk.1.2.2.2⟩⟩), eX (zR4 (fD Zd.o Zc.o (by decide))) (fun _ hk => ⟨hk.1.1, ⟨hk.1.2.2.1, hk.1.2.2.2⟩⟩), gQ (zS4 (hX Zf.o Zc.o (by decide))) (fun _ hk => ⟨hk.1.1, ⟨hk.1.2.2.1, ⟨hk.1.2.2.2.1, hk.1.2.2.2.2⟩⟩⟩), eX (zR4 (fD Ze.o Zc.o (by decide))) (fun _ hk => ⟨hk.1.1, ⟨hk.1.2.2.1, hk.1.2.2.2⟩⟩), zg_5 HB.o Zl.o Zn.o, zg_15 HK.o Zk.o Zm.o⟩
   rw [if_pos b2] at H; have f0 := decide_eq_true b2; clear b2
   replace H := zid H; obtain ⟨i4, H⟩ := H
   replace H := zid H; obtain ⟨i5, H⟩ := H
   replace H := zid H; obtain ⟨i6, H⟩ := H
   obtain ⟨e1, b4⟩ : ∃ y_ : List Int, y_ = (j.set ((rd m l) : Int).toNat (wrap64 ((rd j (rd m l)) + 1))) := ⟨_, rfl⟩
   replace H : (aV.l0 k1 m (wrap64 (l + 1)) e1 u r v) = some (r1, r2, r3, r4) := zy H b4
   have f1 := zm b4; clear b4
   have H' := zm H
   clear H
   obtain ⟨j2, j3, h3⟩ := fA Zo.o
   subst h3
   try go_wp2
   have J := zm (fK Zo.o); have L := zm (fK Za.o); have O := zm (fK Zd.o); have T := zm (iU Zf.o); have U := zm (fK Ze.o); have V := zm (fU Zb.o); have X := zm (fU Zc.o); have Y := zm (Kept.drew HK.o); have Z := zm (gA HB.o); clear Zo; clear Za; clear Zd; clear Zf; clear Ze; clear Zb; clear Zc; clear HK; clear HB; have Zo := J; have Za := L; have Zd := O; have Zf := T; have Ze := U; have Zb := V; have Zc := X; have HK := Y; have HB := Z; clear J L O T U V X Y Z
   have d1 : 0 ≤ (l : Int) := zd
   have d2 : l < (m.length : Int) := zd
   obtain ⟨f2, h4, hx290_0⟩ := gY (fC Zo.o).2.2 l d1 d2
   cases h4; replace d1 := eq_true d1; replace d2 := eq_true d2
   obtain ⟨j4, e2, e3⟩ := fA Za.o
   (first | subst e3 | (injection e3 with f1_ f2_ f3_; have f4_ := f1_.symm; have f5_ := f3_.symm; clear f1_ f2_ f3_; subst f4_; subst f5_))
   have d3 : 0 ≤ ((rd m l) : Int) := zd
   have d4 : (rd m l) < (j.length : Int) := zd
   obtain ⟨i7, h5, hx291_0⟩ := gY (fC Za.o).2.2 (rd m l) d3 d4
   cases h5; replace d3 := eq_true d3; replace d4 := eq_true d4
   have e4 : 0 ≤ ((rd m l) : Int) := zd
   have e5 : ((rd m l) : Int) < ((j.length : Int) : Int) := zd
   obtain ⟨s, j5, e6, e7, gl15, cl15, HG15⟩ := Kd.R_form Za.o (by omega)
   (first | cases e6 | (injection e6 with ea_ en_ ec_; (first | subst ea_ | (injection ea_ with ea_; subst ea_)); subst ec_; clear en_))
   have GB15 := zm e7; have Zu := zm HG15; clear e7 gl15 HG15; have HMgo15 := zm (show ((a s ∨ b s ∨ c s ∨ d s) ∨ w.heap.size ≤ s) from (Za.o.1 _ rfl).1)
   (first | simp only [add_plain] at hx291_0 | skip)
   obtain ⟨hx15_0, hf15_0⟩ := Kd.R_celln 0 Za.o ((rd m l) : Int) e4 e5
   replace e4 := eq_true e4; replace e5 := eq_true e5; have Zr := Kd.R_putn Za.o ((rd m l) : Int) (wrap64 ((rd j (rd m l)) + 1))
   rw [← f1.o] at Zr
   have Zt := zm Zr; clear Zr
   refine start_ (n := 11) (S := fun w' => w'.cell? ⟨q, 0, none⟩ = some (.slice (some ⟨s, 0, none⟩) j.length e2) ∧ w'.cell? ⟨q, 1, none⟩ = some (u286001) ∧ w'.cell? ⟨q, 2, none⟩ = some (.slice G r.length I) ∧ w'.cell? ⟨q, 3, none⟩ = some (u286003) ∧ w'.cell? (f2.add (l).toNat) = some (.int .i64 (rd m l)) ∧ w'.cell? ⟨s, ((rd m l)).toNat, none⟩ = some (.int .i64 (rd j (rd m l)))) (ds := [10]) #[ff, ff, ff, ff, ff, ff, ff, ff, ff, ff, ff] (by kernel_rfl) rfl rfl ⟨(eY Zb.o 0).trans rfl, (eY Zb.o 1).trans rfl, (eY Zb.o 2).trans rfl, (eY Zb.o 3).trans rfl, hx290_0, hx291_0⟩ (fun hHeld => ?_); refine kJ aV.tab5 aV.bits5 (fun HT_ HW_ => ?_)
   generalize wr.drew = j8 at Zo Za Zd Zf Ze Zb Zc HK HB Zu Zt hf15_0 hx15_0 hx290_0 hx291_0 hHeld ⊢
   refine gR (i := 0) (N := some 15) #[tt, ff, ff, ff, ff, ff, ff, ff, ff, ff, ff] rfl rfl (gD HT_.o zk) (fun _ _ _ h => h) (.inl ⟨by rfl, zi⟩) zu ?_
   refine gR (i := 2) (N := some 17) #[tt, ff, tt, ff, ff, ff, ff, ff, ff, ff, ff] rfl rfl (gD HT_.o zk) (fun _ _ _ h => h) (.inl ⟨by rfl, zi⟩) zu ?_
   refine gR (i := 3) (N := some 18) #[tt, ff, tt, tt, ff, ff, ff, ff, ff, ff, ff] rfl rfl (gD HT_.o zk) (fun _ _ _ h => h) (.inl ⟨by rfl, zi⟩) zu ?_
   refine gR (i := 4) (N := some 19) #[tt, ff, tt, tt, tt, ff, ff, ff, ff, ff, ff] rfl rfl (gD HT_.o zk) (fun _ _ _ h => h) (.inl ⟨by rfl, zi⟩) zu ?_
   refine kA (i := 1) (N := some 16) #[tt, tt, tt, tt, tt, ff, ff, ff, ff, ff, ff] rfl rfl (hZ HT_.o HW_.o zk) (fun _ _ _ h => h) (.inl ⟨by rfl, zi6⟩) hHeld zu ?_
   refine kA (i := 5) (N := some 20) #[tt, tt, tt, tt, tt, tt, ff, ff, ff, ff, ff] rfl rfl (hZ HT_.o HW_.o zk) (fun _ _ _ h => h) (.inl ⟨by rfl, zi6⟩) hHeld zu ?_
   refine gR (i := 6) (N := some 21) #[tt, tt, tt, tt, tt, tt, tt, ff, ff, ff, ff] rfl rfl (gD HT_.o zk) (fun _ _ _ h => h) (.inl ⟨by rfl, zi⟩) zu ?_
   refine kA (i := 7) (N := some 22) #[tt, tt, tt, tt, tt, tt, tt, tt, ff, ff, ff] rfl rfl (hZ HT_.o HW_.o zk) (fun _ _ _ h => h) (.inl ⟨by rfl, zi6⟩) hHeld zu ?_
   refine gR (i := 8) (N := some 23) #[tt, tt, tt, tt, tt, tt, tt, tt, tt, ff, ff] rfl rfl (gD HT_.o zk) (fun _ _ _ h => h) (.inl ⟨by rfl, zi⟩) zu ?_
   refine gR (i := 9) (N := some 24) #[tt, tt, tt, tt, tt, tt, tt, tt, tt, tt, ff] rfl rfl (gD HT_.o zk) (fun _ _ _ h => h) (.inl ⟨by rfl, zi⟩) zu ?_
   refine last_ (i := 10) (N := none) #[tt, tt, tt, tt, tt, tt, tt, tt, tt, tt, tt] rfl rfl (iS HT_.o zk) (by decide) (fun K hK => ?_)
   refine skip_ (w1 := ?_) (by rfl) rfl ?_ ?_
   rotate_left
   ·go_simp
    rfl
   refine hK.out _ _ ?_
   clear hK K
   refine done_ (done_of HT_.o zk) ?_
   try go_wp2
   go_roundg k1
   case measure => have := g1.o; omega
   case rel => exact ⟨(m), (wrap64 (l + 1)), (e1), (u), (v), (.slice (some ⟨s, 0, none⟩) j.length e2), (u286001), (u286003), zr, H', ⟨by have := g1.o; omega⟩, ⟨by (with_reducible repeat (first | apply fY | apply fZ | apply fK)); exact eX (fR (p := ⟨s, ((rd m l) : Int).toNat, none⟩) (eX Zo.o (fun k_ hk => (⟨hk, fun e_ => hk.2.1 (by rw [e_]; rfl)⟩ : _ ∧ k_ ≠ s))) (fun _ hk => hk.2) (.int .i64 (wrap64 ((rd j (rd m l)) + 1)))) (fun _ hk => ⟨hk.1.1, ⟨hk.1.2.1, ⟨hk.1.2.2.1, hk.1.2.2.2⟩⟩⟩)⟩, ⟨zlR Zt.o⟩, ⟨by (with_reducible repeat (first | apply fY | apply fZ | apply fK)); exact eX (fR (p := ⟨s, ((rd m l) : Int).toNat, none⟩) (eX Zd.o (fun k_ hk => (⟨hk, fun e_ => hk.2.2.1 (by rw [e_]; rfl)⟩ : _ ∧ k_ ≠ s))) (fun _ hk => hk.2) (.int .i64 (wrap64 ((rd j (rd m l)) + 1)))) (fun _ hk => ⟨hk.1.1, ⟨hk.1.2.1, ⟨hk.1.2.2.1, hk.1.2.2.2⟩⟩⟩)⟩, ⟨by (with_reducible repeat (first | apply jA | apply jB | apply iU)); exact gQ (Kd.S_far (p := ⟨s, ((rd m l) : Int).toNat, none⟩) (gQ Zf.o (fun k_ hk => (⟨hk, fun e_ => hk.2.2.1 (by rw [e_]; rfl)⟩ : _ ∧ k_ ≠ s))) (fun _ hk => hk.2) (.int .i64 (wrap64 ((rd j (rd m l)) + 1)))) (fun _ hk => ⟨hk.1.1, ⟨hk.1.2.1, ⟨hk.1.2.2.1, ⟨hk.1.2.2.2.1, hk.1.2.2.2.2⟩⟩⟩⟩)⟩, ⟨by (with_reducible repeat (first | apply fY | apply fZ | apply fK)); exact eX (fR (p := ⟨s, ((rd m l) : Int).toNat, none⟩) (eX Ze.o (fun k_ hk => (⟨hk, fun e_ => hk.2.2.1 (by rw [e_]; rfl)⟩ : _ ∧ k_ ≠ s))) (fun _ hk => hk.2) (.int .i64 (wrap64 ((rd j (rd m l)) + 1)))) (fun _ hk => ⟨hk.1.1, ⟨hk.1.2.1, ⟨hk.1.2.2.1, hk.1.2.2.2⟩⟩⟩)⟩, ⟨by (with_reducible repeat (first | refine gG ?_ _ | refine fU ?_ | refine fV ?_ _)); refine kE ?_ (by have h_ := gJ Za.o Zb.o (by decide); intro e_; exact h_ (by rw [e_]; rfl)) _; (with_reducible repeat (first | refine gG ?_ _ | refine fU ?_ | refine fV ?_ _)); exact Zb.o⟩, ⟨by (with_reducible repeat (first | refine gG ?_ _ | refine fU ?_ | refine fV ?_ _)); refine kE ?_ (by have h_ := gJ Za.o Zc.o (by decide); intro e_; exact h_ (by rw [e_]; rfl)) _; (with_reducible repeat (first | refine gG ?_ _ | refine fU ?_ | refine fV ?_ _)); exact Zc.o⟩, ⟨zg_16 HK.o HMgo15.o Zk.o Zm.o⟩, ⟨zg_8 HB.o GB15.o Zl.o Zn.o⟩⟩
end Go.Proofs.YtniceoohmhjjlaaGreatDoor.Q
