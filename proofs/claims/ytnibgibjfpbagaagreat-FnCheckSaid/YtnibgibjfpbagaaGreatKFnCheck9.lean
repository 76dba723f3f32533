/- What laws.FnCheck reaches, part 9: the functions as Lean functions, the proofs that the program's functions answer so, and plain laws about them. -/
import Derived.Test.YtnibgibjfpbagaaGreatKFnCheck1
import Derived.Test.YtnibgibjfpbagaaGreatKFnCheck2
import Derived.Test.YtnibgibjfpbagaaGreatKFnCheck3
import Derived.Test.YtnibgibjfpbagaaGreatKFnCheck5
import Derived.Test.YtnibgibjfpbagaaGreatKFnCheck8
namespace Go.Proofs.YtnibgibjfpbagaaGreat.Q
open Go.RowKit Go.Proofs.YtnibgibjfpbagaaGreat.Ext Go.Proofs.YtnibgibjfpbagaaGreatW.PrintWords Go.Proofs.YtnibgibjfpbagaaGreatW.PrintLast Go.Proofs.YtnibgibjfpbagaaGreatW.PrintMore
attribute [local go_sem] max2_int min2_int max_two min_two max_three min_three max_four min_four   -- for this text's walks alone
open Bool renaming true → tt, false → ff
set_option linter.unusedVariables false
set_option linter.unusedSimpArgs false

set_option linter.unusedVariables false
set_option linter.unusedSimpArgs false
def spec_ImageOf.f (k : Nat) (l0 : List Int) : Option (List Int × List Int × (List (S66)) × List Int) := (spec_l00Source.f l0).bind fun bt618 => ((spec_l00Src_image.f k bt618.1 bt618.2.1 bt618.2.2).bind fun bt622 => (some (bt622.1, bt622.2.1, bt622.2.2.1, bt622.2.2.2.1)))
theorem spec_ImageOf.mono : ∀ a0 k, LeO (spec_ImageOf.f k a0) (spec_ImageOf.f (k + 1) a0) := by
  intro a0 k
  unfold spec_ImageOf.f
  repeat' first| (with_reducible first | exact spec_l00Src_image.mono _ _ _ _ | exact LeO.refl _ | exact LeO.none _ | refine LeO.ite ?_ ?_ | refine LeO.bind ?_ (fun _ => ?_)) | exact LeO.none _ | refine LeO.ite ?_ ?_ | refine LeO.bind ?_ (fun _ => ?_)
set_option maxHeartbeats 8000000 in
set_option maxRecDepth 100000 in
theorem spec_ImageOf.calls (k : Nat) (V : Option Addr) (X : Nat) (p : List Int) (r1 : List Int) (r2 : List Int) (r3 : List (S66)) (r4 : List Int) (w : World) (D : Kd.C (Kd.int .u8) w V p.length p) (E : p.length ≤ X) (h : spec_ImageOf.f k p = some (r1, r2, r3, r4)) :
    Calls Tryz.prog 4 #[.slice V p.length X] w fun e w' => ∃ j l F m : Value, e = .returned (.agg #[j, l, F, m]) ∧ Kd.R (Kd.int .i64) 3 w' w.heap.size (fun k_ => (w.heap.size ≤ k_) ∧ some k_ ≠ (l : Value).ownBlock ∧ some k_ ≠ (m : Value).ownBlock) j r1 ∧ Kd.R (Kd.int .i64) 3 w' w.heap.size (fun k_ => (w.heap.size ≤ k_) ∧ some k_ ≠ (j : Value).ownBlock ∧ some k_ ≠ (m : Value).ownBlock) l r2 ∧ Kd.N k66 66 w' w.heap.size (fun k_ => (w.heap.size ≤ k_) ∧ some k_ ≠ (j : Value).ownBlock ∧ some k_ ≠ (l : Value).ownBlock ∧ some k_ ≠ (m : Value).ownBlock) F r3 ∧ Kd.R (Kd.int .i64) 3 w' w.heap.size (fun k_ => (w.heap.size ≤ k_) ∧ some k_ ≠ (j : Value).ownBlock ∧ some k_ ≠ (l : Value).ownBlock) m r4 ∧ Below w.heap.size w w' := by
 have hu26 := Tryz.underlying26; have b4 := zm D; have b5 := zm E; clear D E; have HB := zm (Below.refl w.heap.size w); have H := h
 unfold spec_ImageOf.f at H
 clear h; replace H := Option.bind_eq_some_iff.mp H
 obtain ⟨⟨u, v, x⟩, G, H⟩ := H
 try dsimp only at H
 have A2 := zm G; clear G; replace H := Option.bind_eq_some_iff.mp H
 obtain ⟨⟨y, z, A, B, Y, Z⟩, I, H⟩ := H
 try dsimp only at H
 have A3 := zm I; clear I
 simp only [Option.some.injEq, Prod.mk.injEq] at H
 obtain ⟨rfl, rfl, rfl, rfl⟩ := H
 go_enter Tryz.func4, Tryz.ntmps4
 go_wp2_with (first | ((with_reducible refine gate_dst (N := 2) rfl ?_); refine box_event ?hg (N := 2) ?hd (cs := #[.slice none 0 0, .slice none 0 0, .slice none 0 0, .slice none 0 0]) (t := 26) ?hr ?_; (case hd => rfl); (case hg => rfl); (case hr => first | (go_simp; done) | (go_simp; rfl)); intro a hg w4 hbox hb; have b := zm (below_step (zg_1 HB.out) hb); have c := zm (hbox); have d := zm ((by rw [hg]; exact (below_size (zg_1 HB.out)) : w.heap.size ≤ a)); have i := zm ((by rw [hg]; exact (below_size (zg_1 HB.out)) : w.heap.size ≤ a)); replace HB := b; have Za := c; have Zj := d; have Zc := i; clear b c d i; clear hb hbox hg) | ((with_reducible refine gate_callee (f := 11) rfl ?_); refine goesL_ (some 4) rfl rfl Tryz.func11 (by kernel_rfl) rfl #[.slice V p.length X] rfl zq ?_; (with_reducible refine (spec_l00Source.calls _ _ p u v x w _ ?side1 ?side2 ?side3 A2.out).mono ?_); (case side1 => exact (zg_2 HB.out Zc.out)); (case side2 => exact b4.out); (case side3 => exact b5.out); rintro e w5 ⟨g621, rfl, hi, hb, hb2⟩; refine ⟨_, rfl, ?_⟩; have b := zm (blk_below (g := a) (o := .cells #[.slice none 0 0, .slice none 0 0, .slice none 0 0, .slice none 0 0] 26 (0, 0)) (zg_3 Za.out) hb2); have c := zm (hb); have d := zm (hi); have i := zm (IsS42.ne_blk hi (blk_below (g := a) (o := .cells #[.slice none 0 0, .slice none 0 0, .slice none 0 0, .slice none 0 0] 26 (0, 0)) (zg_3 Za.out) hb2) (by decide)); have n := zm (Ne.symm (IsS42.ne_blk hi (blk_below (g := a) (o := .cells #[.slice none 0 0, .slice none 0 0, .slice none 0 0, .slice none 0 0] 26 (0, 0)) (zg_3 Za.out) hb2) (by decide))); replace Za := b; replace HB := c; have Zb := d; have Zd := i; have Ze := n; clear b c d i n; (try clear hb); (try clear hb2); (try clear hk); (try clear hi)) | ((with_reducible refine gate_callee (f := 12) rfl ?_); refine goesL_ (some 5) rfl rfl Tryz.func12 (by kernel_rfl) rfl #[.pointer (some ⟨g621, 0, none⟩)] rfl zq ?_; (with_reducible refine (spec_l00Src_image.calls k g621 u v x y z A B Y Z w _ ?side1 ?side2 A3.out).mono ?_); (case side1 => exact (zg_16 Zb.out Zd.out)); (case side2 => exact (zg_17 HB.out Zb.out Zc.out)); rintro e w6 ⟨q, r, c2, s, rfl, J, L, O, S, hi, hb, hk⟩; refine ⟨_, rfl, ?_⟩; have b := zm (KeepBut.blk hk (g' := a) (o := .cells #[.slice none 0 0, .slice none 0 0, .slice none 0 0, .slice none 0 0] 26 (0, 0)) (zg_3 Za.out) Ze.out (by simp)); have c := zm (Kd.R_lower (Kd.R_newM (M := fun k_ => (w.heap.size ≤ k_)) (Kd.R_mono (ok' := fun k_ => some k_ ≠ (r : Value).ownBlock ∧ some k_ ≠ (s : Value).ownBlock) J (fun _ hk_ => hk_.2)) (below_size (zg_17 HB.out Zb.out Zc.out)) (fun k_ h_ => h_)) (below_size (zg_17 HB.out Zb.out Zc.out))); have d := zm (Kd.R_lower (Kd.R_newM (M := fun k_ => (w.heap.size ≤ k_)) (Kd.R_mono (ok' := fun k_ => some k_ ≠ (q : Value).ownBlock ∧ some k_ ≠ (s : Value).ownBlock) L (fun _ hk_ => hk_.2)) (below_size (zg_17 HB.out Zb.out Zc.out)) (fun k_ h_ => h_)) (below_size (zg_17 HB.out Zb.out Zc.out))); have i := zm (Kd.N_lower (Kd.N_mono (ok' := fun k_ => (w.heap.size ≤ k_) ∧ some k_ ≠ (q : Value).ownBlock ∧ some k_ ≠ (r : Value).ownBlock ∧ some k_ ≠ (s : Value).ownBlock ∧ k_ ≠ a ∧ k_ ≠ g621) O (fun k_ hk_ => ⟨(Nat.le_trans (below_size (zg_17 HB.out Zb.out Zc.out)) hk_.1), hk_.2.1, hk_.2.2.1, hk_.2.2.2, (Kd.freshB (g := a) (o := .cells #[.slice none 0 0, .slice none 0 0, .slice none 0 0, .slice none 0 0] 26 (0, 0)) (zg_3 Za.out) k_ hk_.1), (IsS42.fresh (zg_16 Zb.out Zd.out) k_ hk_.1)⟩)) (below_size (zg_17 HB.out Zb.out Zc.out))); have n := zm (Kd.R_lower (Kd.R_newM (M := fun k_ => (w.heap.size ≤ k_)) (Kd.R_mono (ok' := fun k_ => some k_ ≠ (q : Value).ownBlock ∧ some k_ ≠ (r : Value).ownBlock) S (fun _ hk_ => hk_.2)) (below_size (zg_17 HB.out Zb.out Zc.out)) (fun k_ h_ => h_)) (below_size (zg_17 HB.out Zb.out Zc.out))); have T := zm (hb); have U := zm (hi); replace Za := b; have Zf := c; have Zg := d; have Zh := i; have Zi := n; replace HB := T; replace Zb := U; clear b c d i n T U; (try clear hb); (try clear hb2); (try clear hk); (try clear hi); (try clear J); (try clear L); (try clear O); (try clear S); obtain ⟨b6, b7, b8⟩ := Kd.R_slice Zf.out; subst b8; have c3 := Ze.out; have c4 := Zd.out; obtain ⟨_, _, _, _, _, _, _, _⟩ := zb4 Za.out; obtain ⟨a1, a2, a3⟩ := Kd.R_slice Zg.out; subst a3; obtain ⟨a4, a5, a6⟩ := Kd.N_slice Zh.out; subst a6; obtain ⟨a7, a8, a9⟩ := Kd.R_slice Zi.out; subst a9))
 refine bodyPost_ret (results_cell_row rfl _ _ a 26 #[.slice b6 y.length b7, .slice a1 z.length a2, .slice a4 A.length a5, .slice a7 B.length a8] (0, 0) _ rfl (by exact zput4 Za.out) Tryz.underlying26 rfl (by kernel_rfl)) rfl ?_
 exact ⟨_, _, _, _, ze, Kd.R_mono (zR4 (Kd.R_types Zf.out Za.out (by decide))) (fun _ hk => ⟨hk.1.1, ⟨hk.1.2.1, hk.1.2.2⟩⟩), Kd.R_mono (zR4 (Kd.R_types Zg.out Za.out (by decide))) (fun _ hk => ⟨hk.1.1, ⟨hk.1.2.1, hk.1.2.2⟩⟩), Kd.N_mono (zN4 (Kd.N_mono Zh.out (fun k_ hk => (⟨hk, hk.2.2.2.2.1⟩ : _ ∧ k_ ≠ a)))) (fun _ hk => ⟨hk.1.1, ⟨hk.1.2.1, ⟨hk.1.2.2.1, hk.1.2.2.2.1⟩⟩⟩), Kd.R_mono (zR4 (Kd.R_types Zi.out Za.out (by decide))) (fun _ hk => ⟨hk.1.1, ⟨hk.1.2.1, hk.1.2.2⟩⟩), zg_17 HB.out Zb.out Zc.out⟩
def laws_FnCheck.f (k : Nat) (l0 : List Int) (l1 : List Int) : Option (Bool) := if (l0.length : Int) > 1048576 then (some true) else (if (l1.length : Int) > 1048576 then (some true) else ((spec_ImageOf.f k l0).bind fun bt739 => ((impl_WrongRefs.f k bt739.1 bt739.2.1 bt739.2.2.1 bt739.2.2.2).bind fun bt752 => ((laws_at.f l1 0 24).bind fun t756 => ((impl_CountRefs.f k bt739.1 bt739.2.1 bt739.2.2.1 bt739.2.2.2).bind fun bt757 => (if bt752.2 = 0 then (if (bt752.1.length : Int) = 0 then (if bt757.2 = 0 then ((laws_sameInts.f k bt757.1 bt739.1).bind fun t761 => (if t761 = true then ((some (([] : List Int) : List Int)).bind fun y762 => (if y762.length + bt739.1.length < 17592186044416 then ((some (y762 ++ bt739.1 : List Int)).bind fun y765 => (if 0 ≤ t756 then (if t756 < (y765.length : Int) then ((some (y765.set (t756 : Int).toNat (wrap64 ((rd y765 t756) + 1)) : List Int)).bind fun y770 => ((impl_WrongRefs.f k y770 bt739.2.1 bt739.2.2.1 bt739.2.2.2).bind fun bt771 => ((impl_Leaks.f k y770 bt739.2.1 bt739.2.2.1 bt739.2.2.2).bind fun bt775 => (if bt771.2 = 0 then ((laws_sameInts.f k bt771.1 (([t756] : List Int))).bind fun t782 => (if t782 = true then (if bt775.2 = 0 then ((laws_sameInts.f k bt775.1 (([t756] : List Int))).bind fun t786 => (if t786 = true then ((impl_ImageOK.f k y770 bt739.2.1 bt739.2.2.1 bt739.2.2.2).bind fun t787 => (some (!t787))) else (some false))) else (some false)) else (some false))) else (some false))))) else (none)) else (none))) else (none))) else (some false))) else (some false)) else (some false)) else (some false)))))))
theorem laws_FnCheck.mono : ∀ a0 a1 k, LeO (laws_FnCheck.f k a0 a1) (laws_FnCheck.f (k + 1) a0 a1) := by
  intro a0 a1 k
  unfold laws_FnCheck.f
  repeat' first| (with_reducible first | exact impl_CountRefs.mono _ _ _ _ _ | exact impl_ImageOK.mono _ _ _ _ _ | exact impl_Leaks.mono _ _ _ _ _ | exact impl_WrongRefs.mono _ _ _ _ _ | exact laws_sameInts.mono _ _ _ | exact spec_ImageOf.mono _ _ | exact LeO.refl _ | exact LeO.none _ | refine LeO.ite ?_ ?_ | refine LeO.bind ?_ (fun _ => ?_)) | exact LeO.none _ | refine LeO.ite ?_ ?_ | refine LeO.bind ?_ (fun _ => ?_)
def laws_FnCheck.T9 : Bool × List (List Nat × List Nat) := (true, [([], []), ([], []), ([1], [1]), ([0, 2], [0, 2]), ([], []), ([4], [4]), ([], []), ([6], [6]), ([], []), ([8], [8]), ([3, 5, 7, 9], [3, 5, 7, 9]), ([], []), ([11, 10, 3, 0, 1, 2, 3, 4, 5, 6, 7, 8, 9, 10, 11], [10, 11])])
def laws_FnCheck.B9 : List Nat := [0, 0, 2, 7, 0, 16, 0, 64, 0, 256, 1023, 0, 4095]
theorem laws_FnCheck.tab9 : rtab .any (opsOf Tryz.f3 9) = laws_FnCheck.T9 := by kernel_rfl
theorem laws_FnCheck.bits9 : waitsOk laws_FnCheck.T9.2 laws_FnCheck.B9 = true := by kernel_rfl
set_option maxHeartbeats 8000000 in
set_option maxRecDepth 100000 in
theorem laws_FnCheck.calls (k : Nat) (A0 : Option Addr) (c0 : Nat) (l0 : List Int) (A1 : Option Addr) (c1 : Nat) (l1 : List Int) (r : Bool) (w : World) (k1 : Kd.C (Kd.int .u8) w A0 l0.length l0) (k2 : l0.length ≤ c0) (k3 : Kd.C (Kd.int .u8) w A1 l1.length l1) (k4 : l1.length ≤ c1) (h : laws_FnCheck.f k l0 l1 = some r) (hr_ : Aside0 (r = true)) :
    Calls Tryz.prog 3 #[.slice A0 l0.length c0, .slice A1 l1.length c1] w fun e w' => e = .returned (.bool r) ∧ Below w.heap.size w w' := by
 have hu26 := Tryz.underlying26; have o7 := zm k1; have o8 := zm k2; clear k1 k2; have o9 := zm k3; have p0 := zm k4; clear k3 k4; have HB := zm (Below.refl w.heap.size w); have H := h
 unfold laws_FnCheck.f at H
 clear h
 by_cases c3 : (l0.length : Int) > 1048576
 ·rw [if_pos c3] at H
  have l9 := decide_eq_true c3
  have m0 : decide (1048576 < l0.length) = true := decide_eq_true (by omega)
  clear c3; obtain rfl := Option.some.inj H
  go_enter Tryz.func3, Tryz.ntmps3
  go_wp2
  go_ret
  exact ⟨ze, zg_1 HB.out⟩
 rw [if_neg c3] at H; have l9 := decide_eq_false c3
 have m0 : decide (1048576 < l0.length) = false := decide_eq_false (by omega)
 clear c3
 by_cases c4 : (l1.length : Int) > 1048576
 ·rw [if_pos c4] at H
  have m1 := decide_eq_true c4
  have m2 : decide (1048576 < l1.length) = true := decide_eq_true (by omega)
  clear c4; obtain rfl := Option.some.inj H
  go_enter Tryz.func3, Tryz.ntmps3
  go_wp2
  go_ret
  exact ⟨ze, zg_1 HB.out⟩
 rw [if_neg c4] at H; have m1 := decide_eq_false c4
 have m2 : decide (1048576 < l1.length) = false := decide_eq_false (by omega)
 clear c4; replace H := Option.bind_eq_some_iff.mp H
 obtain ⟨⟨s, a, z, b⟩, k5, H⟩ := H
 try dsimp only at H
 have A5 := zm k5; clear k5; replace H := Option.bind_eq_some_iff.mp H
 obtain ⟨⟨c6, d3⟩, k6, H⟩ := H
 try dsimp only at H
 have A6 := zm k6; clear k6; replace H := Option.bind_eq_some_iff.mp H
 obtain ⟨T, k7, H⟩ := H
 try dsimp only at H
 have A7 := zm k7; clear k7; replace H := Option.bind_eq_some_iff.mp H
 obtain ⟨⟨O, d4⟩, k8, H⟩ := H
 try dsimp only at H
 have A8 := zm k8; clear k8
 by_cases c9 : d3 = 0
 rotate_left
 ·rw [if_neg c9] at H
  have m3 : (d3 == 0) = false := beq_eq_false_iff_ne.mpr c9
  have m4 : (d3 != 0) = true := bne_iff_ne.mpr c9
  exact absurd hr_.out (by rw [← Option.some.inj H]; decide)
 rw [if_pos c9] at H
 have m3 : (d3 == 0) = true := beq_iff_eq.mpr c9
 have m4 : (d3 != 0) = false := bne_eq_false_iff_eq.mpr c9
 clear c9
 by_cases d6 : (c6.length : Int) = 0
 rotate_left
 ·rw [if_neg d6] at H
  have j2 : ((c6.length : Int) == 0) = false := beq_eq_false_iff_ne.mpr d6
  have j3 : ((c6.length : Int) != 0) = true := bne_iff_ne.mpr d6
  have q1 : ¬ (c6 = []) := fun h_ => d6 (by rw [h_]; rfl)
  exact absurd hr_.out (by rw [← Option.some.inj H]; decide)
 rw [if_pos d6] at H
 have j2 : ((c6.length : Int) == 0) = true := beq_iff_eq.mpr d6
 have j3 : ((c6.length : Int) != 0) = false := bne_eq_false_iff_eq.mpr d6
 clear d6
 by_cases d8 : d4 = 0
 rotate_left
 ·rw [if_neg d8] at H
  have j4 : (d4 == 0) = false := beq_eq_false_iff_ne.mpr d8
  have j5 : (d4 != 0) = true := bne_iff_ne.mpr d8
  exact absurd hr_.out (by rw [← Option.some.inj H]; decide)
 rw [if_pos d8] at H
 have j4 : (d4 == 0) = true := beq_iff_eq.mpr d8
 have j5 : (d4 != 0) = false := bne_eq_false_iff_eq.mpr d8
 clear d8; replace H := Option.bind_eq_some_iff.mp H
 obtain ⟨m5, h7, H⟩ := H
 try dsimp only at H
 have p1 := zm h7; clear h7
 by_cases g7 : m5 = true
 rotate_left
 ·replace g7 := Bool.eq_false_iff.mpr g7
  subst g7
  replace H : (some false) = some r := by rw [if_neg (show ¬ (false = true) by decide)] at H; exact H
  exact absurd hr_.out (by rw [← Option.some.inj H]; decide)
 subst g7
 replace H : ((some (([] : List Int) : List Int)).bind fun b8 => (if b8.length + s.length < 17592186044416 then ((some (b8 ++ s : List Int)).bind fun A => (if 0 ≤ T then (if T < (A.length : Int) then ((some (A.set (T : Int).toNat (wrap64 ((rd A T) + 1)) : List Int)).bind fun a3 => ((impl_WrongRefs.f k a3 a z b).bind fun b0 => ((impl_Leaks.f k a3 a z b).bind fun b1 => (if b0.2 = 0 then ((laws_sameInts.f k b0.1 (([T] : List Int))).bind fun b5 => (if b5 = true then (if b1.2 = 0 then ((laws_sameInts.f k b1.1 (([T] : List Int))).bind fun a9 => (if a9 = true then ((impl_ImageOK.f k a3 a z b).bind fun a7 => (some (!a7))) else (some false))) else (some false)) else (some false))) else (some false))))) else (none)) else (none))) else (none))) = some r := by rw [if_pos rfl] at H; exact H
 obtain ⟨b8, e9⟩ : ∃ y_ : List Int, y_ = (([] : List Int)) := ⟨_, rfl⟩
 replace H : (if b8.length + s.length < 17592186044416 then ((some (b8 ++ s : List Int)).bind fun A => (if 0 ≤ T then (if T < (A.length : Int) then ((some (A.set (T : Int).toNat (wrap64 ((rd A T) + 1)) : List Int)).bind fun a3 => ((impl_WrongRefs.f k a3 a z b).bind fun b0 => ((impl_Leaks.f k a3 a z b).bind fun b1 => (if b0.2 = 0 then ((laws_sameInts.f k b0.1 (([T] : List Int))).bind fun b5 => (if b5 = true then (if b1.2 = 0 then ((laws_sameInts.f k b1.1 (([T] : List Int))).bind fun a9 => (if a9 = true then ((impl_ImageOK.f k a3 a z b).bind fun a7 => (some (!a7))) else (some false))) else (some false)) else (some false))) else (some false))))) else (none)) else (none))) else (none)) = some r := zy H e9
 have d7 := zm e9; clear e9
 by_cases g8 : b8.length + s.length < 17592186044416
 rotate_left
 ·rw [if_neg g8] at H
  exact absurd H (by simp)
 rw [if_pos g8] at H; have f0 := zm g8; clear g8
 obtain ⟨A, f1⟩ : ∃ y_ : List Int, y_ = (b8 ++ s) := ⟨_, rfl⟩
 replace H : (if 0 ≤ T then (if T < (A.length : Int) then ((some (A.set (T : Int).toNat (wrap64 ((rd A T) + 1)) : List Int)).bind fun a3 => ((impl_WrongRefs.f k a3 a z b).bind fun b0 => ((impl_Leaks.f k a3 a z b).bind fun b1 => (if b0.2 = 0 then ((laws_sameInts.f k b0.1 (([T] : List Int))).bind fun b5 => (if b5 = true then (if b1.2 = 0 then ((laws_sameInts.f k b1.1 (([T] : List Int))).bind fun a9 => (if a9 = true then ((impl_ImageOK.f k a3 a z b).bind fun a7 => (some (!a7))) else (some false))) else (some false)) else (some false))) else (some false))))) else (none)) else (none)) = some r := zy H f1
 have f2 := zm f1; clear f1
 by_cases g9 : 0 ≤ T
 rotate_left
 ·rw [if_neg g9] at H
  exact absurd H (by simp)
 rw [if_pos g9] at H; have q2 := decide_eq_true g9; clear g9
 by_cases h0 : T < (A.length : Int)
 rotate_left
 ·rw [if_neg h0] at H
  exact absurd H (by simp)
 rw [if_pos h0] at H; have q3 := decide_eq_true h0; clear h0
 obtain ⟨a3, f4⟩ : ∃ y_ : List Int, y_ = (A.set (T : Int).toNat (wrap64 ((rd A T) + 1))) := ⟨_, rfl⟩
 replace H : ((impl_WrongRefs.f k a3 a z b).bind fun b0 => ((impl_Leaks.f k a3 a z b).bind fun b1 => (if b0.2 = 0 then ((laws_sameInts.f k b0.1 (([T] : List Int))).bind fun b5 => (if b5 = true then (if b1.2 = 0 then ((laws_sameInts.f k b1.1 (([T] : List Int))).bind fun a9 => (if a9 = true then ((impl_ImageOK.f k a3 a z b).bind fun a7 => (some (!a7))) else (some false))) else (some false)) else (some false))) else (some false)))) = some r := zy H f4
 have j6 := zm f4; clear f4; replace H := Option.bind_eq_some_iff.mp H
 obtain ⟨⟨f9, d5⟩, h8, H⟩ := H
 try dsimp only at H
 have p2 := zm h8; clear h8; replace H := Option.bind_eq_some_iff.mp H
 obtain ⟨⟨d9, c7⟩, h9, H⟩ := H
 try dsimp only at H
 have p3 := zm h9; clear h9
 by_cases e0 : d5 = 0
 rotate_left
 ·rw [if_neg e0] at H
  have j7 : (d5 == 0) = false := beq_eq_false_iff_ne.mpr e0
  have j8 : (d5 != 0) = true := bne_iff_ne.mpr e0
  exact absurd hr_.out (by rw [← Option.some.inj H]; decide)
 rw [if_pos e0] at H
 have j7 : (d5 == 0) = true := beq_iff_eq.mpr e0
 have j8 : (d5 != 0) = false := bne_eq_false_iff_eq.mpr e0
 clear e0
 obtain ⟨i0, f5⟩ : ∃ y_ : List Int, y_ = (([T] : List Int)) := ⟨_, rfl⟩
 replace H : ((laws_sameInts.f k f9 i0).bind fun b5 => (if b5 = true then (if c7 = 0 then ((laws_sameInts.f k d9 (([T] : List Int))).bind fun a9 => (if a9 = true then ((impl_ImageOK.f k a3 a z b).bind fun a7 => (some (!a7))) else (some false))) else (some false)) else (some false))) = some r := zy H f5
 have h1 := zm f5; clear f5; replace H := Option.bind_eq_some_iff.mp H
 obtain ⟨b5, i1, H⟩ := H
 try dsimp only at H
 have p4 := zm i1; clear i1
 by_cases h2 : b5 = true
 rotate_left
 ·replace h2 := Bool.eq_false_iff.mpr h2
  subst h2
  replace H : (some false) = some r := by rw [if_neg (show ¬ (false = true) by decide)] at H; exact H
  exact absurd hr_.out (by rw [← Option.some.inj H]; decide)
 subst h2
 replace H : (if c7 = 0 then ((laws_sameInts.f k d9 (([T] : List Int))).bind fun a9 => (if a9 = true then ((impl_ImageOK.f k a3 a z b).bind fun a7 => (some (!a7))) else (some false))) else (some false)) = some r := by rw [if_pos rfl] at H; exact H
 by_cases e1 : c7 = 0
 rotate_left
 ·rw [if_neg e1] at H
  have j9 : (c7 == 0) = false := beq_eq_false_iff_ne.mpr e1
  have k0 : (c7 != 0) = true := bne_iff_ne.mpr e1
  exact absurd hr_.out (by rw [← Option.some.inj H]; decide)
 rw [if_pos e1] at H
 have j9 : (c7 == 0) = true := beq_iff_eq.mpr e1
 have k0 : (c7 != 0) = false := bne_eq_false_iff_eq.mpr e1
 clear e1
 obtain ⟨i2, f6⟩ : ∃ y_ : List Int, y_ = (([T] : List Int)) := ⟨_, rfl⟩
 replace H : ((laws_sameInts.f k d9 i2).bind fun a9 => (if a9 = true then ((impl_ImageOK.f k a3 a z b).bind fun a7 => (some (!a7))) else (some false))) = some r := zy H f6
 have h3 := zm f6; clear f6; replace H := Option.bind_eq_some_iff.mp H
 obtain ⟨a9, i3, H⟩ := H
 try dsimp only at H
 have p5 := zm i3; clear i3
 by_cases h4 : a9 = true
 rotate_left
 ·replace h4 := Bool.eq_false_iff.mpr h4
  subst h4
  replace H : (some false) = some r := by rw [if_neg (show ¬ (false = true) by decide)] at H; exact H
  exact absurd hr_.out (by rw [← Option.some.inj H]; decide)
 subst h4
 replace H : ((impl_ImageOK.f k a3 a z b).bind fun a7 => (some (!a7))) = some r := by rw [if_pos rfl] at H; exact H
 replace H := Option.bind_eq_some_iff.mp H
 obtain ⟨a7, i4, H⟩ := H
 replace H : (some (!a7)) = some r := H
 have p6 := zm i4; clear i4; obtain rfl := Option.some.inj H
 go_enter Tryz.func3, Tryz.ntmps3
 try go_wp2_with (first | ((with_reducible refine gate_callee (f := 4) rfl ?_); refine goesL_ (some 25) rfl rfl Tryz.func4 (by kernel_rfl) rfl #[.slice A0 l0.length c0] rfl zq ?_; (with_reducible refine (spec_ImageOf.calls k _ _ l0 s a z b _ ?side1 ?side2 A5.out).mono ?_); (case side1 => exact zC o7.out); (case side2 => exact o8.out); rintro e t7 ⟨g0, g1, r5, g2, rfl, a5, k9, l2, l3, hb⟩; refine ⟨_, rfl, ?_⟩; have E := zm (Kd.R_lower (Kd.R_mono (ok' := fun k_ => some k_ ≠ (g1 : Value).ownBlock ∧ some k_ ≠ (g2 : Value).ownBlock) a5 (fun _ hk_ => hk_.2)) (below_size (zg_1 HB.out))); have F := zm (Kd.R_lower (Kd.R_mono (ok' := fun k_ => some k_ ≠ (g0 : Value).ownBlock ∧ some k_ ≠ (g2 : Value).ownBlock) k9 (fun _ hk_ => hk_.2)) (below_size (zg_1 HB.out))); have G := zm (Kd.N_lower (Kd.N_mono (ok' := fun k_ => some k_ ≠ (g0 : Value).ownBlock ∧ some k_ ≠ (g1 : Value).ownBlock ∧ some k_ ≠ (g2 : Value).ownBlock) l2 (fun k_ hk_ => ⟨hk_.2.1, hk_.2.2.1, hk_.2.2.2⟩)) (below_size (zg_1 HB.out))); have I := zm (Kd.R_lower (Kd.R_mono (ok' := fun k_ => some k_ ≠ (g0 : Value).ownBlock ∧ some k_ ≠ (g1 : Value).ownBlock) l3 (fun _ hk_ => hk_.2)) (below_size (zg_1 HB.out))); have J := zm (below_step (zg_1 HB.out) hb); have Zf := E; have Zb := F; have Zd := G; have Zc := I; replace HB := J; clear E F G I J; (try clear hb); (try clear hb2); (try clear hk); (try clear hi); (try clear a5); (try clear k9); (try clear l2); (try clear l3)) | ((with_reducible refine gate_dst (N := 5) rfl ?_); (try (refine gate_guard (by rfl) ?_; dsimp only)); refine box_event ?hg (N := 5) ?hd (cs := #[.slice none 0 0, .slice none 0 0, .slice none 0 0, .slice none 0 0]) (t := 26) ?hr ?_; (case hd => rfl); (case hg => rfl); (case hr => first | (go_simp; done) | (go_simp; rfl)); intro u hg p7 hbox hb; have E := zm (Kd.R_below (zg_6 Zf.out) hb); have F := zm (Kd.R_below (zg_6 Zb.out) hb); have G := zm (Kd.N_below (Kd.N_elderB (zg_4 Zd.out) u (Nat.le_of_eq hg.symm)) hb); have I := zm (Kd.R_below (zg_6 Zc.out) hb); have J := zm (below_step (zg_1 HB.out) hb); have L := zm (hbox); have V := zm ((by rw [hg]; exact (below_size (zg_1 HB.out)) : w.heap.size ≤ u)); have Z := zm ((by rw [hg]; exact (below_size (zg_1 HB.out)) : w.heap.size ≤ u)); replace Zf := E; replace Zb := F; replace Zd := G; replace Zc := I; replace HB := J; have Za := L; have Zu := V; have Zj := Z; clear E F G I J L V Z; clear hb hbox hg; obtain ⟨x, y, m6⟩ := Kd.R_slice Zf.out; subst m6; obtain ⟨_, _, _, _, _, _, _, _⟩ := zb4 Za.out; obtain ⟨d, l, m7⟩ := Kd.R_slice Zb.out; subst m7; obtain ⟨B, D, m8⟩ := Kd.N_slice Zd.out; subst m8; obtain ⟨m, q, m9⟩ := Kd.R_slice Zc.out; subst m9) | ((with_reducible refine gate_store (t := 26) (p := 5) rfl ?_); refine store_event (t := 26) (p := 5) (v := ?vo_w34) (w1 := ((((p7.setCell ⟨u, 0, none⟩ (.slice x s.length y)).setCell ⟨u, 1, none⟩ (.slice d a.length l)).setCell ⟨u, 2, none⟩ (.slice B z.length D)).setCell ⟨u, 3, none⟩ (.slice m b.length q))) ?hg ?ho ?hn ?hr ?_; (case ho => rfl); (case hg => rfl); (case hn => rfl); (case hr => first | (go_simp; done) | (go_simp; rfl)); intro e8 hw; have E : Aside0 (Kd.R (Kd.int .i64) 3 e8 w.heap.size (fun k_ => some k_ ≠ (.slice d a.length l : Value).ownBlock ∧ some k_ ≠ (.slice m b.length q : Value).ownBlock) (.slice x s.length y) s) := ⟨(by rw [hw]; exact (Kd.R_mono (zR4 (Kd.R_types Zf.out Za.out (by decide))) (fun _ hk => ⟨hk.1.1, hk.1.2⟩)))⟩; have F : Aside0 (Kd.R (Kd.int .i64) 3 e8 w.heap.size (fun k_ => some k_ ≠ (.slice x s.length y : Value).ownBlock ∧ some k_ ≠ (.slice m b.length q : Value).ownBlock) (.slice d a.length l) a) := ⟨(by rw [hw]; exact (Kd.R_mono (zR4 (Kd.R_types Zb.out Za.out (by decide))) (fun _ hk => ⟨hk.1.1, hk.1.2⟩)))⟩; have G : Aside0 (Kd.N k66 66 e8 w.heap.size (fun k_ => some k_ ≠ (.slice x s.length y : Value).ownBlock ∧ some k_ ≠ (.slice d a.length l : Value).ownBlock ∧ some k_ ≠ (.slice m b.length q : Value).ownBlock ∧ k_ ≠ u) (.slice B z.length D) z) := ⟨(by rw [hw]; exact (Kd.N_mono (zN4 (Kd.N_mono Zd.out (fun k_ hk => (⟨hk, hk.2⟩ : _ ∧ k_ ≠ u)))) (fun _ hk => ⟨hk.1.1.1, ⟨hk.1.1.2.1, ⟨hk.1.1.2.2, hk.1.2⟩⟩⟩)))⟩; have I : Aside0 (Kd.R (Kd.int .i64) 3 e8 w.heap.size (fun k_ => some k_ ≠ (.slice x s.length y : Value).ownBlock ∧ some k_ ≠ (.slice d a.length l : Value).ownBlock) (.slice m b.length q) b) := ⟨(by rw [hw]; exact (Kd.R_mono (zR4 (Kd.R_types Zc.out Za.out (by decide))) (fun _ hk => ⟨hk.1.1, hk.1.2⟩)))⟩; have J : Aside0 (e8.heap[u]? = some (.cells #[.slice x s.length y, .slice d a.length l, .slice B z.length D, .slice m b.length q] 26 (0, 0))) := ⟨(by rw [hw]; exact (by exact zput4 Za.out))⟩; have L : Aside0 (Below w.heap.size w e8) := ⟨(by rw [hw]; exact (zg_2 HB.out Zj.out))⟩; clear hw; replace Zf := E; replace Zb := F; replace Zd := G; replace Zc := I; replace Za := J; replace HB := L; clear E F G I J L; obtain ⟨_, _, _, _, _, _, _, _⟩ := zb4 Za.out) | ((with_reducible refine gate_callee (f := 5) rfl ?_); refine goesL_ (some 28) rfl rfl Tryz.func5 (by kernel_rfl) rfl #[.agg #[.slice x s.length y, .slice d a.length l, .slice B z.length D, .slice m b.length q]] rfl zq ?_; (with_reducible refine (impl_WrongRefs.calls k _ _ s _ _ a _ _ z _ _ b c6 d3 _ ?side1 ?side2 ?side3 ?side4 ?side5 ?side6 ?side7 ?side8 A6.out).mono ?_); (case side1 => exact zC ((Kd.R_reads' Zf.out).2.2)); (case side2 => exact (Kd.R_reads' Zf.out).2.1); (case side3 => exact zC ((Kd.R_reads' Zb.out).2.2)); (case side4 => exact (Kd.R_reads' Zb.out).2.1); (case side5 => exact zC ((Kd.N_reads' Zd.out).2.2)); (case side6 => exact (Kd.N_reads' Zd.out).2.1); (case side7 => exact zC ((Kd.R_reads' Zc.out).2.2)); (case side8 => exact (Kd.R_reads' Zc.out).2.1); rintro e d2 ⟨e2, rfl, a5, hb⟩; refine ⟨_, rfl, ?_⟩; have E := zm (Kd.R_elder' (zg_6 Zf.out) (Kd.R_base a5) hb); have F := zm (Kd.R_elder' (zg_6 Zb.out) (Kd.R_base a5) hb); have G := zm (Kd.N_elder' (zg_4 Zd.out) (Kd.R_base a5) hb); have I := zm (Kd.R_elder' (zg_6 Zc.out) (Kd.R_base a5) hb); have J := zm (Kd.R_lower (Kd.R_new' (Kd.R_new' (Kd.R_new' a5 (Kd.R_lt (zg_6 Zf.out))) (Kd.R_lt (zg_6 Zb.out))) (Kd.R_lt (zg_6 Zc.out))) (below_size (zg_2 HB.out Zj.out))); have L := zm (blk_below (g := u) (o := .cells #[.slice x s.length y, .slice d a.length l, .slice B z.length D, .slice m b.length q] 26 (0, 0)) (zg_3 Za.out) hb); have V := zm (below_step (zg_2 HB.out Zj.out) hb); replace Zf := E; replace Zb := F; replace Zd := G; replace Zc := I; have Zp := J; replace Za := L; replace HB := V; clear E F G I J L V; (try clear hb); (try clear hb2); (try clear hk); (try clear hi); (try clear a5)) | ((with_reducible refine gate_callee (f := 6) rfl ?_); refine goesL_ (some 32) rfl rfl Tryz.func6 (by kernel_rfl) rfl #[.slice A1 l1.length c1, .int .i64 0, .int .i64 24] rfl zq ?_; (with_reducible refine (laws_at.calls _ _ l1 0 24 T _ ?side1 ?side2 A7.out).mono ?_); (case side1 => exact zC (Kd.C_below o9.out HB.out)); (case side2 => exact p0.out); rintro e w' ⟨rfl, ⟨nd, rfl⟩⟩; refine ⟨_, rfl, ?_⟩; (try (rw [drewN_self d2]; generalize hq_ : World.drewN d2 _ = d2; have E : Aside0 (Kd.R (Kd.int .i64) 3 d2 w.heap.size (fun k_ => some k_ ≠ (.slice d a.length l : Value).ownBlock ∧ some k_ ≠ (.slice m b.length q : Value).ownBlock ∧ some k_ ≠ (e2 : Value).ownBlock) (.slice x s.length y) s) := ⟨by rw [← hq_]; exact (by (with_reducible repeat (first | apply Kd.R_alloc | apply Kd.R_drewN | apply Kd.R_drew)); exact Kd.R_mono Zf.out (fun _ hk => ⟨hk.1.1, ⟨hk.1.2, hk.2⟩⟩))⟩; have F : Aside0 (Kd.R (Kd.int .i64) 3 d2 w.heap.size (fun k_ => some k_ ≠ (.slice x s.length y : Value).ownBlock ∧ some k_ ≠ (.slice m b.length q : Value).ownBlock ∧ some k_ ≠ (e2 : Value).ownBlock) (.slice d a.length l) a) := ⟨by rw [← hq_]; exact (by (with_reducible repeat (first | apply Kd.R_alloc | apply Kd.R_drewN | apply Kd.R_drew)); exact Kd.R_mono Zb.out (fun _ hk => ⟨hk.1.1, ⟨hk.1.2, hk.2⟩⟩))⟩; have G : Aside0 (Kd.N k66 66 d2 w.heap.size (fun k_ => some k_ ≠ (.slice x s.length y : Value).ownBlock ∧ some k_ ≠ (.slice d a.length l : Value).ownBlock ∧ some k_ ≠ (.slice m b.length q : Value).ownBlock ∧ some k_ ≠ (e2 : Value).ownBlock ∧ k_ ≠ u) (.slice B z.length D) z) := ⟨by rw [← hq_]; exact (by (with_reducible repeat (first | apply Kd.N_alloc | apply Kd.N_drewN | apply Kd.N_drew)); exact Kd.N_mono Zd.out (fun _ hk => ⟨hk.1.1, ⟨hk.1.2.1, ⟨hk.1.2.2.1, ⟨hk.2, hk.1.2.2.2⟩⟩⟩⟩))⟩; have I : Aside0 (Kd.R (Kd.int .i64) 3 d2 w.heap.size (fun k_ => some k_ ≠ (.slice x s.length y : Value).ownBlock ∧ some k_ ≠ (.slice d a.length l : Value).ownBlock ∧ some k_ ≠ (e2 : Value).ownBlock) (.slice m b.length q) b) := ⟨by rw [← hq_]; exact (by (with_reducible repeat (first | apply Kd.R_alloc | apply Kd.R_drewN | apply Kd.R_drew)); exact Kd.R_mono Zc.out (fun _ hk => ⟨hk.1.1, ⟨hk.1.2, hk.2⟩⟩))⟩; have J : Aside0 (Kd.R (Kd.int .i64) 3 d2 w.heap.size (fun k_ => some k_ ≠ (.slice x s.length y : Value).ownBlock ∧ some k_ ≠ (.slice d a.length l : Value).ownBlock ∧ some k_ ≠ (.slice m b.length q : Value).ownBlock) e2 c6) := ⟨by rw [← hq_]; exact (by (with_reducible repeat (first | apply Kd.R_alloc | apply Kd.R_drewN | apply Kd.R_drew)); exact Kd.R_mono Zp.out (fun _ hk => ⟨hk.1.1.2, ⟨hk.1.2, hk.2⟩⟩))⟩; have L : Aside0 (d2.heap[u]? = some (.cells #[.slice x s.length y, .slice d a.length l, .slice B z.length D, .slice m b.length q] 26 (0, 0))) := ⟨by rw [← hq_]; exact (zg_3 Za.out)⟩; have V : Aside0 (Below w.heap.size w d2) := ⟨by rw [← hq_]; exact (zg_2 HB.out Zj.out)⟩; clear Zf Zb Zd Zc Zp Za HB hq_; have Zf := E; have Zb := F; have Zd := G; have Zc := I; have Zp := J; have Za := L; have HB := V; clear E F G I J L V)); obtain ⟨_, _, _, _, _, _, _, _⟩ := zb4 Za.out) | ((with_reducible refine gate_callee (f := 7) rfl ?_); refine goesL_ (some 35) rfl rfl Tryz.func7 (by kernel_rfl) rfl #[.agg #[.slice x s.length y, .slice d a.length l, .slice B z.length D, .slice m b.length q]] rfl zq ?_; (with_reducible refine (impl_CountRefs.calls k _ _ s _ _ a _ _ z _ _ b O d4 _ ?side1 ?side2 ?side3 ?side4 ?side5 ?side6 ?side7 ?side8 A8.out).mono ?_); (case side1 => exact zC ((Kd.R_reads' Zf.out).2.2)); (case side2 => exact (Kd.R_reads' Zf.out).2.1); (case side3 => exact zC ((Kd.R_reads' Zb.out).2.2)); (case side4 => exact (Kd.R_reads' Zb.out).2.1); (case side5 => exact zC ((Kd.N_reads' Zd.out).2.2)); (case side6 => exact (Kd.N_reads' Zd.out).2.1); (case side7 => exact zC ((Kd.R_reads' Zc.out).2.2)); (case side8 => exact (Kd.R_reads' Zc.out).2.1); rintro e c8 ⟨f7, rfl, a5, hb⟩; refine ⟨_, rfl, ?_⟩; have E := zm (Kd.R_elder' (zg_6 Zf.out) (Kd.R_base a5) hb); have F := zm (Kd.R_elder' (zg_6 Zb.out) (Kd.R_base a5) hb); have G := zm (Kd.N_elder' (zg_4 Zd.out) (Kd.R_base a5) hb); have I := zm (Kd.R_elder' (zg_6 Zc.out) (Kd.R_base a5) hb); have J := zm (Kd.R_elder' (zg_6 Zp.out) (Kd.R_base a5) hb); have L := zm (Kd.R_lower (Kd.R_new' (Kd.R_new' (Kd.R_new' (Kd.R_new' a5 (Kd.R_lt (zg_6 Zf.out))) (Kd.R_lt (zg_6 Zb.out))) (Kd.R_lt (zg_6 Zc.out))) (Kd.R_lt (zg_6 Zp.out))) (below_size (zg_2 HB.out Zj.out))); have V := zm (blk_below (g := u) (o := .cells #[.slice x s.length y, .slice d a.length l, .slice B z.length D, .slice m b.length q] 26 (0, 0)) (zg_3 Za.out) hb); have Z := zm (below_step (zg_2 HB.out Zj.out) hb); replace Zf := E; replace Zb := F; replace Zd := G; replace Zc := I; replace Zp := J; have Zi := L; replace Za := V; replace HB := Z; clear E F G I J L V Z; (try clear hb); (try clear hb2); (try clear hk); (try clear hi); (try clear a5); obtain ⟨r6, r7, n0⟩ := Kd.R_slice Zp.out; subst n0; obtain ⟨_, _, _, _, _, _, _, _⟩ := zb4 Za.out; clear Zp; have n_ := zm (Kd.R_mono (ok' := (fun k_ => some k_ ≠ (.slice d a.length l : Value).ownBlock ∧ some k_ ≠ (.slice m b.length q : Value).ownBlock ∧ some k_ ≠ (f7 : Value).ownBlock)) Zf.out (fun k_ hk => by first | exact ⟨hk.1.1.1, ⟨hk.1.1.2, hk.2⟩⟩ | (simp_all; done))); replace Zf := n_; clear n_; have n_ := zm (Kd.R_mono (ok' := (fun k_ => some k_ ≠ (.slice x s.length y : Value).ownBlock ∧ some k_ ≠ (.slice m b.length q : Value).ownBlock ∧ some k_ ≠ (f7 : Value).ownBlock)) Zb.out (fun k_ hk => by first | exact ⟨hk.1.1.1, ⟨hk.1.1.2, hk.2⟩⟩ | (simp_all; done))); replace Zb := n_; clear n_; have n_ := zm (Kd.N_mono (ok' := (fun k_ => some k_ ≠ (.slice x s.length y : Value).ownBlock ∧ some k_ ≠ (.slice d a.length l : Value).ownBlock ∧ some k_ ≠ (.slice m b.length q : Value).ownBlock ∧ some k_ ≠ (f7 : Value).ownBlock ∧ k_ ≠ u)) Zd.out (fun k_ hk => by first | exact ⟨hk.1.1.1, ⟨hk.1.1.2.1, ⟨hk.1.1.2.2.1, ⟨hk.2, hk.1.1.2.2.2⟩⟩⟩⟩ | (simp_all; done))); replace Zd := n_; clear n_; have n_ := zm (Kd.R_mono (ok' := (fun k_ => some k_ ≠ (.slice x s.length y : Value).ownBlock ∧ some k_ ≠ (.slice d a.length l : Value).ownBlock ∧ some k_ ≠ (f7 : Value).ownBlock)) Zc.out (fun k_ hk => by first | exact ⟨hk.1.1.1, ⟨hk.1.1.2, hk.2⟩⟩ | (simp_all; done))); replace Zc := n_; clear n_; have n_ := zm (Kd.R_mono (ok' := (fun k_ => some k_ ≠ (.slice x s.length y : Value).ownBlock ∧ some k_ ≠ (.slice d a.length l : Value).ownBlock ∧ some k_ ≠ (.slice m b.length q : Value).ownBlock)) Zi.out (fun k_ hk => by first | exact ⟨hk.1.1.1.2, ⟨hk.1.1.2, hk.1.2⟩⟩ | (simp_all; done))); replace Zi := n_; clear n_; obtain ⟨X, Y, n1⟩ := Kd.R_slice Zi.out; subst n1) | (go_at_call 8; (with_reducible refine (laws_sameInts.calls k _ _ O _ _ s true _ ?side1 ?side2 ?side3 ?side4 p1.out).mono ?_); (case side1 => exact zC ((Kd.R_reads' Zi.out).2.2)); (case side2 => exact (Kd.R_reads' Zi.out).2.1); (case side3 => exact zC ((Kd.R_reads' Zf.out).2.2)); (case side4 => exact (Kd.R_reads' Zf.out).2.1); rintro e w' ⟨rfl, ⟨nd, rfl⟩⟩; (try (rw [drewN_self c8]; generalize hq_ : World.drewN c8 _ = c8; have E : Aside0 (Kd.R (Kd.int .i64) 3 c8 w.heap.size (fun k_ => some k_ ≠ (.slice d a.length l : Value).ownBlock ∧ some k_ ≠ (.slice m b.length q : Value).ownBlock ∧ some k_ ≠ (.slice X O.length Y : Value).ownBlock) (.slice x s.length y) s) := ⟨by rw [← hq_]; exact (zg_6 Zf.out)⟩; have F : Aside0 (Kd.R (Kd.int .i64) 3 c8 w.heap.size (fun k_ => some k_ ≠ (.slice x s.length y : Value).ownBlock ∧ some k_ ≠ (.slice m b.length q : Value).ownBlock ∧ some k_ ≠ (.slice X O.length Y : Value).ownBlock) (.slice d a.length l) a) := ⟨by rw [← hq_]; exact (zg_6 Zb.out)⟩; have G : Aside0 (Kd.N k66 66 c8 w.heap.size (fun k_ => some k_ ≠ (.slice x s.length y : Value).ownBlock ∧ some k_ ≠ (.slice d a.length l : Value).ownBlock ∧ some k_ ≠ (.slice m b.length q : Value).ownBlock ∧ some k_ ≠ (.slice X O.length Y : Value).ownBlock ∧ k_ ≠ u) (.slice B z.length D) z) := ⟨by rw [← hq_]; exact (zg_4 Zd.out)⟩; have I : Aside0 (Kd.R (Kd.int .i64) 3 c8 w.heap.size (fun k_ => some k_ ≠ (.slice x s.length y : Value).ownBlock ∧ some k_ ≠ (.slice d a.length l : Value).ownBlock ∧ some k_ ≠ (.slice X O.length Y : Value).ownBlock) (.slice m b.length q) b) := ⟨by rw [← hq_]; exact (zg_6 Zc.out)⟩; have J : Aside0 (Kd.R (Kd.int .i64) 3 c8 w.heap.size (fun k_ => some k_ ≠ (.slice x s.length y : Value).ownBlock ∧ some k_ ≠ (.slice d a.length l : Value).ownBlock ∧ some k_ ≠ (.slice m b.length q : Value).ownBlock) (.slice X O.length Y) O) := ⟨by rw [← hq_]; exact (zg_6 Zi.out)⟩; have L : Aside0 (c8.heap[u]? = some (.cells #[.slice x s.length y, .slice d a.length l, .slice B z.length D, .slice m b.length q] 26 (0, 0))) := ⟨by rw [← hq_]; exact (zg_3 Za.out)⟩; have V : Aside0 (Below w.heap.size w c8) := ⟨by rw [← hq_]; exact (zg_2 HB.out Zj.out)⟩; clear Zf Zb Zd Zc Zi Za HB hq_; have Zf := E; have Zb := F; have Zd := G; have Zc := I; have Zi := J; have Za := L; have HB := V; clear E F G I J L V))))
 have E := zm (Kd.R_drew Zf.out); have F := zm (Kd.R_drew Zb.out); have G := zm (Kd.N_drew Zd.out); have I := zm (Kd.R_drew Zc.out); have J := zm (Kd.R_drew Zi.out); have L := zm (blk_drew Za.out); have V := zm (below_drew1 HB.out); clear Zf; clear Zb; clear Zd; clear Zc; clear Zi; clear Za; clear HB; have Zf := E; have Zb := F; have Zd := G; have Zc := I; have Zi := J; have Za := L; have HB := V; clear E F G I J L V
 refine start_ (n := 13) (S := fun w' => w'.cell? ⟨u, 0, none⟩ = some (.slice x s.length y) ∧ w'.cell? ⟨u, 1, none⟩ = some (.slice d a.length l) ∧ w'.cell? ⟨u, 2, none⟩ = some (.slice B z.length D) ∧ w'.cell? ⟨u, 3, none⟩ = some (.slice m b.length q)) (ds := []) #[ff, ff, ff, ff, ff, ff, ff, ff, ff, ff, ff, ff, ff] (by kernel_rfl) rfl rfl ⟨(blk_cell Za.out 0).trans rfl, (blk_cell Za.out 1).trans rfl, (blk_cell Za.out 2).trans rfl, (blk_cell Za.out 3).trans rfl⟩ (fun hHeld => ?_); refine with_tabW laws_FnCheck.tab9 laws_FnCheck.bits9 (fun HT_ HW_ => ?_)
 generalize c8.drew = t8 at Zf Zb Zd Zc Zi Za HB hHeld ⊢
 refine pure_ (i := 1) (N := some 57) (v := ?_) (a' := ?_) #[ff, tt, ff, ff, ff, ff, ff, ff, ff, ff, ff, ff, ff] rfl rfl (any_of HT_.out (by kernel_rfl)) (fun _ _ _ h => h) (Or.inl ⟨by rfl, ?_⟩) ?_ ?_
 rotate_left
 ·intro w'
  go_simp
  with_reducible rfl
 rotate_left
 ·simp only [Act.put, zs, zz, zt, i64_w, i32_w]
  rfl
 refine pure_ (i := 4) (N := some 60) (v := ?_) (a' := ?_) #[ff, tt, ff, ff, tt, ff, ff, ff, ff, ff, ff, ff, ff] rfl rfl (any_of HT_.out (by kernel_rfl)) (fun _ _ _ h => h) (Or.inl ⟨by rfl, ?_⟩) ?_ ?_
 rotate_left
 ·intro w'
  go_simp
  with_reducible rfl
 rotate_left
 ·simp only [Act.put, zs, zz, zt, i64_w, i32_w]
  rfl
 refine pure_ (i := 6) (N := some 62) (v := ?_) (a' := ?_) #[ff, tt, ff, ff, tt, ff, tt, ff, ff, ff, ff, ff, ff] rfl rfl (any_of HT_.out (by kernel_rfl)) (fun _ _ _ h => h) (Or.inl ⟨by rfl, ?_⟩) ?_ ?_
 rotate_left
 ·intro w'
  go_simp
  with_reducible rfl
 rotate_left
 ·simp only [Act.put, zs, zz, zt, i64_w, i32_w]
  rfl
 refine pure_ (i := 8) (N := some 64) (v := ?_) (a' := ?_) #[ff, tt, ff, ff, tt, ff, tt, ff, tt, ff, ff, ff, ff] rfl rfl (any_of HT_.out (by kernel_rfl)) (fun _ _ _ h => h) (Or.inl ⟨by rfl, ?_⟩) ?_ ?_
 rotate_left
 ·intro w'
  go_simp
  with_reducible rfl
 rotate_left
 ·simp only [Act.put, zs, zz, zt, i64_w, i32_w]
  rfl
 refine take_ (i := 2) (N := some 58) (v := ?_) (a' := ?_) #[ff, tt, tt, ff, tt, ff, tt, ff, tt, ff, ff, ff, ff] rfl rfl (take_ofW HT_.out HW_.out (by kernel_rfl)) (fun _ _ _ h => h) (Or.inl ⟨by rfl, ?_⟩) hHeld ?_ ?_
 rotate_left
 ·rintro w' ⟨s0, s1, s2, s3⟩
  go_simp
  with_reducible rfl
 rotate_left
 ·simp only [Act.put, zs, zz, zt, i64_w, i32_w]
  rfl
 refine take_ (i := 5) (N := some 61) (v := ?_) (a' := ?_) #[ff, tt, tt, ff, tt, tt, tt, ff, tt, ff, ff, ff, ff] rfl rfl (take_ofW HT_.out HW_.out (by kernel_rfl)) (fun _ _ _ h => h) (Or.inl ⟨by rfl, ?_⟩) hHeld ?_ ?_
 rotate_left
 ·rintro w' ⟨s0, s1, s2, s3⟩
  go_simp
  with_reducible rfl
 rotate_left
 ·simp only [Act.put, zs, zz, zt, i64_w, i32_w]
  rfl
 refine take_ (i := 7) (N := some 63) (v := ?_) (a' := ?_) #[ff, tt, tt, ff, tt, tt, tt, tt, tt, ff, ff, ff, ff] rfl rfl (take_ofW HT_.out HW_.out (by kernel_rfl)) (fun _ _ _ h => h) (Or.inl ⟨by rfl, ?_⟩) hHeld ?_ ?_
 rotate_left
 ·rintro w' ⟨s0, s1, s2, s3⟩
  go_simp
  with_reducible rfl
 rotate_left
 ·simp only [Act.put, zs, zz, zt, i64_w, i32_w]
  rfl
 refine take_ (i := 9) (N := some 65) (v := ?_) (a' := ?_) #[ff, tt, tt, ff, tt, tt, tt, tt, tt, tt, ff, ff, ff] rfl rfl (take_ofW HT_.out HW_.out (by kernel_rfl)) (fun _ _ _ h => h) (Or.inl ⟨by rfl, ?_⟩) hHeld ?_ ?_
 rotate_left
 ·rintro w' ⟨s0, s1, s2, s3⟩
  go_simp
  with_reducible rfl
 rotate_left
 ·simp only [Act.put, zs, zz, zt, i64_w, i32_w]
  rfl
 refine join_ (σ := Value × Value × Nat) 1 #[tt, tt, tt, tt, tt, tt, tt, tt, tt, tt, tt, tt, ff] (fun s_ => [(56, s_.1), (59, s_.2.1), (11, .pointer (some ⟨s_.2.2, 0, none⟩)), (66, .agg #[s_.2.1, .slice d a.length l, .slice B z.length D, .slice m b.length q])]) (fun s_ w' => (w'.cell? ⟨u, 0, none⟩ = some (.slice x s.length y) ∧ w'.cell? ⟨u, 1, none⟩ = some (.slice d a.length l) ∧ w'.cell? ⟨u, 2, none⟩ = some (.slice B z.length D) ∧ w'.cell? ⟨u, 3, none⟩ = some (.slice m b.length q)) ∧ (Kd.R (Kd.int .i64) 3 w' w.heap.size (fun k_ => some k_ ≠ (.slice d a.length l : Value).ownBlock ∧ some k_ ≠ (.slice m b.length q : Value).ownBlock ∧ some k_ ≠ (.slice X O.length Y : Value).ownBlock ∧ some k_ ≠ (s_.2.1 : Value).ownBlock) (.slice x s.length y) s) ∧ (Kd.R (Kd.int .i64) 3 w' w.heap.size (fun k_ => some k_ ≠ (.slice x s.length y : Value).ownBlock ∧ some k_ ≠ (.slice m b.length q : Value).ownBlock ∧ some k_ ≠ (.slice X O.length Y : Value).ownBlock ∧ some k_ ≠ (s_.2.1 : Value).ownBlock) (.slice d a.length l) a) ∧ (Kd.N k66 66 w' w.heap.size (fun k_ => some k_ ≠ (.slice x s.length y : Value).ownBlock ∧ some k_ ≠ (.slice d a.length l : Value).ownBlock ∧ some k_ ≠ (.slice m b.length q : Value).ownBlock ∧ some k_ ≠ (.slice X O.length Y : Value).ownBlock ∧ some k_ ≠ (s_.2.1 : Value).ownBlock ∧ k_ ≠ u ∧ k_ ≠ s_.2.2) (.slice B z.length D) z) ∧ (Kd.R (Kd.int .i64) 3 w' w.heap.size (fun k_ => some k_ ≠ (.slice x s.length y : Value).ownBlock ∧ some k_ ≠ (.slice d a.length l : Value).ownBlock ∧ some k_ ≠ (.slice X O.length Y : Value).ownBlock ∧ some k_ ≠ (s_.2.1 : Value).ownBlock) (.slice m b.length q) b) ∧ (Kd.R (Kd.int .i64) 3 w' w.heap.size (fun k_ => some k_ ≠ (.slice x s.length y : Value).ownBlock ∧ some k_ ≠ (.slice d a.length l : Value).ownBlock ∧ some k_ ≠ (.slice m b.length q : Value).ownBlock ∧ some k_ ≠ (s_.2.1 : Value).ownBlock) (.slice X O.length Y) O) ∧ (Kd.R (Kd.int .i64) 3 w' w.heap.size (fun k_ => some k_ ≠ (.slice x s.length y : Value).ownBlock ∧ some k_ ≠ (.slice d a.length l : Value).ownBlock ∧ some k_ ≠ (.slice m b.length q : Value).ownBlock ∧ some k_ ≠ (.slice X O.length Y : Value).ownBlock) s_.2.1 A) ∧ (w'.heap[u]? = some (.cells #[.slice x s.length y, .slice d a.length l, .slice B z.length D, .slice m b.length q] 26 (0, 0))) ∧ (w'.heap[s_.2.2]? = some (.cells #[.slice none 0 0, .slice none 0 0, .slice none 0 0, .slice none 0 0] 26 (0, 0))) ∧ (w.heap.size ≤ s_.2.2) ∧ (w.heap.size ≤ s_.2.2) ∧ (u ≠ s_.2.2) ∧ (s_.2.2 ≠ u) ∧ (Below w.heap.size w w')) ?_ ?_
 rotate_left
 ·intro hCont
  refine two_ (i := 0) (j := 11) (Ni := some 56) (Nj := some 11) #[tt, tt, tt, ff, tt, tt, tt, tt, tt, tt, ff, ff, ff] #[ff, tt, tt, ff, tt, tt, tt, tt, tt, tt, ff, tt, ff] rfl rfl rfl rfl (two_of HT_.out (by kernel_rfl)) (by decide) (by decide) (fun K hK => ?_) (fun K hK => ?_)
  ·skip
   refine Kd.R_lit_step (Kd.int .i64) _ 3 ?hg (N := 56) ?hd (xs := ([] : List Int)) (inner := []) (ok := fun _ => True) (okp := fun _ => True) ?hr ?hp (fun _ hk => hk) trivial (Below.refl _ _) (Nat.le_refl _) (by simp) ?_; (case hd => rfl); (case hg => rfl); (case hr => first | (go_simp; done) | (go_simp; rfl)); (case hp => exact (Reps.none _ _))
   intro d0 p8 b9 hb hg_ hnew_
   clear hg_ hnew_
   (first | rw [← d7.out] at b9 | (simp only [Int.reduceToNat] at b9; rw [← d7.out] at b9))
   have E := zm (Kd.R_elder' (zg_6 Zf.out) (Kd.R_base b9) hb); have F := zm (Kd.R_elder' (zg_6 Zb.out) (Kd.R_base b9) hb); have G := zm (Kd.N_elder' (zg_4 Zd.out) (Kd.R_base b9) hb); have I := zm (Kd.R_elder' (zg_6 Zc.out) (Kd.R_base b9) hb); have J := zm (Kd.R_elder' (zg_6 Zi.out) (Kd.R_base b9) hb); have L := zm (Kd.R_lower (Kd.R_new' (Kd.R_new' (Kd.R_new' (Kd.R_new' b9 (Kd.R_lt (zg_6 Zf.out))) (Kd.R_lt (zg_6 Zb.out))) (Kd.R_lt (zg_6 Zc.out))) (Kd.R_lt (zg_6 Zi.out))) (below_size (zg_2 HB.out Zj.out))); have V := zm (blk_below (g := u) (o := .cells #[.slice x s.length y, .slice d a.length l, .slice B z.length D, .slice m b.length q] 26 (0, 0)) (zg_3 Za.out) hb); have Z := zm (below_step (zg_2 HB.out Zj.out) hb); clear Zf; clear Zb; clear Zd; clear Zc; clear Zi; clear Za; clear HB; have Zf := E; have Zb := F; have Zd := G; have Zc := I; have Zi := J; have Zn := L; have Za := V; have HB := Z; clear E F G I J L V Z; clear hb b9
   refine hK.out _ _ ⟨(blk_cell Za.out 0).trans rfl, (blk_cell Za.out 1).trans rfl, (blk_cell Za.out 2).trans rfl, (blk_cell Za.out 3).trans rfl⟩ (fun hHeld => ?_)
   clear hK K
   refine norm_ (a' := ?_) ?_ ?_
   rotate_left
   ·show Act.put _ (some 56) _ = _
    simp only [Act.put, zs, zz, zt, i64_w, i32_w]
    rfl
   refine two_ (i := 3) (j := 11) (Ni := some 59) (Nj := some 11) #[tt, tt, tt, tt, tt, tt, tt, tt, tt, tt, ff, ff, ff] #[tt, tt, tt, ff, tt, tt, tt, tt, tt, tt, ff, tt, ff] rfl rfl rfl rfl (two_of HT_.out (by kernel_rfl)) (by decide) (by decide) (fun K hK => ?_) (fun K hK => ?_)
   ·skip
    refine Kd.R_append_rows_step (Kd.int .i64) (w0 := w) w.heap.size (by rfl) (.tmp 56) (.tmp 58) 23 3 (.int .i64 0) 8 rfl Tryz.underlying23 info3 rfl (by decide) (by omega) d0 b8 s _ _ _ (fun k_ => some k_ ≠ (.slice x s.length y : Value).ownBlock ∧ some k_ ≠ (.slice d a.length l : Value).ownBlock ∧ some k_ ≠ (.slice m b.length q : Value).ownBlock ∧ some k_ ≠ (.slice X O.length Y : Value).ownBlock) (fun _ => False) rfl rfl ?aO ?aR (fun _ _ h => h) (fun _ h => h.elim) ?aF ?aB ?aS ?aL ?_
    (case aR => exact zC ((Kd.R_reads' Zf.out).2.2))
    (case aB => exact (zg_2 HB.out Zj.out))
    (case aF => exact (fun k_ hk => ⟨Kd.fresh' (Kd.R_lt (zg_6 Zf.out)) k_ hk, Kd.fresh' (Kd.R_lt (zg_6 Zb.out)) k_ hk, Kd.fresh' (Kd.R_lt (zg_6 Zc.out)) k_ hk, Kd.fresh' (Kd.R_lt (zg_6 Zi.out)) k_ hk⟩))
    (case aO => exact (by (with_reducible repeat (first | apply Kd.R_alloc | apply Kd.R_drewN | apply Kd.R_drew)); exact Kd.R_mono Zn.out (fun _ hk => ⟨hk.1.1.1.2, ⟨hk.1.1.2, ⟨hk.1.2, hk.2⟩⟩⟩)))
    (case aS => exact (below_size (zg_2 HB.out Zj.out)))
    (case aL => have := f0.out; omega)
    intro c5 p9 ho hb hg hat
    rw [← f2.out] at ho
    have E := zm (Kd.R_after (ok := (fun k_ => some k_ ≠ (.slice d a.length l : Value).ownBlock ∧ some k_ ≠ (.slice m b.length q : Value).ownBlock ∧ some k_ ≠ (.slice X O.length Y : Value).ownBlock)) (zg_6 Zf.out) hg hat); have F := zm (Kd.R_after (ok := (fun k_ => some k_ ≠ (.slice x s.length y : Value).ownBlock ∧ some k_ ≠ (.slice m b.length q : Value).ownBlock ∧ some k_ ≠ (.slice X O.length Y : Value).ownBlock)) (zg_6 Zb.out) hg hat); have G := zm (Kd.N_afterv (ok := (fun k_ => some k_ ≠ (.slice x s.length y : Value).ownBlock ∧ some k_ ≠ (.slice d a.length l : Value).ownBlock ∧ some k_ ≠ (.slice m b.length q : Value).ownBlock ∧ some k_ ≠ (.slice X O.length Y : Value).ownBlock ∧ k_ ≠ u)) (zg_4 Zd.out) hg hat); have I := zm (Kd.R_after (ok := (fun k_ => some k_ ≠ (.slice x s.length y : Value).ownBlock ∧ some k_ ≠ (.slice d a.length l : Value).ownBlock ∧ some k_ ≠ (.slice X O.length Y : Value).ownBlock)) (zg_6 Zc.out) hg hat); have J := zm (blk_grown (g := u) (o := .cells #[.slice x s.length y, .slice d a.length l, .slice B z.length D, .slice m b.length q] 26 (0, 0)) (zg_3 Za.out) hg (Kd.R_ne Zn.out Za.out (by decide))); have L := zm (Kd.R_after (ok := (fun k_ => some k_ ≠ (.slice x s.length y : Value).ownBlock ∧ some k_ ≠ (.slice d a.length l : Value).ownBlock ∧ some k_ ≠ (.slice m b.length q : Value).ownBlock)) (zg_6 Zi.out) hg hat); have V := zm (hb); have Z := zm (ho); clear Zf; clear Zb; clear Zd; clear Zc; clear Za; clear Zi; clear HB; clear Zn; have Zf := E; have Zb := F; have Zd := G; have Zc := I; have Za := J; have Zi := L; have HB := V; have Zh := Z; clear E F G I J L V Z; clear ho hb hg hat
    obtain ⟨n2, n3, i5⟩ := Kd.R_slice Zh.out
    (first | subst i5 | (injection i5 with f1_ f2_ f3_; have f4_ := f1_.symm; have f5_ := f3_.symm; clear f1_ f2_ f3_; subst f4_; subst f5_))
    refine hK.out _ _ ⟨(blk_cell Za.out 0).trans rfl, (blk_cell Za.out 1).trans rfl, (blk_cell Za.out 2).trans rfl, (blk_cell Za.out 3).trans rfl⟩ (fun hHeld => ?_)
    clear hK K
    refine norm_ (a' := ?_) ?_ ?_
    rotate_left
    ·show Act.put _ (some 59) _ = _
     simp only [Act.put, zs, zz, zt, i64_w, i32_w]
     rfl
    refine pure_ (i := 10) (N := some 66) (v := ?_) (a' := ?_) #[tt, tt, tt, tt, tt, tt, tt, tt, tt, tt, tt, ff, ff] rfl rfl (any_of HT_.out (by kernel_rfl)) (fun _ _ _ h => h) (Or.inl ⟨by rfl, ?_⟩) ?_ ?_
    rotate_left
    ·intro w'
     go_simp
     with_reducible rfl
    rotate_left
    ·simp only [Act.put, zs, zz, zt, i64_w, i32_w]
     rfl
    refine one_ (i := 11) (N := some 11) #[tt, tt, tt, tt, tt, tt, tt, tt, tt, tt, tt, tt, ff] rfl rfl (one_of HT_.out (by kernel_rfl)) (by decide) (fun K hK => ?_)
    refine box_step ?hg (N := 11) ?hd (cs := #[.slice none 0 0, .slice none 0 0, .slice none 0 0, .slice none 0 0]) (t := 26) ?hr ?_; (case hd => rfl); (case hg => rfl); (case hr => first | (go_simp; done) | (go_simp; rfl))
    intro c hg t9 hbox hb
    have E := zm (Kd.R_below (zg_6 Zf.out) hb); have F := zm (Kd.R_below (zg_6 Zb.out) hb); have G := zm (Kd.N_below (Kd.N_elderB (zg_4 Zd.out) c (Nat.le_of_eq hg.symm)) hb); have I := zm (Kd.R_below (zg_6 Zc.out) hb); have J := zm (Kd.R_below (zg_6 Zi.out) hb); have L := zm (Kd.R_below (zg_6 Zh.out) hb); have V := zm (blk_below (g := u) (o := .cells #[.slice x s.length y, .slice d a.length l, .slice B z.length D, .slice m b.length q] 26 (0, 0)) (zg_3 Za.out) hb); have Z := zm (below_step (zg_2 HB.out Zj.out) hb); have a4 := zm (hbox); have b3 := zm ((by rw [hg]; exact (below_size (zg_2 HB.out Zj.out)) : w.heap.size ≤ c)); have b2 := zm ((by rw [hg]; exact (below_size (zg_2 HB.out Zj.out)) : w.heap.size ≤ c)); have b6 := zm ((by rw [hg]; exact Nat.ne_of_lt (blk_lt (g := u) (o := .cells #[.slice x s.length y, .slice d a.length l, .slice B z.length D, .slice m b.length q] 26 (0, 0)) (zg_3 Za.out)) : u ≠ c)); have d1 := zm ((by rw [hg]; exact Nat.ne_of_gt (blk_lt (g := u) (o := .cells #[.slice x s.length y, .slice d a.length l, .slice B z.length D, .slice m b.length q] 26 (0, 0)) (zg_3 Za.out)) : c ≠ u)); clear Zf; clear Zb; clear Zd; clear Zc; clear Zi; clear Zh; clear Za; clear HB; have Zf := E; have Zb := F; have Zd := G; have Zc := I; have Zi := J; have Zh := L; have Za := V; have HB := Z; have Ze := a4; have Zs := b3; have Zl := b2; have Zg := b6; have Zk := d1; clear E F G I J L V Z a4 b3 b2 b6 d1; clear hb hbox hg
    refine hK.out _ _ ⟨(blk_cell Za.out 0).trans rfl, (blk_cell Za.out 1).trans rfl, (blk_cell Za.out 2).trans rfl, (blk_cell Za.out 3).trans rfl⟩ (fun hHeld => ?_)
    clear hK K
    refine norm_ (a' := ?_) ?_ ?_
    rotate_left
    ·show Act.put _ (some 11) _ = _
     simp only [Act.put, zs, zz, zt, i64_w, i32_w]
     rfl
    exact norm_ (by simp only [putAll, Act.put, zs, zz, zt]) (hCont (d0, .slice n2 A.length n3, c) _ ⟨hHeld, (by (with_reducible repeat (first | apply Kd.R_alloc | apply Kd.R_drewN | apply Kd.R_drew)); exact Kd.R_mono Zf.out (fun _ hk => ⟨hk.1.1, ⟨hk.1.2.1, ⟨hk.1.2.2, hk.2⟩⟩⟩)), (by (with_reducible repeat (first | apply Kd.R_alloc | apply Kd.R_drewN | apply Kd.R_drew)); exact Kd.R_mono Zb.out (fun _ hk => ⟨hk.1.1, ⟨hk.1.2.1, ⟨hk.1.2.2, hk.2⟩⟩⟩)), (by (with_reducible repeat (first | apply Kd.N_alloc | apply Kd.N_drewN | apply Kd.N_drew)); exact Kd.N_mono Zd.out (fun _ hk => ⟨hk.1.1.1, ⟨hk.1.1.2.1, ⟨hk.1.1.2.2.1, ⟨hk.1.1.2.2.2.1, ⟨hk.1.2, ⟨hk.1.1.2.2.2.2, hk.2⟩⟩⟩⟩⟩⟩)), (by (with_reducible repeat (first | apply Kd.R_alloc | apply Kd.R_drewN | apply Kd.R_drew)); exact Kd.R_mono Zc.out (fun _ hk => ⟨hk.1.1, ⟨hk.1.2.1, ⟨hk.1.2.2, hk.2⟩⟩⟩)), (by (with_reducible repeat (first | apply Kd.R_alloc | apply Kd.R_drewN | apply Kd.R_drew)); exact Kd.R_mono Zi.out (fun _ hk => ⟨hk.1.1, ⟨hk.1.2.1, ⟨hk.1.2.2, hk.2⟩⟩⟩)), (zg_6 Zh.out), (zg_3 Za.out), (zg_3 Ze.out), Zs.out, Zl.out, Zg.out, Zk.out, (zg_5 HB.out Zj.out Zl.out)⟩)
   ·skip
    refine box_step ?hg (N := 11) ?hd (cs := #[.slice none 0 0, .slice none 0 0, .slice none 0 0, .slice none 0 0]) (t := 26) ?hr ?_; (case hd => rfl); (case hg => rfl); (case hr => first | (go_simp; done) | (go_simp; rfl))
    intro c hg p9 hbox hb
    have E := zm (Kd.R_below (zg_6 Zf.out) hb); have F := zm (Kd.R_below (zg_6 Zb.out) hb); have G := zm (Kd.N_below (Kd.N_elderB (zg_4 Zd.out) c (Nat.le_of_eq hg.symm)) hb); have I := zm (Kd.R_below (zg_6 Zc.out) hb); have J := zm (Kd.R_below (zg_6 Zi.out) hb); have L := zm (Kd.R_below (zg_6 Zn.out) hb); have V := zm (blk_below (g := u) (o := .cells #[.slice x s.length y, .slice d a.length l, .slice B z.length D, .slice m b.length q] 26 (0, 0)) (zg_3 Za.out) hb); have Z := zm (below_step (zg_2 HB.out Zj.out) hb); have a4 := zm (hbox); have b3 := zm ((by rw [hg]; exact (below_size (zg_2 HB.out Zj.out)) : w.heap.size ≤ c)); have b2 := zm ((by rw [hg]; exact (below_size (zg_2 HB.out Zj.out)) : w.heap.size ≤ c)); have b6 := zm ((by rw [hg]; exact Nat.ne_of_lt (blk_lt (g := u) (o := .cells #[.slice x s.length y, .slice d a.length l, .slice B z.length D, .slice m b.length q] 26 (0, 0)) (zg_3 Za.out)) : u ≠ c)); have d1 := zm ((by rw [hg]; exact Nat.ne_of_gt (blk_lt (g := u) (o := .cells #[.slice x s.length y, .slice d a.length l, .slice B z.length D, .slice m b.length q] 26 (0, 0)) (zg_3 Za.out)) : c ≠ u)); clear Zf; clear Zb; clear Zd; clear Zc; clear Zi; clear Zn; clear Za; clear HB; have Zf := E; have Zb := F; have Zd := G; have Zc := I; have Zi := J; have Zn := L; have Za := V; have HB := Z; have Ze := a4; have Zs := b3; have Zl := b2; have Zg := b6; have Zk := d1; clear E F G I J L V Z a4 b3 b2 b6 d1; clear hb hbox hg
    refine hK.out _ _ ⟨(blk_cell Za.out 0).trans rfl, (blk_cell Za.out 1).trans rfl, (blk_cell Za.out 2).trans rfl, (blk_cell Za.out 3).trans rfl⟩ (fun hHeld => ?_)
    clear hK K
    refine norm_ (a' := ?_) ?_ ?_
    rotate_left
    ·show Act.put _ (some 11) _ = _
     simp only [Act.put, zs, zz, zt, i64_w, i32_w]
     rfl
    refine one_ (i := 3) (N := some 59) #[tt, tt, tt, tt, tt, tt, tt, tt, tt, tt, ff, tt, ff] rfl rfl (one_of HT_.out (by kernel_rfl)) (by decide) (fun K hK => ?_)
    refine Kd.R_append_rows_step (Kd.int .i64) (w0 := w) w.heap.size (by rfl) (.tmp 56) (.tmp 58) 23 3 (.int .i64 0) 8 rfl Tryz.underlying23 info3 rfl (by decide) (by omega) d0 b8 s _ _ _ (fun k_ => some k_ ≠ (.slice x s.length y : Value).ownBlock ∧ some k_ ≠ (.slice d a.length l : Value).ownBlock ∧ some k_ ≠ (.slice m b.length q : Value).ownBlock ∧ some k_ ≠ (.slice X O.length Y : Value).ownBlock) (fun _ => False) rfl rfl ?aO ?aR (fun _ _ h => h) (fun _ h => h.elim) ?aF ?aB ?aS ?aL ?_
    (case aR => exact zC ((Kd.R_reads' Zf.out).2.2))
    (case aB => exact (zg_5 HB.out Zj.out Zl.out))
    (case aF => exact (fun k_ hk => ⟨Kd.fresh' (Kd.R_lt (zg_6 Zf.out)) k_ hk, Kd.fresh' (Kd.R_lt (zg_6 Zb.out)) k_ hk, Kd.fresh' (Kd.R_lt (zg_6 Zc.out)) k_ hk, Kd.fresh' (Kd.R_lt (zg_6 Zi.out)) k_ hk⟩))
    (case aO => exact (by (with_reducible repeat (first | apply Kd.R_alloc | apply Kd.R_drewN | apply Kd.R_drew)); exact Kd.R_mono Zn.out (fun _ hk => ⟨hk.1.1.1.2, ⟨hk.1.1.2, ⟨hk.1.2, hk.2⟩⟩⟩)))
    (case aS => exact (below_size (zg_5 HB.out Zj.out Zl.out)))
    (case aL => have := f0.out; omega)
    intro c5 q0 ho hb hg hat
    rw [← f2.out] at ho
    have E := zm (Kd.R_after (ok := (fun k_ => some k_ ≠ (.slice d a.length l : Value).ownBlock ∧ some k_ ≠ (.slice m b.length q : Value).ownBlock ∧ some k_ ≠ (.slice X O.length Y : Value).ownBlock)) (zg_6 Zf.out) hg hat); have F := zm (Kd.R_after (ok := (fun k_ => some k_ ≠ (.slice x s.length y : Value).ownBlock ∧ some k_ ≠ (.slice m b.length q : Value).ownBlock ∧ some k_ ≠ (.slice X O.length Y : Value).ownBlock)) (zg_6 Zb.out) hg hat); have G := zm (Kd.N_afterv (ok := (fun k_ => some k_ ≠ (.slice x s.length y : Value).ownBlock ∧ some k_ ≠ (.slice d a.length l : Value).ownBlock ∧ some k_ ≠ (.slice m b.length q : Value).ownBlock ∧ some k_ ≠ (.slice X O.length Y : Value).ownBlock ∧ k_ ≠ u ∧ k_ ≠ c)) (by (with_reducible repeat (first | apply Kd.N_alloc | apply Kd.N_drewN | apply Kd.N_drew)); exact Kd.N_mono Zd.out (fun _ hk => ⟨⟨hk.1.1.1, ⟨hk.1.1.2.1, ⟨hk.1.1.2.2.1, ⟨hk.1.1.2.2.2.1, ⟨hk.1.1.2.2.2.2, hk.2⟩⟩⟩⟩⟩, hk.1.2⟩)) hg hat); have I := zm (Kd.R_after (ok := (fun k_ => some k_ ≠ (.slice x s.length y : Value).ownBlock ∧ some k_ ≠ (.slice d a.length l : Value).ownBlock ∧ some k_ ≠ (.slice X O.length Y : Value).ownBlock)) (zg_6 Zc.out) hg hat); have J := zm (blk_grown (g := u) (o := .cells #[.slice x s.length y, .slice d a.length l, .slice B z.length D, .slice m b.length q] 26 (0, 0)) (zg_3 Za.out) hg (Kd.R_ne Zn.out Za.out (by decide))); have L := zm (Kd.R_after (ok := (fun k_ => some k_ ≠ (.slice x s.length y : Value).ownBlock ∧ some k_ ≠ (.slice d a.length l : Value).ownBlock ∧ some k_ ≠ (.slice m b.length q : Value).ownBlock)) (zg_6 Zi.out) hg hat); have V := zm (blk_grown (g := c) (o := .cells #[.slice none 0 0, .slice none 0 0, .slice none 0 0, .slice none 0 0] 26 (0, 0)) (zg_3 Ze.out) hg (Kd.R_ne Zn.out Ze.out (by decide))); have Z := zm (hb); have a4 := zm (ho); clear Zf; clear Zb; clear Zd; clear Zc; clear Za; clear Zi; clear Ze; clear HB; clear Zn; have Zf := E; have Zb := F; have Zd := G; have Zc := I; have Za := J; have Zi := L; have Ze := V; have HB := Z; have Zh := a4; clear E F G I J L V Z a4; clear ho hb hg hat
    obtain ⟨g3, g4, e3⟩ := Kd.R_slice Zh.out
    (first | subst e3 | (injection e3 with f1_ f2_ f3_; have f4_ := f1_.symm; have f5_ := f3_.symm; clear f1_ f2_ f3_; subst f4_; subst f5_))
    refine hK.out _ _ ⟨(blk_cell Za.out 0).trans rfl, (blk_cell Za.out 1).trans rfl, (blk_cell Za.out 2).trans rfl, (blk_cell Za.out 3).trans rfl⟩ (fun hHeld => ?_)
    clear hK K
    refine norm_ (a' := ?_) ?_ ?_
    rotate_left
    ·show Act.put _ (some 59) _ = _
     simp only [Act.put, zs, zz, zt, i64_w, i32_w]
     rfl
    refine pure_ (i := 10) (N := some 66) (v := ?_) (a' := ?_) #[tt, tt, tt, tt, tt, tt, tt, tt, tt, tt, tt, tt, ff] rfl rfl (any_of HT_.out (by kernel_rfl)) (fun _ _ _ h => h) (Or.inl ⟨by rfl, ?_⟩) ?_ ?_
    rotate_left
    ·intro w'
     go_simp
     with_reducible rfl
    rotate_left
    ·simp only [Act.put, zs, zz, zt, i64_w, i32_w]
     rfl
    exact norm_ (by simp only [putAll, Act.put, zs, zz, zt]) (hCont (d0, .slice g3 A.length g4, c) _ ⟨hHeld, (by (with_reducible repeat (first | apply Kd.R_alloc | apply Kd.R_drewN | apply Kd.R_drew)); exact Kd.R_mono Zf.out (fun _ hk => ⟨hk.1.1, ⟨hk.1.2.1, ⟨hk.1.2.2, hk.2⟩⟩⟩)), (by (with_reducible repeat (first | apply Kd.R_alloc | apply Kd.R_drewN | apply Kd.R_drew)); exact Kd.R_mono Zb.out (fun _ hk => ⟨hk.1.1, ⟨hk.1.2.1, ⟨hk.1.2.2, hk.2⟩⟩⟩)), (by (with_reducible repeat (first | apply Kd.N_alloc | apply Kd.N_drewN | apply Kd.N_drew)); exact Kd.N_mono Zd.out (fun _ hk => ⟨hk.1.1, ⟨hk.1.2.1, ⟨hk.1.2.2.1, ⟨hk.1.2.2.2.1, ⟨hk.2, ⟨hk.1.2.2.2.2.1, hk.1.2.2.2.2.2⟩⟩⟩⟩⟩⟩)), (by (with_reducible repeat (first | apply Kd.R_alloc | apply Kd.R_drewN | apply Kd.R_drew)); exact Kd.R_mono Zc.out (fun _ hk => ⟨hk.1.1, ⟨hk.1.2.1, ⟨hk.1.2.2, hk.2⟩⟩⟩)), (by (with_reducible repeat (first | apply Kd.R_alloc | apply Kd.R_drewN | apply Kd.R_drew)); exact Kd.R_mono Zi.out (fun _ hk => ⟨hk.1.1, ⟨hk.1.2.1, ⟨hk.1.2.2, hk.2⟩⟩⟩)), (zg_6 Zh.out), (zg_3 Za.out), (zg_3 Ze.out), Zs.out, Zl.out, Zg.out, Zk.out, (zg_5 HB.out Zj.out Zl.out)⟩)
  ·skip
   refine box_step ?hg (N := 11) ?hd (cs := #[.slice none 0 0, .slice none 0 0, .slice none 0 0, .slice none 0 0]) (t := 26) ?hr ?_; (case hd => rfl); (case hg => rfl); (case hr => first | (go_simp; done) | (go_simp; rfl))
   intro c hg p8 hbox hb
   have E := zm (Kd.R_below (zg_6 Zf.out) hb); have F := zm (Kd.R_below (zg_6 Zb.out) hb); have G := zm (Kd.N_below (Kd.N_elderB (zg_4 Zd.out) c (Nat.le_of_eq hg.symm)) hb); have I := zm (Kd.R_below (zg_6 Zc.out) hb); have J := zm (Kd.R_below (zg_6 Zi.out) hb); have L := zm (blk_below (g := u) (o := .cells #[.slice x s.length y, .slice d a.length l, .slice B z.length D, .slice m b.length q] 26 (0, 0)) (zg_3 Za.out) hb); have V := zm (below_step (zg_2 HB.out Zj.out) hb); have Z := zm (hbox); have a4 := zm ((by rw [hg]; exact (below_size (zg_2 HB.out Zj.out)) : w.heap.size ≤ c)); have b3 := zm ((by rw [hg]; exact (below_size (zg_2 HB.out Zj.out)) : w.heap.size ≤ c)); have b2 := zm ((by rw [hg]; exact Nat.ne_of_lt (blk_lt (g := u) (o := .cells #[.slice x s.length y, .slice d a.length l, .slice B z.length D, .slice m b.length q] 26 (0, 0)) (zg_3 Za.out)) : u ≠ c)); have b6 := zm ((by rw [hg]; exact Nat.ne_of_gt (blk_lt (g := u) (o := .cells #[.slice x s.length y, .slice d a.length l, .slice B z.length D, .slice m b.length q] 26 (0, 0)) (zg_3 Za.out)) : c ≠ u)); clear Zf; clear Zb; clear Zd; clear Zc; clear Zi; clear Za; clear HB; have Zf := E; have Zb := F; have Zd := G; have Zc := I; have Zi := J; have Za := L; have HB := V; have Ze := Z; have Zs := a4; have Zl := b3; have Zg := b2; have Zk := b6; clear E F G I J L V Z a4 b3 b2 b6; clear hb hbox hg
   refine hK.out _ _ ⟨(blk_cell Za.out 0).trans rfl, (blk_cell Za.out 1).trans rfl, (blk_cell Za.out 2).trans rfl, (blk_cell Za.out 3).trans rfl⟩ (fun hHeld => ?_)
   clear hK K
   refine norm_ (a' := ?_) ?_ ?_
   rotate_left
   ·show Act.put _ (some 11) _ = _
    simp only [Act.put, zs, zz, zt, i64_w, i32_w]
    rfl
   refine one_ (i := 0) (N := some 56) #[tt, tt, tt, ff, tt, tt, tt, tt, tt, tt, ff, tt, ff] rfl rfl (one_of HT_.out (by kernel_rfl)) (by decide) (fun K hK => ?_)
   refine Kd.R_lit_step (Kd.int .i64) _ 3 ?hg (N := 56) ?hd (xs := ([] : List Int)) (inner := []) (ok := fun _ => True) (okp := fun _ => True) ?hr ?hp (fun _ hk => hk) trivial (Below.refl _ _) (Nat.le_refl _) (by simp) ?_; (case hd => rfl); (case hg => rfl); (case hr => first | (go_simp; done) | (go_simp; rfl)); (case hp => exact (Reps.none _ _))
   intro d0 u0 c2 hb hg_ hnew_
   clear hg_ hnew_
   (first | rw [← d7.out] at c2 | (simp only [Int.reduceToNat] at c2; rw [← d7.out] at c2))
   have E := zm (Kd.R_elder' (zg_6 Zf.out) (Kd.R_base c2) hb); have F := zm (Kd.R_elder' (zg_6 Zb.out) (Kd.R_base c2) hb); have G := zm (Kd.N_elder' (zg_4 Zd.out) (Kd.R_base c2) hb); have I := zm (Kd.R_elder' (zg_6 Zc.out) (Kd.R_base c2) hb); have J := zm (Kd.R_elder' (zg_6 Zi.out) (Kd.R_base c2) hb); have L := zm (Kd.R_lower (Kd.R_new' (Kd.R_new' (Kd.R_new' (Kd.R_new' c2 (Kd.R_lt (zg_6 Zf.out))) (Kd.R_lt (zg_6 Zb.out))) (Kd.R_lt (zg_6 Zc.out))) (Kd.R_lt (zg_6 Zi.out))) (below_size (zg_5 HB.out Zj.out Zl.out))); have V := zm (blk_below (g := u) (o := .cells #[.slice x s.length y, .slice d a.length l, .slice B z.length D, .slice m b.length q] 26 (0, 0)) (zg_3 Za.out) hb); have Z := zm (blk_below (g := c) (o := .cells #[.slice none 0 0, .slice none 0 0, .slice none 0 0, .slice none 0 0] 26 (0, 0)) (zg_3 Ze.out) hb); have a4 := zm (below_step (zg_5 HB.out Zj.out Zl.out) hb); clear Zf; clear Zb; clear Zd; clear Zc; clear Zi; clear Za; clear Ze; clear HB; have Zf := E; have Zb := F; have Zd := G; have Zc := I; have Zi := J; have Zn := L; have Za := V; have Ze := Z; have HB := a4; clear E F G I J L V Z a4; clear hb c2
   refine hK.out _ _ ⟨(blk_cell Za.out 0).trans rfl, (blk_cell Za.out 1).trans rfl, (blk_cell Za.out 2).trans rfl, (blk_cell Za.out 3).trans rfl⟩ (fun hHeld => ?_)
   clear hK K
   refine norm_ (a' := ?_) ?_ ?_
   rotate_left
   ·show Act.put _ (some 56) _ = _
    simp only [Act.put, zs, zz, zt, i64_w, i32_w]
    rfl
   refine one_ (i := 3) (N := some 59) #[tt, tt, tt, tt, tt, tt, tt, tt, tt, tt, ff, tt, ff] rfl rfl (one_of HT_.out (by kernel_rfl)) (by decide) (fun K hK => ?_)
   refine Kd.R_append_rows_step (Kd.int .i64) (w0 := w) w.heap.size (by rfl) (.tmp 56) (.tmp 58) 23 3 (.int .i64 0) 8 rfl Tryz.underlying23 info3 rfl (by decide) (by omega) d0 b8 s _ _ _ (fun k_ => some k_ ≠ (.slice x s.length y : Value).ownBlock ∧ some k_ ≠ (.slice d a.length l : Value).ownBlock ∧ some k_ ≠ (.slice m b.length q : Value).ownBlock ∧ some k_ ≠ (.slice X O.length Y : Value).ownBlock) (fun _ => False) rfl rfl ?aO ?aR (fun _ _ h => h) (fun _ h => h.elim) ?aF ?aB ?aS ?aL ?_
   (case aR => exact zC ((Kd.R_reads' Zf.out).2.2))
   (case aB => exact (zg_5 HB.out Zj.out Zl.out))
   (case aF => exact (fun k_ hk => ⟨Kd.fresh' (Kd.R_lt (zg_6 Zf.out)) k_ hk, Kd.fresh' (Kd.R_lt (zg_6 Zb.out)) k_ hk, Kd.fresh' (Kd.R_lt (zg_6 Zc.out)) k_ hk, Kd.fresh' (Kd.R_lt (zg_6 Zi.out)) k_ hk⟩))
   (case aO => exact (by (with_reducible repeat (first | apply Kd.R_alloc | apply Kd.R_drewN | apply Kd.R_drew)); exact Kd.R_mono Zn.out (fun _ hk => ⟨hk.1.1.1.2, ⟨hk.1.1.2, ⟨hk.1.2, hk.2⟩⟩⟩)))
   (case aS => exact (below_size (zg_5 HB.out Zj.out Zl.out)))
   (case aL => have := f0.out; omega)
   intro c5 q0 ho hb hg hat
   rw [← f2.out] at ho
   have E := zm (Kd.R_after (ok := (fun k_ => some k_ ≠ (.slice d a.length l : Value).ownBlock ∧ some k_ ≠ (.slice m b.length q : Value).ownBlock ∧ some k_ ≠ (.slice X O.length Y : Value).ownBlock)) (zg_6 Zf.out) hg hat); have F := zm (Kd.R_after (ok := (fun k_ => some k_ ≠ (.slice x s.length y : Value).ownBlock ∧ some k_ ≠ (.slice m b.length q : Value).ownBlock ∧ some k_ ≠ (.slice X O.length Y : Value).ownBlock)) (zg_6 Zb.out) hg hat); have G := zm (Kd.N_afterv (ok := (fun k_ => some k_ ≠ (.slice x s.length y : Value).ownBlock ∧ some k_ ≠ (.slice d a.length l : Value).ownBlock ∧ some k_ ≠ (.slice m b.length q : Value).ownBlock ∧ some k_ ≠ (.slice X O.length Y : Value).ownBlock ∧ k_ ≠ u ∧ k_ ≠ c)) (by (with_reducible repeat (first | apply Kd.N_alloc | apply Kd.N_drewN | apply Kd.N_drew)); exact Kd.N_mono Zd.out (fun _ hk => ⟨⟨hk.1.1.1, ⟨hk.1.1.2.1, ⟨hk.1.1.2.2.1, ⟨hk.1.1.2.2.2.1, ⟨hk.1.1.2.2.2.2, hk.1.2⟩⟩⟩⟩⟩, hk.2⟩)) hg hat); have I := zm (Kd.R_after (ok := (fun k_ => some k_ ≠ (.slice x s.length y : Value).ownBlock ∧ some k_ ≠ (.slice d a.length l : Value).ownBlock ∧ some k_ ≠ (.slice X O.length Y : Value).ownBlock)) (zg_6 Zc.out) hg hat); have J := zm (blk_grown (g := u) (o := .cells #[.slice x s.length y, .slice d a.length l, .slice B z.length D, .slice m b.length q] 26 (0, 0)) (zg_3 Za.out) hg (Kd.R_ne Zn.out Za.out (by decide))); have L := zm (Kd.R_after (ok := (fun k_ => some k_ ≠ (.slice x s.length y : Value).ownBlock ∧ some k_ ≠ (.slice d a.length l : Value).ownBlock ∧ some k_ ≠ (.slice m b.length q : Value).ownBlock)) (zg_6 Zi.out) hg hat); have V := zm (blk_grown (g := c) (o := .cells #[.slice none 0 0, .slice none 0 0, .slice none 0 0, .slice none 0 0] 26 (0, 0)) (zg_3 Ze.out) hg (Kd.R_ne Zn.out Ze.out (by decide))); have Z := zm (hb); have a4 := zm (ho); clear Zf; clear Zb; clear Zd; clear Zc; clear Za; clear Zi; clear Ze; clear HB; clear Zn; have Zf := E; have Zb := F; have Zd := G; have Zc := I; have Za := J; have Zi := L; have Ze := V; have HB := Z; have Zh := a4; clear E F G I J L V Z a4; clear ho hb hg hat
   obtain ⟨g3, g4, e3⟩ := Kd.R_slice Zh.out
   (first | subst e3 | (injection e3 with f1_ f2_ f3_; have f4_ := f1_.symm; have f5_ := f3_.symm; clear f1_ f2_ f3_; subst f4_; subst f5_))
   refine hK.out _ _ ⟨(blk_cell Za.out 0).trans rfl, (blk_cell Za.out 1).trans rfl, (blk_cell Za.out 2).trans rfl, (blk_cell Za.out 3).trans rfl⟩ (fun hHeld => ?_)
   clear hK K
   refine norm_ (a' := ?_) ?_ ?_
   rotate_left
   ·show Act.put _ (some 59) _ = _
    simp only [Act.put, zs, zz, zt, i64_w, i32_w]
    rfl
   refine pure_ (i := 10) (N := some 66) (v := ?_) (a' := ?_) #[tt, tt, tt, tt, tt, tt, tt, tt, tt, tt, tt, tt, ff] rfl rfl (any_of HT_.out (by kernel_rfl)) (fun _ _ _ h => h) (Or.inl ⟨by rfl, ?_⟩) ?_ ?_
   rotate_left
   ·intro w'
    go_simp
    with_reducible rfl
   rotate_left
   ·simp only [Act.put, zs, zz, zt, i64_w, i32_w]
    rfl
   exact norm_ (by simp only [putAll, Act.put, zs, zz, zt]) (hCont (d0, .slice g3 A.length g4, c) _ ⟨hHeld, (by (with_reducible repeat (first | apply Kd.R_alloc | apply Kd.R_drewN | apply Kd.R_drew)); exact Kd.R_mono Zf.out (fun _ hk => ⟨hk.1.1, ⟨hk.1.2.1, ⟨hk.1.2.2, hk.2⟩⟩⟩)), (by (with_reducible repeat (first | apply Kd.R_alloc | apply Kd.R_drewN | apply Kd.R_drew)); exact Kd.R_mono Zb.out (fun _ hk => ⟨hk.1.1, ⟨hk.1.2.1, ⟨hk.1.2.2, hk.2⟩⟩⟩)), (by (with_reducible repeat (first | apply Kd.N_alloc | apply Kd.N_drewN | apply Kd.N_drew)); exact Kd.N_mono Zd.out (fun _ hk => ⟨hk.1.1, ⟨hk.1.2.1, ⟨hk.1.2.2.1, ⟨hk.1.2.2.2.1, ⟨hk.2, ⟨hk.1.2.2.2.2.1, hk.1.2.2.2.2.2⟩⟩⟩⟩⟩⟩)), (by (with_reducible repeat (first | apply Kd.R_alloc | apply Kd.R_drewN | apply Kd.R_drew)); exact Kd.R_mono Zc.out (fun _ hk => ⟨hk.1.1, ⟨hk.1.2.1, ⟨hk.1.2.2, hk.2⟩⟩⟩)), (by (with_reducible repeat (first | apply Kd.R_alloc | apply Kd.R_drewN | apply Kd.R_drew)); exact Kd.R_mono Zi.out (fun _ hk => ⟨hk.1.1, ⟨hk.1.2.1, ⟨hk.1.2.2, hk.2⟩⟩⟩)), (zg_6 Zh.out), (zg_3 Za.out), (zg_3 Ze.out), Zs.out, Zl.out, Zg.out, Zk.out, (zg_5 HB.out Zj.out Zl.out)⟩)
 rintro ⟨d0, c5, c⟩ a6 ⟨hS_, h0_, h1_, h2_, h3_, h4_, h5_, h6_, h7_, h8_, h9_, h10_, h11_, h12_⟩
 have E : Aside0 (Kd.R (Kd.int .i64) 3 a6 w.heap.size (fun k_ => some k_ ≠ (.slice d a.length l : Value).ownBlock ∧ some k_ ≠ (.slice m b.length q : Value).ownBlock ∧ some k_ ≠ (.slice X O.length Y : Value).ownBlock ∧ some k_ ≠ (c5 : Value).ownBlock) (.slice x s.length y) s) := ⟨h0_⟩
 have F : Aside0 (Kd.R (Kd.int .i64) 3 a6 w.heap.size (fun k_ => some k_ ≠ (.slice x s.length y : Value).ownBlock ∧ some k_ ≠ (.slice m b.length q : Value).ownBlock ∧ some k_ ≠ (.slice X O.length Y : Value).ownBlock ∧ some k_ ≠ (c5 : Value).ownBlock) (.slice d a.length l) a) := ⟨h1_⟩
 have G : Aside0 (Kd.N k66 66 a6 w.heap.size (fun k_ => some k_ ≠ (.slice x s.length y : Value).ownBlock ∧ some k_ ≠ (.slice d a.length l : Value).ownBlock ∧ some k_ ≠ (.slice m b.length q : Value).ownBlock ∧ some k_ ≠ (.slice X O.length Y : Value).ownBlock ∧ some k_ ≠ (c5 : Value).ownBlock ∧ k_ ≠ u ∧ k_ ≠ c) (.slice B z.length D) z) := ⟨h2_⟩
 have I : Aside0 (Kd.R (Kd.int .i64) 3 a6 w.heap.size (fun k_ => some k_ ≠ (.slice x s.length y : Value).ownBlock ∧ some k_ ≠ (.slice d a.length l : Value).ownBlock ∧ some k_ ≠ (.slice X O.length Y : Value).ownBlock ∧ some k_ ≠ (c5 : Value).ownBlock) (.slice m b.length q) b) := ⟨h3_⟩
 have J : Aside0 (Kd.R (Kd.int .i64) 3 a6 w.heap.size (fun k_ => some k_ ≠ (.slice x s.length y : Value).ownBlock ∧ some k_ ≠ (.slice d a.length l : Value).ownBlock ∧ some k_ ≠ (.slice m b.length q : Value).ownBlock ∧ some k_ ≠ (c5 : Value).ownBlock) (.slice X O.length Y) O) := ⟨h4_⟩
 have L : Aside0 (Kd.R (Kd.int .i64) 3 a6 w.heap.size (fun k_ => some k_ ≠ (.slice x s.length y : Value).ownBlock ∧ some k_ ≠ (.slice d a.length l : Value).ownBlock ∧ some k_ ≠ (.slice m b.length q : Value).ownBlock ∧ some k_ ≠ (.slice X O.length Y : Value).ownBlock) c5 A) := ⟨h5_⟩
 have V : Aside0 (a6.heap[u]? = some (.cells #[.slice x s.length y, .slice d a.length l, .slice B z.length D, .slice m b.length q] 26 (0, 0))) := ⟨h6_⟩
 have Z : Aside0 (a6.heap[c]? = some (.cells #[.slice none 0 0, .slice none 0 0, .slice none 0 0, .slice none 0 0] 26 (0, 0))) := ⟨h7_⟩
 have a4 : Aside0 (w.heap.size ≤ c) := ⟨h8_⟩
 have b3 : Aside0 (w.heap.size ≤ c) := ⟨h9_⟩
 have b2 : Aside0 (u ≠ c) := ⟨h10_⟩
 have b6 : Aside0 (c ≠ u) := ⟨h11_⟩
 have d1 : Aside0 (Below w.heap.size w a6) := ⟨h12_⟩
 clear Zf; clear Zb; clear Zd; clear Zc; clear Zi; clear Za; clear HB; clear h0_ h1_ h2_ h3_ h4_ h5_ h6_ h7_ h8_ h9_ h10_ h11_ h12_; have Zf := E; have Zb := F; have Zd := G; have Zc := I; have Zi := J; have Zh := L; have Za := V; have Ze := Z; have Zs := a4; have Zl := b3; have Zg := b2; have Zk := b6; have HB := d1; clear E F G I J L V Z a4 b3 b2 b6 d1
 have hHeld : a6.cell? ⟨u, 0, none⟩ = some (.slice x s.length y) ∧ a6.cell? ⟨u, 1, none⟩ = some (.slice d a.length l) ∧ a6.cell? ⟨u, 2, none⟩ = some (.slice B z.length D) ∧ a6.cell? ⟨u, 3, none⟩ = some (.slice m b.length q) := hS_
 obtain ⟨a8, U, i6⟩ := Kd.R_slice Zh.out
 (first | subst i6 | (injection i6 with f1_ f2_ f3_; have f4_ := f1_.symm; have f5_ := f3_.symm; clear f1_ f2_ f3_; subst f4_; subst f5_))
 refine norm_ (a' := ?_) ?_ ?_
 rotate_left
 ·simp only [putAll, Act.put, zs, zz, zt]
  rfl
 refine one_ (i := 12) (N := none) #[tt, tt, tt, tt, tt, tt, tt, tt, tt, tt, tt, tt, tt] rfl rfl (one_of HT_.out (by kernel_rfl)) (by decide) (fun K hK => ?_)
 have r8 : a6.cell? ⟨c, 0, none⟩ = some (.slice none 0 0) := (blk_cell Ze.out 0).trans rfl
 have q4 := blk_frozen Ze.out 0; have n9 := Zg.out; have o0 := Zk.out
 have r9 : a6.cell? ⟨c, 1, none⟩ = some (.slice none 0 0) := (blk_cell Ze.out 1).trans rfl
 have q5 := blk_frozen Ze.out 1; have o1 := Zg.out; have o2 := Zk.out
 have s4 : a6.cell? ⟨c, 2, none⟩ = some (.slice none 0 0) := (blk_cell Ze.out 2).trans rfl
 have q6 := blk_frozen Ze.out 2; have o3 := Zg.out; have o4 := Zk.out
 have s5 : a6.cell? ⟨c, 3, none⟩ = some (.slice none 0 0) := (blk_cell Ze.out 3).trans rfl
 have q7 := blk_frozen Ze.out 3; have o5 := Zg.out; have o6 := Zk.out
 refine skip_ (w1 := ?_) (by rfl) rfl ?_ ?_
 rotate_left
 ·go_simp
  rfl
 refine hK.out _ _ ⟨((cell_far (p := ⟨c, _, none⟩) Zg.out _).trans (((cell_far (p := ⟨c, _, none⟩) Zg.out _).trans (((cell_far (p := ⟨c, _, none⟩) Zg.out _).trans (((cell_far (p := ⟨c, _, none⟩) Zg.out _).trans (hHeld.1)))))))), ((cell_far (p := ⟨c, _, none⟩) Zg.out _).trans (((cell_far (p := ⟨c, _, none⟩) Zg.out _).trans (((cell_far (p := ⟨c, _, none⟩) Zg.out _).trans (((cell_far (p := ⟨c, _, none⟩) Zg.out _).trans (hHeld.2.1)))))))), ((cell_far (p := ⟨c, _, none⟩) Zg.out _).trans (((cell_far (p := ⟨c, _, none⟩) Zg.out _).trans (((cell_far (p := ⟨c, _, none⟩) Zg.out _).trans (((cell_far (p := ⟨c, _, none⟩) Zg.out _).trans (hHeld.2.2.1)))))))), ((cell_far (p := ⟨c, _, none⟩) Zg.out _).trans (((cell_far (p := ⟨c, _, none⟩) Zg.out _).trans (((cell_far (p := ⟨c, _, none⟩) Zg.out _).trans (((cell_far (p := ⟨c, _, none⟩) Zg.out _).trans (hHeld.2.2.2))))))))⟩ (fun hHeld => ?_)
 clear hK K
 refine done_ (done_of HT_.out (by kernel_rfl)) ?_
 have E : Aside0 (Kd.R (Kd.int .i64) 3 ((((a6.setCell ⟨c, 0, none⟩ (.slice a8 A.length U)).setCell ⟨c, 1, none⟩ (.slice d a.length l)).setCell ⟨c, 2, none⟩ (.slice B z.length D)).setCell ⟨c, 3, none⟩ (.slice m b.length q)) w.heap.size (fun k_ => some k_ ≠ (.slice d a.length l : Value).ownBlock ∧ some k_ ≠ (.slice m b.length q : Value).ownBlock ∧ some k_ ≠ (.slice X O.length Y : Value).ownBlock ∧ some k_ ≠ (.slice a8 A.length U : Value).ownBlock) (.slice x s.length y) s) := ⟨Kd.R_mono (zR4 (Kd.R_types Zf.out Ze.out (by decide))) (fun _ hk => ⟨hk.1.1, ⟨hk.1.2.1, ⟨hk.1.2.2.1, hk.1.2.2.2⟩⟩⟩)⟩
 have F : Aside0 (Kd.R (Kd.int .i64) 3 ((((a6.setCell ⟨c, 0, none⟩ (.slice a8 A.length U)).setCell ⟨c, 1, none⟩ (.slice d a.length l)).setCell ⟨c, 2, none⟩ (.slice B z.length D)).setCell ⟨c, 3, none⟩ (.slice m b.length q)) w.heap.size (fun k_ => some k_ ≠ (.slice x s.length y : Value).ownBlock ∧ some k_ ≠ (.slice m b.length q : Value).ownBlock ∧ some k_ ≠ (.slice X O.length Y : Value).ownBlock ∧ some k_ ≠ (.slice a8 A.length U : Value).ownBlock) (.slice d a.length l) a) := ⟨Kd.R_mono (zR4 (Kd.R_types Zb.out Ze.out (by decide))) (fun _ hk => ⟨hk.1.1, ⟨hk.1.2.1, ⟨hk.1.2.2.1, hk.1.2.2.2⟩⟩⟩)⟩
 have G : Aside0 (Kd.N k66 66 ((((a6.setCell ⟨c, 0, none⟩ (.slice a8 A.length U)).setCell ⟨c, 1, none⟩ (.slice d a.length l)).setCell ⟨c, 2, none⟩ (.slice B z.length D)).setCell ⟨c, 3, none⟩ (.slice m b.length q)) w.heap.size (fun k_ => some k_ ≠ (.slice x s.length y : Value).ownBlock ∧ some k_ ≠ (.slice d a.length l : Value).ownBlock ∧ some k_ ≠ (.slice m b.length q : Value).ownBlock ∧ some k_ ≠ (.slice X O.length Y : Value).ownBlock ∧ some k_ ≠ (.slice a8 A.length U : Value).ownBlock ∧ k_ ≠ u ∧ k_ ≠ c) (.slice B z.length D) z) := ⟨Kd.N_mono (zN4 (Kd.N_mono Zd.out (fun k_ hk => (⟨hk, hk.2.2.2.2.2.2⟩ : _ ∧ k_ ≠ c)))) (fun _ hk => ⟨hk.1.1, ⟨hk.1.2.1, ⟨hk.1.2.2.1, ⟨hk.1.2.2.2.1, ⟨hk.1.2.2.2.2.1, ⟨hk.1.2.2.2.2.2.1, hk.1.2.2.2.2.2.2⟩⟩⟩⟩⟩⟩)⟩
 have I : Aside0 (Kd.R (Kd.int .i64) 3 ((((a6.setCell ⟨c, 0, none⟩ (.slice a8 A.length U)).setCell ⟨c, 1, none⟩ (.slice d a.length l)).setCell ⟨c, 2, none⟩ (.slice B z.length D)).setCell ⟨c, 3, none⟩ (.slice m b.length q)) w.heap.size (fun k_ => some k_ ≠ (.slice x s.length y : Value).ownBlock ∧ some k_ ≠ (.slice d a.length l : Value).ownBlock ∧ some k_ ≠ (.slice X O.length Y : Value).ownBlock ∧ some k_ ≠ (.slice a8 A.length U : Value).ownBlock) (.slice m b.length q) b) := ⟨Kd.R_mono (zR4 (Kd.R_types Zc.out Ze.out (by decide))) (fun _ hk => ⟨hk.1.1, ⟨hk.1.2.1, ⟨hk.1.2.2.1, hk.1.2.2.2⟩⟩⟩)⟩
 have J : Aside0 (Kd.R (Kd.int .i64) 3 ((((a6.setCell ⟨c, 0, none⟩ (.slice a8 A.length U)).setCell ⟨c, 1, none⟩ (.slice d a.length l)).setCell ⟨c, 2, none⟩ (.slice B z.length D)).setCell ⟨c, 3, none⟩ (.slice m b.length q)) w.heap.size (fun k_ => some k_ ≠ (.slice x s.length y : Value).ownBlock ∧ some k_ ≠ (.slice d a.length l : Value).ownBlock ∧ some k_ ≠ (.slice m b.length q : Value).ownBlock ∧ some k_ ≠ (.slice a8 A.length U : Value).ownBlock) (.slice X O.length Y) O) := ⟨Kd.R_mono (zR4 (Kd.R_types Zi.out Ze.out (by decide))) (fun _ hk => ⟨hk.1.1, ⟨hk.1.2.1, ⟨hk.1.2.2.1, hk.1.2.2.2⟩⟩⟩)⟩
 have L : Aside0 (Kd.R (Kd.int .i64) 3 ((((a6.setCell ⟨c, 0, none⟩ (.slice a8 A.length U)).setCell ⟨c, 1, none⟩ (.slice d a.length l)).setCell ⟨c, 2, none⟩ (.slice B z.length D)).setCell ⟨c, 3, none⟩ (.slice m b.length q)) w.heap.size (fun k_ => some k_ ≠ (.slice x s.length y : Value).ownBlock ∧ some k_ ≠ (.slice d a.length l : Value).ownBlock ∧ some k_ ≠ (.slice m b.length q : Value).ownBlock ∧ some k_ ≠ (.slice X O.length Y : Value).ownBlock) (.slice a8 A.length U) A) := ⟨Kd.R_mono (zR4 (Kd.R_types Zh.out Ze.out (by decide))) (fun _ hk => ⟨hk.1.1, ⟨hk.1.2.1, ⟨hk.1.2.2.1, hk.1.2.2.2⟩⟩⟩)⟩
 have V : Aside0 (((((a6.setCell ⟨c, 0, none⟩ (.slice a8 A.length U)).setCell ⟨c, 1, none⟩ (.slice d a.length l)).setCell ⟨c, 2, none⟩ (.slice B z.length D)).setCell ⟨c, 3, none⟩ (.slice m b.length q)).heap[u]? = some (.cells #[.slice x s.length y, .slice d a.length l, .slice B z.length D, .slice m b.length q] 26 (0, 0))) := ⟨by exact zfar4 Za.out Zg.out⟩
 have Z : Aside0 (((((a6.setCell ⟨c, 0, none⟩ (.slice a8 A.length U)).setCell ⟨c, 1, none⟩ (.slice d a.length l)).setCell ⟨c, 2, none⟩ (.slice B z.length D)).setCell ⟨c, 3, none⟩ (.slice m b.length q)).heap[c]? = some (.cells #[.slice a8 A.length U, .slice d a.length l, .slice B z.length D, .slice m b.length q] 26 (0, 0))) := ⟨by exact zput4 Ze.out⟩
 have a4 : Aside0 (Below w.heap.size w ((((a6.setCell ⟨c, 0, none⟩ (.slice a8 A.length U)).setCell ⟨c, 1, none⟩ (.slice d a.length l)).setCell ⟨c, 2, none⟩ (.slice B z.length D)).setCell ⟨c, 3, none⟩ (.slice m b.length q))) := ⟨zg_5 HB.out Zj.out Zl.out⟩
 (try clear Zf)
 (try clear Zb)
 (try clear Zd)
 (try clear Zc)
 (try clear Zi)
 (try clear Zh)
 (try clear Za)
 (try clear Ze)
 (try clear HB)
 generalize ((((a6.setCell ⟨c, 0, none⟩ (.slice a8 A.length U)).setCell ⟨c, 1, none⟩ (.slice d a.length l)).setCell ⟨c, 2, none⟩ (.slice B z.length D)).setCell ⟨c, 3, none⟩ (.slice m b.length q)) = l4 at E F G I J L V Z a4 ⊢
 have Zf := E; have Zb := F; have Zd := G; have Zc := I; have Zi := J; have Zh := L; have Za := V; have Ze := Z; have HB := a4; clear E F G I J L V Z a4; have q8 := Zk.out; have q9 := Zg.out
 obtain ⟨_, _, _, _, _, _, _, _⟩ := zb4 Ze.out
 have g5 : 0 ≤ (T : Int) := zd
 have g6 : T < (A.length : Int) := zd
 obtain ⟨r0, n4, hx769_0⟩ := Kd.at_int (Kd.R_reads' Zh.out).2.2 T g5 g6
 cases n4; replace g5 := eq_true g5; replace g6 := eq_true g6
 have i7 : 0 ≤ (T : Int) := zd
 have i8 : (T : Int) < ((A.length : Int) : Int) := zd
 obtain ⟨a2, s6, i9, j0, gl17, cl17, HG17⟩ := Kd.R_form Zh.out (by omega)
 (first | cases i9 | (injection i9 with ea_ en_ ec_; (first | subst ea_ | (injection ea_ with ea_; subst ea_)); subst ec_; clear en_))
 have GB17 := zm j0; have Zv := zm HG17; clear j0 gl17 HG17
 (first | simp only [add_plain] at hx769_0 | skip)
 obtain ⟨hx17_0, hf17_0⟩ := Kd.R_celln 0 Zh.out (T : Int) i7 i8
 replace i7 := eq_true i7; replace i8 := eq_true i8
 obtain ⟨hy57_, hz57_⟩ := Kd.R_celln 0 Zh.out (T : Int) (zd) (zd)
 have Zt := Kd.R_putg Zh.out (T : Int) (wrap64 ((rd A T) + 1))
 try go_wp2_with (first | ((with_reducible refine gate_store (t := 3) (p := 73) rfl ?_); refine store_event (t := 3) (p := 73) (v := ?vo_w58) (w1 := (l4.setCell ⟨a2, (T : Int).toNat, none⟩ (.int .i64 (wrap64 ((rd A T) + 1))))) ?hg ?ho ?hn ?hr ?_; (case ho => rfl); (case hg => rfl); (case hn => rfl); (case hr => first | (go_simp; done) | (go_simp; rfl)); intro j1 hw; have hg : l4.grownBy j1 (some a2) := (by rw [hw]; exact Zt.2); have hp_ : Kd.R (Kd.int .i64) 3 j1 w.heap.size (fun k_ => some k_ ≠ (.slice x s.length y : Value).ownBlock ∧ some k_ ≠ (.slice d a.length l : Value).ownBlock ∧ some k_ ≠ (.slice m b.length q : Value).ownBlock ∧ some k_ ≠ (.slice X O.length Y : Value).ownBlock) (.slice (some ⟨a2, 0, none⟩) A.length U) a3 := (by rw [hw, j6.out]; exact Zt.1); clear Zt; have E := zm (Kd.R_after (v := (.slice (some ⟨a2, 0, none⟩) A.length U)) (v1 := (.slice (some ⟨a2, 0, none⟩) A.length U)) (ok := (fun k_ => some k_ ≠ (.slice d a.length l : Value).ownBlock ∧ some k_ ≠ (.slice m b.length q : Value).ownBlock ∧ some k_ ≠ (.slice X O.length Y : Value).ownBlock)) (by (with_reducible repeat (first | apply Kd.R_alloc | apply Kd.R_drewN | apply Kd.R_drew)); exact Kd.R_mono Zf.out (fun _ hk => ⟨⟨hk.1, ⟨hk.2.1, hk.2.2.1⟩⟩, hk.2.2.2⟩)) hg (.inl rfl)); have F := zm (Kd.R_after (v := (.slice (some ⟨a2, 0, none⟩) A.length U)) (v1 := (.slice (some ⟨a2, 0, none⟩) A.length U)) (ok := (fun k_ => some k_ ≠ (.slice x s.length y : Value).ownBlock ∧ some k_ ≠ (.slice m b.length q : Value).ownBlock ∧ some k_ ≠ (.slice X O.length Y : Value).ownBlock)) (by (with_reducible repeat (first | apply Kd.R_alloc | apply Kd.R_drewN | apply Kd.R_drew)); exact Kd.R_mono Zb.out (fun _ hk => ⟨⟨hk.1, ⟨hk.2.1, hk.2.2.1⟩⟩, hk.2.2.2⟩)) hg (.inl rfl)); have G := zm (Kd.N_afterv (v := (.slice (some ⟨a2, 0, none⟩) A.length U)) (v1 := (.slice (some ⟨a2, 0, none⟩) A.length U)) (ok := (fun k_ => some k_ ≠ (.slice x s.length y : Value).ownBlock ∧ some k_ ≠ (.slice d a.length l : Value).ownBlock ∧ some k_ ≠ (.slice m b.length q : Value).ownBlock ∧ some k_ ≠ (.slice X O.length Y : Value).ownBlock ∧ k_ ≠ u ∧ k_ ≠ c)) (by (with_reducible repeat (first | apply Kd.N_alloc | apply Kd.N_drewN | apply Kd.N_drew)); exact Kd.N_mono Zd.out (fun _ hk => ⟨⟨hk.1, ⟨hk.2.1, ⟨hk.2.2.1, ⟨hk.2.2.2.1, ⟨hk.2.2.2.2.2.1, hk.2.2.2.2.2.2⟩⟩⟩⟩⟩, hk.2.2.2.2.1⟩)) hg (.inl rfl)); have I := zm (Kd.R_after (v := (.slice (some ⟨a2, 0, none⟩) A.length U)) (v1 := (.slice (some ⟨a2, 0, none⟩) A.length U)) (ok := (fun k_ => some k_ ≠ (.slice x s.length y : Value).ownBlock ∧ some k_ ≠ (.slice d a.length l : Value).ownBlock ∧ some k_ ≠ (.slice X O.length Y : Value).ownBlock)) (by (with_reducible repeat (first | apply Kd.R_alloc | apply Kd.R_drewN | apply Kd.R_drew)); exact Kd.R_mono Zc.out (fun _ hk => ⟨⟨hk.1, ⟨hk.2.1, hk.2.2.1⟩⟩, hk.2.2.2⟩)) hg (.inl rfl)); have J := zm (blk_grown (g := u) (o := .cells #[.slice x s.length y, .slice d a.length l, .slice B z.length D, .slice m b.length q] 26 (0, 0)) (zg_3 Za.out) hg (Kd.R_ne Zh.out Za.out (by decide))); have L := zm (Kd.R_after (v := (.slice (some ⟨a2, 0, none⟩) A.length U)) (v1 := (.slice (some ⟨a2, 0, none⟩) A.length U)) (ok := (fun k_ => some k_ ≠ (.slice x s.length y : Value).ownBlock ∧ some k_ ≠ (.slice d a.length l : Value).ownBlock ∧ some k_ ≠ (.slice m b.length q : Value).ownBlock)) (by (with_reducible repeat (first | apply Kd.R_alloc | apply Kd.R_drewN | apply Kd.R_drew)); exact Kd.R_mono Zi.out (fun _ hk => ⟨⟨hk.1, ⟨hk.2.1, hk.2.2.1⟩⟩, hk.2.2.2⟩)) hg (.inl rfl)); have V := zm (hp_); have Z := zm (blk_grown (g := c) (o := .cells #[.slice (some ⟨a2, 0, none⟩) A.length U, .slice d a.length l, .slice B z.length D, .slice m b.length q] 26 (0, 0)) (zg_3 Ze.out) hg (Kd.R_ne Zh.out Ze.out (by decide))); have a4 := zm ((by rw [hw]; exact below_set (HB.out) GB17.out : Below w.heap.size w j1)); replace Zf := E; replace Zb := F; replace Zd := G; replace Zc := I; replace Za := J; replace Zi := L; replace Zh := V; replace Ze := Z; replace HB := a4; clear E F G I J L V Z a4; clear hg hw hp_; obtain ⟨_, _, _, _, _, _, _, _⟩ := zb4 Ze.out; clear Zf Zi; have n_ := zm (Kd.R_mono (ok' := (fun k_ => some k_ ≠ (.slice m b.length q : Value).ownBlock ∧ some k_ ≠ (.slice (some ⟨a2, 0, none⟩) A.length U : Value).ownBlock)) Zb.out (fun k_ hk => by first | exact ⟨hk.1.2.1, hk.2⟩ | (simp_all; done))); replace Zb := n_; clear n_; have n_ := zm (Kd.N_mono (ok' := (fun k_ => some k_ ≠ (.slice d a.length l : Value).ownBlock ∧ some k_ ≠ (.slice m b.length q : Value).ownBlock ∧ some k_ ≠ (.slice (some ⟨a2, 0, none⟩) A.length U : Value).ownBlock ∧ k_ ≠ u ∧ k_ ≠ c)) Zd.out (fun k_ hk => by first | exact ⟨hk.1.2.1, ⟨hk.1.2.2.1, ⟨hk.2, ⟨hk.1.2.2.2.2.1, hk.1.2.2.2.2.2⟩⟩⟩⟩ | (simp_all; done))); replace Zd := n_; clear n_; have n_ := zm (Kd.R_mono (ok' := (fun k_ => some k_ ≠ (.slice d a.length l : Value).ownBlock ∧ some k_ ≠ (.slice (some ⟨a2, 0, none⟩) A.length U : Value).ownBlock)) Zc.out (fun k_ hk => by first | exact ⟨hk.1.2.1, hk.2⟩ | (simp_all; done))); replace Zc := n_; clear n_; have n_ := zm (Kd.R_mono (ok' := (fun k_ => some k_ ≠ (.slice d a.length l : Value).ownBlock ∧ some k_ ≠ (.slice m b.length q : Value).ownBlock)) Zh.out (fun k_ hk => by first | exact ⟨hk.2.1, hk.2.2.1⟩ | (simp_all; done))); replace Zh := n_; clear n_) | ((with_reducible refine gate_callee (f := 5) rfl ?_); refine goesL_ (some 76) rfl rfl Tryz.func5 (by kernel_rfl) rfl #[.agg #[.slice (some ⟨a2, 0, none⟩) a3.length U, .slice d a.length l, .slice B z.length D, .slice m b.length q]] rfl (by (try simp only [List.map_toArray, List.map_cons, List.map_nil]); first | done | (rw [show a3.length = A.length from (Kd.R_reads' Zh.out).1.symm] <;> rfl) | rfl | (simp only [List.length_drop, List.length_take]; rfl)) ?_; (with_reducible refine (impl_WrongRefs.calls k _ _ a3 _ _ a _ _ z _ _ b f9 d5 _ ?side1 ?side2 ?side3 ?side4 ?side5 ?side6 ?side7 ?side8 p2.out).mono ?_); (case side1 => exact zC ((Kd.R_reads' Zh.out).2.2)); (case side2 => rw [show a3.length = A.length from (Kd.R_reads' Zh.out).1.symm]; exact (Kd.R_reads' Zh.out).2.1); (case side3 => exact zC ((Kd.R_reads' Zb.out).2.2)); (case side4 => exact (Kd.R_reads' Zb.out).2.1); (case side5 => exact zC ((Kd.N_reads' Zd.out).2.2)); (case side6 => exact (Kd.N_reads' Zd.out).2.1); (case side7 => exact zC ((Kd.R_reads' Zc.out).2.2)); (case side8 => exact (Kd.R_reads' Zc.out).2.1); rintro e u1 ⟨s7, rfl, a5, hb⟩; refine ⟨_, rfl, ?_⟩; have E := zm (Kd.R_elder' (zg_6 Zb.out) (Kd.R_base a5) hb); have F := zm (Kd.N_elder' (zg_4 Zd.out) (Kd.R_base a5) hb); have G := zm (Kd.R_elder' (zg_6 Zc.out) (Kd.R_base a5) hb); have I := zm (Kd.R_elder' (zg_6 Zh.out) (Kd.R_base a5) hb); have J := zm (Kd.R_lower (Kd.R_new' (Kd.R_new' (Kd.R_new' a5 (Kd.R_lt (zg_6 Zb.out))) (Kd.R_lt (zg_6 Zc.out))) (Kd.R_lt (zg_6 Zh.out))) (below_size (zg_5 HB.out Zj.out Zl.out))); have L := zm (blk_below (g := u) (o := .cells #[.slice x s.length y, .slice d a.length l, .slice B z.length D, .slice m b.length q] 26 (0, 0)) (zg_3 Za.out) hb); have V := zm (blk_below (g := c) (o := .cells #[.slice (some ⟨a2, 0, none⟩) A.length U, .slice d a.length l, .slice B z.length D, .slice m b.length q] 26 (0, 0)) (zg_3 Ze.out) hb); have Z := zm (below_step (zg_5 HB.out Zj.out Zl.out) hb); replace Zb := E; replace Zd := F; replace Zc := G; replace Zh := I; have Zm := J; replace Za := L; replace Ze := V; replace HB := Z; clear E F G I J L V Z; (try clear hb); (try clear hb2); (try clear hk); (try clear hi); (try clear a5); obtain ⟨_, _, _, _, _, _, _, _⟩ := zb4 Ze.out) | ((with_reducible refine gate_callee (f := 9) rfl ?_); refine goesL_ (some 81) rfl rfl Tryz.func9 (by kernel_rfl) rfl #[.agg #[.slice (some ⟨a2, 0, none⟩) a3.length U, .slice d a.length l, .slice B z.length D, .slice m b.length q]] rfl (by (try simp only [List.map_toArray, List.map_cons, List.map_nil]); first | done | (rw [show a3.length = A.length from (Kd.R_reads' Zh.out).1.symm] <;> rfl) | rfl | (simp only [List.length_drop, List.length_take]; rfl)) ?_; (with_reducible refine (impl_Leaks.calls k _ _ a3 _ _ a _ _ z _ _ b d9 c7 _ ?side1 ?side2 ?side3 ?side4 ?side5 ?side6 ?side7 ?side8 p3.out).mono ?_); (case side1 => exact zC ((Kd.R_reads' Zh.out).2.2)); (case side2 => rw [show a3.length = A.length from (Kd.R_reads' Zh.out).1.symm]; exact (Kd.R_reads' Zh.out).2.1); (case side3 => exact zC ((Kd.R_reads' Zb.out).2.2)); (case side4 => exact (Kd.R_reads' Zb.out).2.1); (case side5 => exact zC ((Kd.N_reads' Zd.out).2.2)); (case side6 => exact (Kd.N_reads' Zd.out).2.1); (case side7 => exact zC ((Kd.R_reads' Zc.out).2.2)); (case side8 => exact (Kd.R_reads' Zc.out).2.1); rintro e u2 ⟨e4, rfl, a5, hb⟩; refine ⟨_, rfl, ?_⟩; have E := zm (Kd.R_elder' (zg_6 Zb.out) (Kd.R_base a5) hb); have F := zm (Kd.N_elder' (zg_4 Zd.out) (Kd.R_base a5) hb); have G := zm (Kd.R_elder' (zg_6 Zc.out) (Kd.R_base a5) hb); have I := zm (Kd.R_elder' (zg_6 Zh.out) (Kd.R_base a5) hb); have J := zm (Kd.R_elder' (zg_6 Zm.out) (Kd.R_base a5) hb); have L := zm (Kd.R_lower (Kd.R_new' (Kd.R_new' (Kd.R_new' (Kd.R_new' a5 (Kd.R_lt (zg_6 Zb.out))) (Kd.R_lt (zg_6 Zc.out))) (Kd.R_lt (zg_6 Zh.out))) (Kd.R_lt (zg_6 Zm.out))) (below_size (zg_5 HB.out Zj.out Zl.out))); have V := zm (blk_below (g := u) (o := .cells #[.slice x s.length y, .slice d a.length l, .slice B z.length D, .slice m b.length q] 26 (0, 0)) (zg_3 Za.out) hb); have Z := zm (blk_below (g := c) (o := .cells #[.slice (some ⟨a2, 0, none⟩) A.length U, .slice d a.length l, .slice B z.length D, .slice m b.length q] 26 (0, 0)) (zg_3 Ze.out) hb); have a4 := zm (below_step (zg_5 HB.out Zj.out Zl.out) hb); replace Zb := E; replace Zd := F; replace Zc := G; replace Zh := I; replace Zm := J; have Zo := L; replace Za := V; replace Ze := Z; replace HB := a4; clear E F G I J L V Z a4; (try clear hb); (try clear hb2); (try clear hk); (try clear hi); (try clear a5)) | ((with_reducible refine gate_dst (N := 89) rfl ?_); (try (refine gate_guard (by rfl) ?_; dsimp only)); refine Kd.R_lit (Kd.int .i64) _ 3 ?hg (N := 89) ?hd (xs := ([T] : List Int)) (inner := [.int .i64 T]) (ok := fun _ => True) (okp := fun _ => True) ?hr ?hp (fun _ hk => hk) trivial (Below.refl _ _) (Nat.le_refl _) (by simp) ?_; (case hd => rfl); (case hg => rfl); (case hr => first | (go_simp; done) | (go_simp; rfl)); (case hp => exact (Reps.one (show Kd.M (Kd.int .i64) _ _ _ T [.int .i64 T] from rfl) (Reps.none _ _))); intro s8 u3 b7 hb hg_ hnew_; clear hg_ hnew_; (first | rw [← h1.out] at b7 | (simp only [Int.reduceToNat] at b7; rw [← h1.out] at b7)); have E := zm (Kd.R_elder' (zg_6 Zb.out) (Kd.R_base b7) hb); have F := zm (Kd.N_elder' (zg_4 Zd.out) (Kd.R_base b7) hb); have G := zm (Kd.R_elder' (zg_6 Zc.out) (Kd.R_base b7) hb); have I := zm (Kd.R_elder' (zg_6 Zh.out) (Kd.R_base b7) hb); have J := zm (Kd.R_elder' (zg_6 Zm.out) (Kd.R_base b7) hb); have L := zm (Kd.R_elder' (zg_6 Zo.out) (Kd.R_base b7) hb); have V := zm (Kd.R_lower (Kd.R_new' (Kd.R_new' (Kd.R_new' (Kd.R_new' (Kd.R_new' b7 (Kd.R_lt (zg_6 Zb.out))) (Kd.R_lt (zg_6 Zc.out))) (Kd.R_lt (zg_6 Zh.out))) (Kd.R_lt (zg_6 Zm.out))) (Kd.R_lt (zg_6 Zo.out))) (below_size (zg_5 HB.out Zj.out Zl.out))); have Z := zm (blk_below (g := u) (o := .cells #[.slice x s.length y, .slice d a.length l, .slice B z.length D, .slice m b.length q] 26 (0, 0)) (zg_3 Za.out) hb); have a4 := zm (blk_below (g := c) (o := .cells #[.slice (some ⟨a2, 0, none⟩) A.length U, .slice d a.length l, .slice B z.length D, .slice m b.length q] 26 (0, 0)) (zg_3 Ze.out) hb); have b3 := zm (below_step (zg_5 HB.out Zj.out Zl.out) hb); replace Zb := E; replace Zd := F; replace Zc := G; replace Zh := I; replace Zm := J; replace Zo := L; have Zq := V; replace Za := Z; replace Ze := a4; replace HB := b3; clear E F G I J L V Z a4 b3; clear hb b7; obtain ⟨s9, t0, n5⟩ := Kd.R_slice Zm.out; subst n5; obtain ⟨t1, t2, n6⟩ := Kd.R_slice Zq.out; subst n6) | (go_at_call 8; (with_reducible refine (laws_sameInts.calls k _ _ f9 _ _ i0 true _ ?side1 ?side2 ?side3 ?side4 p4.out).mono ?_); (case side1 => exact zC ((Kd.R_reads' Zm.out).2.2)); (case side2 => exact (Kd.R_reads' Zm.out).2.1); (case side3 => exact zC ((Kd.R_reads' Zq.out).2.2)); (case side4 => exact (Kd.R_reads' Zq.out).2.1); rintro e w' ⟨rfl, ⟨nd, rfl⟩⟩) | ((with_reducible refine gate_dst (N := 99) rfl ?_); (try (refine gate_guard (by rfl) ?_; dsimp only)); refine Kd.R_lit (Kd.int .i64) _ 3 ?hg (N := 99) ?hd (xs := ([T] : List Int)) (inner := [.int .i64 T]) (ok := fun _ => True) (okp := fun _ => True) ?hr ?hp (fun _ hk => hk) trivial (Below.refl _ _) (Nat.le_refl _) (by simp) ?_; (case hd => rfl); (case hg => rfl); (case hr => first | (go_simp; done) | (go_simp; rfl)); (case hp => exact (Reps.one (show Kd.M (Kd.int .i64) _ _ _ T [.int .i64 T] from rfl) (Reps.none _ _))); intro e5 u4 b4 hb hg_ hnew_; clear hg_ hnew_; (first | rw [← h3.out] at b4 | (simp only [Int.reduceToNat] at b4; rw [← h3.out] at b4)); have E := zm (Kd.R_elder' (zg_6 Zb.out) (Kd.R_base b4) hb); have F := zm (Kd.N_elder' (zg_4 Zd.out) (Kd.R_base b4) hb); have G := zm (Kd.R_elder' (zg_6 Zc.out) (Kd.R_base b4) hb); have I := zm (Kd.R_elder' (zg_6 Zh.out) (Kd.R_base b4) hb); have J := zm (Kd.R_elder' (zg_6 Zm.out) (Kd.R_base b4) hb); have L := zm (Kd.R_elder' (zg_6 Zo.out) (Kd.R_base b4) hb); have V := zm (Kd.R_elder' (zg_6 Zq.out) (Kd.R_base b4) hb); have Z := zm (Kd.R_lower (Kd.R_new' (Kd.R_new' (Kd.R_new' (Kd.R_new' (Kd.R_new' (Kd.R_new' b4 (Kd.R_lt (zg_6 Zb.out))) (Kd.R_lt (zg_6 Zc.out))) (Kd.R_lt (zg_6 Zh.out))) (Kd.R_lt (zg_6 Zm.out))) (Kd.R_lt (zg_6 Zo.out))) (Kd.R_lt (zg_6 Zq.out))) (below_size (zg_5 HB.out Zj.out Zl.out))); have a4 := zm (blk_below (g := u) (o := .cells #[.slice x s.length y, .slice d a.length l, .slice B z.length D, .slice m b.length q] 26 (0, 0)) (zg_3 Za.out) hb); have b3 := zm (blk_below (g := c) (o := .cells #[.slice (some ⟨a2, 0, none⟩) A.length U, .slice d a.length l, .slice B z.length D, .slice m b.length q] 26 (0, 0)) (zg_3 Ze.out) hb); have b2 := zm (below_step (zg_5 HB.out Zj.out Zl.out) hb); replace Zb := E; replace Zd := F; replace Zc := G; replace Zh := I; replace Zm := J; replace Zo := L; replace Zq := V; have Zr := Z; replace Za := a4; replace Ze := b3; replace HB := b2; clear E F G I J L V Z a4 b3 b2; clear hb b4; clear Zm Zq; have n_ := zm (Kd.R_mono (ok' := (fun k_ => some k_ ≠ (.slice m b.length q : Value).ownBlock ∧ some k_ ≠ (.slice (some ⟨a2, 0, none⟩) A.length U : Value).ownBlock ∧ some k_ ≠ (e4 : Value).ownBlock ∧ some k_ ≠ (e5 : Value).ownBlock)) Zb.out (fun k_ hk => by first | exact ⟨hk.1.1.1.1.1, ⟨hk.1.1.1.1.2, ⟨hk.1.1.2, hk.2⟩⟩⟩ | (simp_all; done))); replace Zb := n_; clear n_; have n_ := zm (Kd.N_mono (ok' := (fun k_ => some k_ ≠ (.slice d a.length l : Value).ownBlock ∧ some k_ ≠ (.slice m b.length q : Value).ownBlock ∧ some k_ ≠ (.slice (some ⟨a2, 0, none⟩) A.length U : Value).ownBlock ∧ some k_ ≠ (e4 : Value).ownBlock ∧ some k_ ≠ (e5 : Value).ownBlock ∧ k_ ≠ u ∧ k_ ≠ c)) Zd.out (fun k_ hk => by first | exact ⟨hk.1.1.1.1.1, ⟨hk.1.1.1.1.2.1, ⟨hk.1.1.1.1.2.2.1, ⟨hk.1.1.2, ⟨hk.2, ⟨hk.1.1.1.1.2.2.2.1, hk.1.1.1.1.2.2.2.2⟩⟩⟩⟩⟩⟩ | (simp_all; done))); replace Zd := n_; clear n_; have n_ := zm (Kd.R_mono (ok' := (fun k_ => some k_ ≠ (.slice d a.length l : Value).ownBlock ∧ some k_ ≠ (.slice (some ⟨a2, 0, none⟩) A.length U : Value).ownBlock ∧ some k_ ≠ (e4 : Value).ownBlock ∧ some k_ ≠ (e5 : Value).ownBlock)) Zc.out (fun k_ hk => by first | exact ⟨hk.1.1.1.1.1, ⟨hk.1.1.1.1.2, ⟨hk.1.1.2, hk.2⟩⟩⟩ | (simp_all; done))); replace Zc := n_; clear n_; have n_ := zm (Kd.R_mono (ok' := (fun k_ => some k_ ≠ (.slice d a.length l : Value).ownBlock ∧ some k_ ≠ (.slice m b.length q : Value).ownBlock ∧ some k_ ≠ (e4 : Value).ownBlock ∧ some k_ ≠ (e5 : Value).ownBlock)) Zh.out (fun k_ hk => by first | exact ⟨hk.1.1.1.1.1, ⟨hk.1.1.1.1.2, ⟨hk.1.1.2, hk.2⟩⟩⟩ | (simp_all; done))); replace Zh := n_; clear n_; have n_ := zm (Kd.R_mono (ok' := (fun k_ => some k_ ≠ (.slice d a.length l : Value).ownBlock ∧ some k_ ≠ (.slice m b.length q : Value).ownBlock ∧ some k_ ≠ (.slice (some ⟨a2, 0, none⟩) A.length U : Value).ownBlock ∧ some k_ ≠ (e5 : Value).ownBlock)) Zo.out (fun k_ hk => by first | exact ⟨hk.1.1.1.1.1.2, ⟨hk.1.1.1.1.2, ⟨hk.1.1.1.2, hk.2⟩⟩⟩ | (simp_all; done))); replace Zo := n_; clear n_; have n_ := zm (Kd.R_mono (ok' := (fun k_ => some k_ ≠ (.slice d a.length l : Value).ownBlock ∧ some k_ ≠ (.slice m b.length q : Value).ownBlock ∧ some k_ ≠ (.slice (some ⟨a2, 0, none⟩) A.length U : Value).ownBlock ∧ some k_ ≠ (e4 : Value).ownBlock)) Zr.out (fun k_ hk => by first | exact ⟨hk.1.1.1.1.1.2, ⟨hk.1.1.1.1.2, ⟨hk.1.1.1.2, hk.1.2⟩⟩⟩ | (simp_all; done))); replace Zr := n_; clear n_; obtain ⟨t3, t4, n7⟩ := Kd.R_slice Zo.out; subst n7; obtain ⟨t5, t6, n8⟩ := Kd.R_slice Zr.out; subst n8) | (go_at_call 8; (with_reducible refine (laws_sameInts.calls k _ _ d9 _ _ i2 true _ ?side1 ?side2 ?side3 ?side4 p5.out).mono ?_); (case side1 => exact zC ((Kd.R_reads' Zo.out).2.2)); (case side2 => exact (Kd.R_reads' Zo.out).2.1); (case side3 => exact zC ((Kd.R_reads' Zr.out).2.2)); (case side4 => exact (Kd.R_reads' Zr.out).2.1); rintro e w' ⟨rfl, ⟨nd, rfl⟩⟩; obtain ⟨_, _, _, _, _, _, _, _⟩ := zb4 Ze.out; clear Zo Zr; have n_ := zm (Kd.R_mono (ok' := (fun k_ => some k_ ≠ (.slice m b.length q : Value).ownBlock ∧ some k_ ≠ (.slice (some ⟨a2, 0, none⟩) A.length U : Value).ownBlock)) Zb.out (fun k_ hk => by first | exact ⟨hk.1, hk.2.1⟩ | (simp_all; done))); replace Zb := n_; clear n_; have n_ := zm (Kd.N_mono (ok' := (fun k_ => some k_ ≠ (.slice d a.length l : Value).ownBlock ∧ some k_ ≠ (.slice m b.length q : Value).ownBlock ∧ some k_ ≠ (.slice (some ⟨a2, 0, none⟩) A.length U : Value).ownBlock ∧ k_ ≠ u ∧ k_ ≠ c)) Zd.out (fun k_ hk => by first | exact ⟨hk.1, ⟨hk.2.1, ⟨hk.2.2.1, ⟨hk.2.2.2.2.2.1, hk.2.2.2.2.2.2⟩⟩⟩⟩ | (simp_all; done))); replace Zd := n_; clear n_; have n_ := zm (Kd.R_mono (ok' := (fun k_ => some k_ ≠ (.slice d a.length l : Value).ownBlock ∧ some k_ ≠ (.slice (some ⟨a2, 0, none⟩) A.length U : Value).ownBlock)) Zc.out (fun k_ hk => by first | exact ⟨hk.1, hk.2.1⟩ | (simp_all; done))); replace Zc := n_; clear n_; have n_ := zm (Kd.R_mono (ok' := (fun k_ => some k_ ≠ (.slice d a.length l : Value).ownBlock ∧ some k_ ≠ (.slice m b.length q : Value).ownBlock)) Zh.out (fun k_ hk => by first | exact ⟨hk.1, hk.2.1⟩ | (simp_all; done))); replace Zh := n_; clear n_) | (go_at_call 10; refine calls_of_args (args' := #[.agg #[.slice (some ⟨a2, 0, none⟩) a3.length U, .slice d a.length l, .slice B z.length D, .slice m b.length q]]) (by first | (rw [show a3.length = A.length from (Kd.R_reads' Zh.out).1.symm] <;> rfl) | rfl) ?_; (with_reducible refine (impl_ImageOK.calls k _ _ a3 _ _ a _ _ z _ _ b a7 _ ?side1 ?side2 ?side3 ?side4 ?side5 ?side6 ?side7 ?side8 p6.out).mono ?_); (case side1 => exact zC ((Kd.R_reads' Zh.out).2.2)); (case side2 => rw [show a3.length = A.length from (Kd.R_reads' Zh.out).1.symm]; exact (Kd.R_reads' Zh.out).2.1); (case side3 => exact zC ((Kd.R_reads' Zb.out).2.2)); (case side4 => exact (Kd.R_reads' Zb.out).2.1); (case side5 => exact zC ((Kd.N_reads' Zd.out).2.2)); (case side6 => exact (Kd.N_reads' Zd.out).2.1); (case side7 => exact zC ((Kd.R_reads' Zc.out).2.2)); (case side8 => exact (Kd.R_reads' Zc.out).2.1); rintro e u5 ⟨rfl, hb⟩; have E := zm (blk_below (g := u) (o := .cells #[.slice x s.length y, .slice d a.length l, .slice B z.length D, .slice m b.length q] 26 (0, 0)) (zg_3 Za.out) hb); have F := zm (blk_below (g := c) (o := .cells #[.slice (some ⟨a2, 0, none⟩) A.length U, .slice d a.length l, .slice B z.length D, .slice m b.length q] 26 (0, 0)) (zg_3 Ze.out) hb); have G := zm (below_step (zg_5 HB.out Zj.out Zl.out) hb); replace Za := E; replace Ze := F; replace HB := G; clear E F G; (try clear hb); (try clear hb2); (try clear hk); (try clear hi); (try clear Zb); (try clear Zd); (try clear Zc); (try clear Zh)))
 go_ret
 exact ⟨ze, zg_5 HB.out Zj.out Zl.out⟩
def okI (x : Int) : Prop := (Lit.int .i64 x).wf = true
def okU8 (x : Int) : Prop := (Lit.int .u8 x).wf = true
def okB (_ : Bool) : Prop := True
def okS (x : ByteArray) : Prop := x.size ≤ maxLen
theorem w64 {n : Int} (h0 : -9223372036854775808 ≤ n) (h1 : n ≤ 9223372036854775807) : wrap64 n = n := by unfold wrap64; omega
theorem Ev.k {α : Type} {g : Nat → Option α} {r : α} (K : Nat) (h : ∀ k, K ≤ k → g k = some r) : Ev g r := ⟨K, h⟩
theorem ev_some {α : Type} (r : α) : Ev (fun _ => some r) r := ⟨0, fun _ _ => rfl⟩
theorem ev_of_eq {α : Type} {g : Nat → Option α} {r : α} (h : ∀ k, g k = some r) : Ev g r := ⟨0, fun k _ => h k⟩
theorem ev_bind {α β : Type} {g : Nat → Option α} {f : Nat → α → Option β} {a : α} {r : β} (h : Ev g a) (k : Ev (fun n => f n a) r) : Ev (fun n => (g n).bind (f n)) r := Ev.bind h k
theorem ev_pos {α : Type} {c : Prop} [Decidable c] {g f : Nat → Option α} {r : α} (hc : c) (h : Ev g r) : Ev (fun n => if c then g n else f n) r := by
  simp only [if_pos hc]; exact h
theorem ev_neg {α : Type} {c : Prop} [Decidable c] {g f : Nat → Option α} {r : α} (hc : ¬ c) (h : Ev f r) : Ev (fun n => if c then g n else f n) r := by
  simp only [if_neg hc]; exact h
theorem toList_inj {a b : ByteArray} : a.toList = b.toList ↔ a = b := by
  constructor
  · intro h
    have h1 : a.data.toList = b.data.toList := by simpa [ByteArray.toList_eq] using h
    have : a.data = b.data := Array.toList_inj.1 h1
    cases a; cases b; simp_all
  · rintro rfl; rfl
def inB (n a b : Int) : Bool := decide (a ≤ n) && decide (n ≤ b)
theorem inB_iff {n a b : Int} : inB n a b = true ↔ a ≤ n ∧ n ≤ b := by simp [inB]
theorem l01In_eq (n a b : Int) : spec_l01In.f n a b = some (inB n a b) := by
  unfold spec_l01In.f inB; by_cases h : a ≤ n <;> simp [h]
theorem within_eq (n a b : Int) : impl_within.f n a b = some (inB n a b) := by
  unfold impl_within.f inB; by_cases h : a ≤ n <;> simp [h]
theorem ev_loop {α : Type} {g : Nat → Nat → Option α} {r : α} (n : Nat) (hend : Ev (fun k => g k n) r) (hstep : ∀ i, i < n → ∃ c, ∀ k, g (k + c) i = g k (i + 1) ∧ 1 ≤ c) : ∀ d i, i ≤ n → n - i = d → Ev (fun k => g k i) r := by
  intro d
  induction d with
  | zero =>
    intro i hi hd
    have e : i = n := by omega
    rw [e]; exact hend
  | succ d ih =>
    intro i hi hd
    obtain ⟨K, hK⟩ := ih (i + 1) (by omega) (by omega)
    obtain ⟨c, hc⟩ := hstep i (by omega)
    refine ⟨K + c, fun k hk => ?_⟩
    obtain ⟨m, rfl⟩ : ∃ m, k = m + c := ⟨k - c, by omega⟩
    show g (m + c) i = _
    rw [(hc m).1]; exact hK m (by omega)
theorem rdn (l : List Int) (i : Nat) (h : i < l.length) : rd l (i : Int) = l[i] := by simp [rd, h]
theorem wnext (i : Nat) (h : i < 1000000000000000000) : wrap64 ((i : Int) + 1) = ((i + 1 : Nat) : Int) := by rw [w64 (by omega) (by omega)]; omega
theorem Ev.succ {α : Type} {g : Nat → Option α} {r : α} (h : Ev (fun k => g (k + 1)) r) : Ev g r := Ev.step (f := fun k => g (k + 1)) (fun _ => rfl) h
theorem ev_all {α : Type} {g : Nat → Nat → Option Bool} (l : List α) (q : α → Bool) (r : Bool) (hend : Ev (fun k => g k l.length) r) (hstep : ∀ i (h : i < l.length) k, g (k + 1) i = if q l[i] = true then g k (i + 1) else some false) : Ev (fun k => g k 0) (l.all q && r) := by
  have hgo : ∀ d i, i ≤ l.length → l.length - i = d → Ev (fun k => g k i) ((l.drop i).all q && r) := by
    intro d
    induction d with
    | zero =>
      intro i hi hd
      have e : i = l.length := by omega
      subst e
      rw [List.drop_of_length_le (by omega)]; simp only [List.all_nil, Bool.true_and]; exact hend
    | succ d ih =>
      intro i hi hd
      have hlt : i < l.length := by omega
      refine Ev.step (f := fun k => if q l[i] = true then g k (i + 1) else some false) (hstep i hlt) ?_
      rw [List.drop_eq_getElem_cons hlt, List.all_cons]
      cases hq : q l[i]
      · simp only [Bool.false_and, Bool.false_eq_true, if_false]; exact ev_some _
      · simp only [Bool.true_and, if_true]; exact ih (i + 1) (by omega) (by omega)
  have := hgo l.length 0 (by omega) (by omega)
  rwa [List.drop_zero] at this
theorem compactI_full (zs : List Int) : (Lib.compact zs).length = zs.length ↔ ∀ j, j < zs.length → Lib.keeps zs.toArray j = true := by
  unfold Lib.compact Lib.compactUpTo
  rw [List.length_map]
  constructor
  · intro h j hj
    have h2 : ((List.range zs.length).filter (Lib.keeps zs.toArray)).length = (List.range zs.length).length := by rw [h, List.length_range]
    exact (List.length_filter_eq_length_iff.1 h2) j (List.mem_range.2 hj)
  · intro h
    have : ((List.range zs.length).filter (Lib.keeps zs.toArray)).length = (List.range zs.length).length := List.length_filter_eq_length_iff.2 (fun j hj => h j (List.mem_range.1 hj))
    rw [this, List.length_range]
theorem sortedI_nodup (ss : List Int) : (Lib.compact (ss.mergeSort fun x y => decide (x ≤ y))).length = ss.length ↔ ss.Nodup := by
  have hp := List.mergeSort_perm ss (fun x y => decide (x ≤ y))
  have hs : (ss.mergeSort fun x y => decide (x ≤ y)).Pairwise (fun x y => decide (x ≤ y) = true) := List.pairwise_mergeSort (fun a b c h1 h2 => by
    simp only [decide_eq_true_eq] at *; exact Int.le_trans h1 h2) (fun a b => by
    simp only [Bool.or_eq_true, decide_eq_true_eq]; exact Int.le_total a b) ss
  rw [← hp.nodup_iff, ← hp.length_eq, compactI_full]
  generalize (ss.mergeSort fun x y => decide (x ≤ y)) = s at hs
  have hle : ∀ i j (hi : i < j) (hj : j < s.length), s[i] ≤ s[j] := fun i j hi hj => by
    have := List.pairwise_iff_getElem.1 hs i j (by omega) hj hi
    simpa using this
  constructor
  · intro h
    rw [List.nodup_iff_pairwise_ne, List.pairwise_iff_getElem]
    intro i j hi hj hij e
    have h1 := h (i + 1) (by omega)
    have h2 : s[i]'hi = s[i + 1]'(by omega) := by
      refine Int.le_antisymm (hle i (i + 1) (by omega) (by omega)) ?_
      by_cases c : i + 1 = j
      · subst c; rw [e]; exact Int.le_refl _
      · rw [e]; exact hle (i + 1) j (by omega) hj
    simp [Lib.keeps, h2, show i + 1 < s.length by omega, show i < s.length from hi] at h1
  · intro h j hj
    by_cases c : j = 0
    · subst c; simp [Lib.keeps]
    · have hne : s[j]'hj ≠ s[j - 1]'(by omega) := by
        intro e
        have := List.pairwise_iff_getElem.1 (List.nodup_iff_pairwise_ne.1 h) (j - 1) j (by omega) hj (by omega)
        exact this e.symm
      simp [Lib.keeps, hj, show j - 1 < s.length by omega, hne]
def tableOK (l : List Int) : Bool := decide ((l.length : Int) ≤ 12) && l.all (fun n => inB n 0 25)
theorem impl_TableOK_eq (l : List Int) : impl_TableOK.f l = some (tableOK l) := by
  unfold impl_TableOK.f tableOK
  have ha : all40_impl_TableOK_1.f l () = some (l.all (fun n => inB n 0 25)) := by
    unfold all40_impl_TableOK_1.f; exact allO_some _ _ (fun x _ => by simp only [impl_TableOK_1.f, within_eq, Option.bind_some])
  by_cases h : (l.length : Int) ≤ 12
  · rw [if_pos h, ha]; simp [h]
  · rw [if_neg h]; simp [h]
theorem ev_down {α : Type} {g : Nat → Nat → Option α} {r : α} (n : Nat) (hend : Ev (fun k => g k n) r) (hstep : ∀ i, i < n → Ev (fun k => g k (i + 1)) r → Ev (fun k => g k i) r) : Ev (fun k => g k 0) r := by
  have : ∀ d i, i ≤ n → n - i = d → Ev (fun k => g k i) r := by
    intro d
    induction d with
    | zero => intro i hi hd; have e : i = n := by omega
              rw [e]; exact hend
    | succ d ih => intro i hi hd; exact hstep i (by omega) (ih (i + 1) (by omega) (by omega))
  exact this n 0 (by omega) (by omega)
theorem rdE_Snap (l : List S66) (i : Nat) (h : i < l.length) : rd_T66 l (i : Int) = l[i] := by simp [rd_T66, h]
def clu (l : List Int) : List Int := (l.filter (fun n => decide (n ≥ 2))).map (fun n => wrap64 (n - 2))
theorem clu_take (l : List Int) (i : Nat) (h : i < l.length) : clu (l.take (i + 1)) = if l[i] ≥ 2 then clu (l.take i) ++ [wrap64 (l[i] - 2)] else clu (l.take i) := by
  unfold clu
  rw [List.take_succ_eq_append_getElem h, List.filter_append, List.map_append]
  by_cases c : l[i] ≥ 2
  · rw [if_pos c]; simp [c]
  · rw [if_neg c]; simp [c]
theorem clu_length (l : List Int) : (clu l).length ≤ l.length := by unfold clu; rw [List.length_map]; exact List.length_filter_le _ _
theorem clu_take_length (l : List Int) (i : Nat) : (clu (l.take i)).length ≤ l.length := Nat.le_trans (clu_length _) (by simp; omega)
theorem spec_clu_ev (l : List Int) (hl : l.length ≤ 1000000000) : Ev (fun k => spec_l09Clusters.f k l) (clu l) := by
  unfold spec_l09Clusters.f
  have h := ev_loop (g := fun k i => spec_l09Clusters.l0 k l (clu (l.take i)) (i : Int)) (r := clu l) l.length ?_ ?_ l.length 0 (by omega) (by omega)
  · simpa [clu] using h
  · refine Ev.step (f := fun _ => some (clu l)) (fun k => ?_) (ev_some _)
    simp only [spec_l09Clusters.l0]; rw [if_neg (by omega), List.take_of_length_le (by omega)]
  · intro i hi
    have hb := clu_take_length l i
    refine ⟨1, fun k => ⟨?_, by omega⟩⟩
    simp only [spec_l09Clusters.l0]
    rw [if_pos (by omega), if_pos (by omega), rdn l i hi, wnext i (by omega), clu_take l i hi]
    by_cases c : l[i] ≥ 2
    · rw [if_pos c, if_pos c, if_pos (by omega)]
    · rw [if_neg c, if_neg c]
theorem impl_clu_ev (l : List Int) (hl : l.length ≤ 1000000000) : Ev (fun k => impl_clusters.f k l) (clu l) := by
  unfold impl_clusters.f
  have h := ev_loop (g := fun k i => impl_clusters.l0 k (clu (l.take i)) l (l.length : Int) (i : Int)) (r := clu l) l.length ?_ ?_ l.length 0 (by omega) (by omega)
  · simpa [clu] using h
  · refine Ev.step (f := fun _ => some (clu l)) (fun k => ?_) (ev_some _)
    simp only [impl_clusters.l0]; rw [if_neg (by omega), List.take_of_length_le (by omega)]
  · intro i hi
    have hb := clu_take_length l i
    refine ⟨1, fun k => ⟨?_, by omega⟩⟩
    simp only [impl_clusters.l0]
    rw [if_pos (by omega), if_pos (by omega), if_pos (by omega), rdn l i hi, wnext i (by omega), clu_take l i hi]
    by_cases c : l[i] ≥ 2
    · rw [if_pos c, if_pos c, if_pos (by omega)]
    · rw [if_neg c, if_neg c]
theorem ev_askE {β : Type} {g : Nat → Nat → Option β} (n : Nat) (P : Nat → Bool) (r bad : β) (hend : Ev (fun k => g k n) r) (hstep : ∀ i, i < n → ∀ b, Ev (fun k => g k (i + 1)) b → Ev (fun k => g k i) (if P i = true then b else bad)) : Ev (fun k => g k 0) (if (List.range n).all P = true then r else bad) := by
  have hgo : ∀ d i, i ≤ n → n - i = d → Ev (fun k => g k i) (if ((List.range n).drop i).all P = true then r else bad) := by
    intro d
    induction d with
    | zero =>
      intro i hi hd
      have e : i = n := by omega
      subst e
      rw [List.drop_of_length_le (by simp)]; simp only [List.all_nil, if_true]; exact hend
    | succ d ih =>
      intro i hi hd
      have hlt : i < (List.range n).length := by simp; omega
      have := hstep i (by omega) _ (ih (i + 1) (by omega) (by omega))
      rw [List.drop_eq_getElem_cons hlt, List.all_cons, List.getElem_range]
      cases hq : P i
      · rw [hq] at this; simpa using this
      · rw [hq] at this; simpa using this
  have := hgo n 0 (by omega) (by omega)
  rwa [List.drop_zero] at this
theorem clu_in {l : List Int} (h : tableOK l = true) : ∀ c ∈ clu l, 0 ≤ c ∧ c < 24 := by
  unfold tableOK at h
  simp only [Bool.and_eq_true, List.all_eq_true] at h
  intro c hc
  obtain ⟨x, hx, rfl⟩ := List.mem_map.1 hc
  obtain ⟨hx1, hx2⟩ := List.mem_filter.1 hx
  have := inB_iff.1 (h.2 x hx1)
  have h2 := of_decide_eq_true hx2
  rw [w64 (by omega) (by omega)]; omega
def bump (o : List Int) (c : Int) : List Int := o.set c.toNat (wrap64 (rd o c + 1))
def cnt (o : List Int) (cs : List Int) : List Int := cs.foldl bump o
def cntT (o : List Int) (ts : List (List Int)) : List Int := ts.foldl (fun o t => cnt o (clu t)) o
theorem cnt_length (o cs : List Int) : (cnt o cs).length = o.length := by
  unfold cnt
  induction cs generalizing o with
  | nil => rfl
  | cons c cs ih => rw [List.foldl_cons, ih]; simp [bump]
theorem cntT_length (o : List Int) (ts : List (List Int)) : (cntT o ts).length = o.length := by
  unfold cntT
  induction ts generalizing o with
  | nil => rfl
  | cons t ts ih => rw [List.foldl_cons, ih, cnt_length]
theorem cnt_take (o cs : List Int) (i : Nat) (h : i < cs.length) : cnt o (cs.take (i + 1)) = bump (cnt o (cs.take i)) cs[i] := by
  unfold cnt; rw [List.take_succ_eq_append_getElem h, List.foldl_append]; rfl
theorem cntT_take (o : List Int) (ts : List (List Int)) (i : Nat) (h : i < ts.length) : cntT o (ts.take (i + 1)) = cnt (cntT o (ts.take i)) (clu ts[i]) := by
  unfold cntT; rw [List.take_succ_eq_append_getElem h, List.foldl_append]; rfl
theorem rdL (ts : List (List Int)) (i : Nat) (h : i < ts.length) : rd_L3 ts (i : Int) = ts[i] := by simp [rd_L3, h]
/-- The tables of an image. -/
def tabs (T : List Int) (S : List S66) : List (List Int) := T :: S.map (·.f1)
def zeros24 : List Int := List.replicate 24 0
theorem impl_names_ev (R T : List Int) (S : List S66) (D : List Int) (hl : S.length ≤ 1000000000) : Ev (fun k => impl_Image_names.f k R T S D) (S.map (·.f0)) := by
  unfold impl_Image_names.f
  have h := ev_loop (g := fun k i => impl_Image_names.l0 k ((S.map (·.f0)).take i) S (S.length : Int) (i : Int)) (r := S.map (·.f0)) S.length ?_ ?_ S.length 0 (by omega) (by omega)
  · simpa using h
  · refine Ev.step (f := fun _ => some (S.map (·.f0))) (fun k => ?_) (ev_some _)
    simp only [impl_Image_names.l0]
    rw [if_neg (by omega), List.take_of_length_le (by simp)]
  · intro i hi
    refine ⟨1, fun k => ⟨?_, by omega⟩⟩
    simp only [impl_Image_names.l0]
    rw [if_pos (by omega), if_pos (by omega), if_pos (by omega), if_pos (by simp; omega), rdE_Snap S i hi, wnext i (by omega), List.take_succ_eq_append_getElem (by simpa using hi), List.getElem_map]
theorem impl_tables_ev (R T : List Int) (S : List S66) (D : List Int) (hl : S.length ≤ 1000000000) : Ev (fun k => impl_Image_tables.f k R T S D) (tabs T S) := by
  unfold impl_Image_tables.f
  have h := ev_loop (g := fun k i => impl_Image_tables.l0 k ((tabs T S).take (i + 1)) S (S.length : Int) (i : Int)) (r := tabs T S) S.length ?_ ?_ S.length 0 (by omega) (by omega)
  · exact h
  · refine Ev.step (f := fun _ => some (tabs T S)) (fun k => ?_) (ev_some _)
    simp only [impl_Image_tables.l0]
    rw [if_neg (by omega), List.take_of_length_le (by simp [tabs])]
  · intro i hi
    refine ⟨1, fun k => ⟨?_, by omega⟩⟩
    simp only [impl_Image_tables.l0]
    have hl2 : ((tabs T S).take (i + 1)).length ≤ 1000000001 := by rw [List.length_take]; omega
    rw [if_pos (by omega), if_pos (by omega), if_pos (by omega), if_pos (by omega), wnext i (by omega), rdE_Snap S i hi, List.take_succ_eq_append_getElem (i := i + 1) (by simp [tabs]; omega)]
    simp [tabs]
theorem impl_count_ev (R T : List Int) (S : List S66) (D : List Int) (hS : S.length ≤ 3) (ht : ∀ t ∈ tabs T S, tableOK t = true) : Ev (fun k => impl_Image_counted.f k R T S D) (cntT zeros24 (tabs T S)) := by
  unfold impl_Image_counted.f
  refine ev_pos (by omega) (ev_bind (impl_tables_ev R T S D (by omega)) ?_)
  have hlen : (tabs T S).length ≤ 4 := by simp [tabs]; omega
  have htab : ∀ t ∈ tabs T S, t.length ≤ 12 := fun t h => by
    have := ht t h
    unfold tableOK at this
    rw [Bool.and_eq_true] at this
    have := of_decide_eq_true this.1
    omega
  generalize tabs T S = ts at ht hlen htab
  refine ev_down (g := fun k i => impl_Image_counted.l0 k (cntT zeros24 (ts.take i)) ts (ts.length : Int) (i : Int)) ts.length ?_ ?_
  · refine Ev.step (f := fun _ => some (cntT zeros24 ts)) (fun k => ?_) (ev_some _)
    simp only [impl_Image_counted.l0]; rw [if_neg (by omega), List.take_of_length_le (by omega)]
  · intro i hi hr
    refine Ev.succ ?_
    simp only [impl_Image_counted.l0]
    have hm := List.getElem_mem hi
    refine ev_pos (by omega) (ev_pos (by omega) (ev_pos (by omega) ?_))
    rw [rdL ts i hi]
    refine ev_bind (impl_clu_ev _ (by have := htab _ hm; omega)) ?_
    have hc := clu_in (ht _ hm)
    have hcl : (clu ts[i]).length ≤ 12 := Nat.le_trans (clu_length _) (htab _ hm)
    rw [cntT_take _ _ _ hi] at hr
    have ho : (cntT zeros24 (ts.take i)).length = 24 := by rw [cntT_length]; rfl
    generalize clu ts[i] = cs at hc hcl hr
    generalize cntT zeros24 (ts.take i) = o at ho hr
    refine ev_down (g := fun k j => impl_Image_counted.l1 k (cnt o (cs.take j)) ts (ts.length : Int) (i : Int) cs (cs.length : Int) (j : Int)) cs.length ?_ ?_
    · refine Ev.step (f := fun k => impl_Image_counted.l0 k (cnt o cs) ts (ts.length : Int) ((i + 1 : Nat) : Int)) (fun k => ?_) hr
      simp only [impl_Image_counted.l1]; rw [if_neg (by omega), List.take_of_length_le (by omega), wnext i (by omega)]
    · intro j hj h2
      have hb := hc _ (List.getElem_mem hj)
      rw [cnt_take _ _ _ hj] at h2
      refine Ev.succ ?_
      simp only [impl_Image_counted.l1, rdn cs j hj]
      refine ev_pos (by omega) (ev_pos (by omega) (ev_pos (by omega) (ev_pos hb.1 (ev_pos (by rw [cnt_length]; omega) ?_))))
      rw [wnext j (by omega)]
      exact h2
theorem compact_full (zs : List (List UInt8)) : (Lib.compact zs).length = zs.length ↔ ∀ j, j < zs.length → Lib.keeps zs.toArray j = true := by
  unfold Lib.compact Lib.compactUpTo
  rw [List.length_map]
  constructor
  · intro h j hj
    have h2 : ((List.range zs.length).filter (Lib.keeps zs.toArray)).length = (List.range zs.length).length := by rw [h, List.length_range]
    exact (List.length_filter_eq_length_iff.1 h2) j (List.mem_range.2 hj)
  · intro h
    have : ((List.range zs.length).filter (Lib.keeps zs.toArray)).length = (List.range zs.length).length := List.length_filter_eq_length_iff.2 (fun j hj => h j (List.mem_range.1 hj))
    rw [this, List.length_range]
theorem sorted_nodup (ss : List (List UInt8)) : (Lib.compact (ss.mergeSort fun x y => decide (x ≤ y))).length = ss.length ↔ ss.Nodup := by
  have hp := List.mergeSort_perm ss (fun x y => decide (x ≤ y))
  have hs : (ss.mergeSort fun x y => decide (x ≤ y)).Pairwise (fun x y => decide (x ≤ y) = true) := List.pairwise_mergeSort (fun a b c h1 h2 => by
    simp only [decide_eq_true_eq] at *; exact List.le_trans h1 h2) (fun a b => by
    simp only [Bool.or_eq_true, decide_eq_true_eq]; exact List.le_total a b) ss
  rw [← hp.nodup_iff, ← hp.length_eq, compact_full]
  generalize (ss.mergeSort fun x y => decide (x ≤ y)) = s at hs
  have hle : ∀ i j (hi : i < j) (hj : j < s.length), s[i] ≤ s[j] := fun i j hi hj => by
    have := List.pairwise_iff_getElem.1 hs i j (by omega) hj hi
    simpa using this
  constructor
  · intro h
    rw [List.nodup_iff_pairwise_ne, List.pairwise_iff_getElem]
    intro i j hi hj hij e
    have h1 := h (i + 1) (by omega)
    have h2 : s[i]'hi = s[i + 1]'(by omega) := by
      refine List.le_antisymm (hle i (i + 1) (by omega) (by omega)) ?_
      by_cases c : i + 1 = j
      · subst c; rw [e]; exact List.le_refl _
      · rw [e]; exact hle (i + 1) j (by omega) hj
    simp [Lib.keeps, h2, show i + 1 < s.length by omega, show i < s.length from hi] at h1
  · intro h j hj
    by_cases c : j = 0
    · subst c; simp [Lib.keeps]
    · have hne : s[j]'hj ≠ s[j - 1]'(by omega) := by
        intro e
        have := List.pairwise_iff_getElem.1 (List.nodup_iff_pairwise_ne.1 h) (j - 1) j (by omega) hj (by omega)
        exact this e.symm
      simp [Lib.keeps, hj, show j - 1 < s.length by omega, hne]
def nmOK (t : ByteArray) : Bool := (List.range t.size).all (fun i => inB (bt t (i : Int)) 97 122) && inB (t.size : Int) 1 6
theorem spec_Name_ev (t : ByteArray) (ht : t.size ≤ 1000000000) : Ev (fun k => spec_l10Name.f k t) (nmOK t) := by
  unfold spec_l10Name.f nmOK
  refine ev_all (g := fun k i => spec_l10Name.l0 k t (i : Int)) (List.range t.size) (fun i => inB (bt t (i : Int)) 97 122) _ ?_ ?_
  · refine Ev.step (f := fun _ => some (inB (t.size : Int) 1 6)) (fun k => ?_) (ev_some _)
    simp only [spec_l10Name.l0, l01In_eq, Option.bind_some, List.length_range]; rw [if_neg (by omega)]
  · intro i hi k
    rw [List.length_range] at hi
    simp only [spec_l10Name.l0, List.getElem_range]
    rw [if_pos (by omega), if_pos (by omega), wnext i (by omega)]
    unfold inB
    by_cases h1 : bt t (i : Int) < 97
    · rw [if_pos h1, if_neg (by simp; omega)]
    · rw [if_neg h1]
      by_cases h2 : bt t (i : Int) > 122
      · rw [if_pos h2, if_neg (by simp; omega)]
      · rw [if_neg h2, if_pos (by simp; omega)]
theorem impl_Name_ev (t : ByteArray) (ht : t.size ≤ 1000000000) : Ev (fun k => impl_snapNameOK.f k t) (nmOK t) := by
  unfold impl_snapNameOK.f nmOK
  refine ev_all (g := fun k i => impl_snapNameOK.l0 k t (t.size : Int) (i : Int)) (List.range t.size) (fun i => inB (bt t (i : Int)) 97 122) _ ?_ ?_
  · refine Ev.step (f := fun _ => some (inB (t.size : Int) 1 6)) (fun k => ?_) (ev_some _)
    simp only [impl_snapNameOK.l0, within_eq, Option.bind_some, List.length_range]; rw [if_neg (by omega)]
  · intro i hi k
    rw [List.length_range] at hi
    simp only [impl_snapNameOK.l0, List.getElem_range]
    rw [if_pos (by omega), if_pos (by omega), if_pos (by omega), wnext i (by omega)]
    unfold inB
    by_cases h1 : bt t (i : Int) < 97
    · rw [if_pos h1, if_neg (by simp; omega)]
    · rw [if_neg h1]
      by_cases h2 : bt t (i : Int) > 122
      · rw [if_pos h2, if_neg (by simp; omega)]
      · rw [if_neg h2, if_pos (by simp; omega)]
theorem ev_allO {α : Type} (p : Nat → α → Option Bool) (q : α → Bool) : ∀ l : List α, (∀ x ∈ l, Ev (fun k => p k x) (q x)) → Ev (fun k => allO (p k) l) (l.all q) := by
  intro l
  induction l with
  | nil => intro _; exact ev_some true
  | cons x xs ih =>
    intro h
    have hx := h x (by simp); have hxs := ih (fun y hy => h y (by simp [hy]))
    simp only [allO, List.all_cons]
    refine ev_bind hx ?_
    cases q x
    · exact ev_neg (by decide) (ev_some _)
    · exact ev_pos rfl (by simpa using hxs)
def namesOK (l : List ByteArray) : Bool := decide ((l.length : Int) ≤ 3) && (l.all nmOK && decide l.Nodup)
theorem areNames_ev (l : List ByteArray) (hl : l.length ≤ 1000000000) (hs : ∀ x ∈ l, x.size ≤ 1000000000) : Ev (fun k => impl_areNames.f k l) (namesOK l) := by
  unfold impl_areNames.f namesOK
  refine ev_pos (by omega) ?_
  by_cases h3 : (l.length : Int) ≤ 3
  · rw [decide_eq_true h3, Bool.true_and]
    refine ev_pos h3 (ev_bind (a := l.all nmOK) (by unfold all55_impl_snapNameOK.f; exact ev_allO _ _ l (fun x hx => impl_Name_ev x (hs x hx))) ?_)
    cases l.all nmOK
    · exact ev_neg (by decide) (ev_some _)
    · refine ev_pos rfl ?_
      have e : (((Lib.compact (impl_areNames_sorted l)).length : Int) == (l.length : Int)) = decide l.Nodup := by
        rw [Bool.eq_iff_iff, beq_iff_eq, decide_eq_true_eq]
        have hn : (l.map (·.data.toList)).Nodup ↔ l.Nodup := by
          have ht : ∀ a b : ByteArray, a.data.toList ≠ b.data.toList ↔ a ≠ b := fun a b => by
            constructor
            · intro h e; exact h (by rw [e])
            · intro h e; exact h (by cases a; cases b; simpa [Array.toList_inj] using e)
          unfold List.Nodup
          rw [List.pairwise_map]
          simp only [ht]
        rw [← hn, ← sorted_nodup (l.map (·.data.toList)), List.length_map]
        unfold impl_areNames_sorted
        exact Int.ofNat_inj
      rw [e, Bool.true_and]; exact ev_some _
  · rw [decide_eq_false h3, Bool.false_and]
    exact ev_neg h3 (ev_some _)
def refsOK (l : List Int) : Bool := l.all (fun n => inB n 0 15) && ((l.length : Int) == 24)
theorem impl_RefsOK_eq (l : List Int) : impl_RefsOK.f l = some (refsOK l) := by
  have ha : all40_impl_RefsOK_1.f l () = some (l.all (fun n => inB n 0 15)) := by
    unfold all40_impl_RefsOK_1.f; exact allO_some _ _ (fun x _ => by simp only [impl_RefsOK_1.f, within_eq, Option.bind_some])
  unfold impl_RefsOK.f refsOK
  by_cases h : (l.length : Int) = 24
  · rw [if_pos h, ha, show ((l.length : Int) == 24) = true from beq_iff_eq.2 h, Bool.and_true]; rfl
  · rw [if_neg h, show ((l.length : Int) == 24) = false from beq_eq_false_iff_ne.2 h, Bool.and_false]
theorem refs_len {l : List Int} (h : refsOK l = true) : l.length = 24 := by
  unfold refsOK at h; rw [Bool.and_eq_true, beq_iff_eq] at h; omega
theorem impl_once_ev (l : List Int) (hl : l.length ≤ 1000000000) : Ev (fun k => impl_once.f k l) (decide (clu l).Nodup) := by
  unfold impl_once.f
  refine ev_bind (impl_clu_ev l hl) ?_
  have ht := clu_length l
  generalize clu l = t at ht
  refine ev_pos (by omega) ?_
  have e : (((Lib.compact (impl_once_sorted t)).length : Int) == (t.length : Int)) = decide t.Nodup := by
    rw [Bool.eq_iff_iff, beq_iff_eq, decide_eq_true_eq, ← sortedI_nodup t]
    unfold impl_once_sorted
    exact Int.ofNat_inj
  rw [e]; exact ev_some _
def once (l : List Int) : Bool := decide (clu l).Nodup
def isNum (n : Int) : Bool := inB n 0 2147483647
def near (R T : List Int) (S : List S66) (D : List Int) : Bool := refsOK R && (decide ((S.length : Int) ≤ 3) && (namesOK (S.map (·.f0)) && ((tabs T S).all (fun l => tableOK l && once l) && (((D.length : Int) == 24) && D.all isNum))))
theorem impl_near_ev (R T : List Int) (S : List S66) (D : List Int) (hT : T.length ≤ 1000000000) (hS : S.length ≤ 1000000000) (hs : ∀ x ∈ S, x.f0.size ≤ 1000000000 ∧ x.f1.length ≤ 1000000000) :
    Ev (fun k => impl_Image_nearlyOK.f k R T S D) (near R T S D) := by
  have hD : all40_impl_isNumber.f D () = some (D.all isNum) := by unfold all40_impl_isNumber.f; exact allO_some _ _ (fun x _ => by simp only [impl_isNumber.f, within_eq, Option.bind_some]; rfl)
  have hts : ∀ l ∈ tabs T S, l.length ≤ 1000000000 := by
    intro l hl
    simp only [tabs, List.mem_cons, List.mem_map] at hl
    rcases hl with rfl | ⟨x, hx, rfl⟩
    · exact hT
    · exact (hs x hx).2
  unfold impl_Image_nearlyOK.f near
  simp only [impl_RefsOK_eq, Option.bind_some, hD]
  cases refsOK R
  · exact ev_neg (by decide) (ev_some _)
  · refine ev_pos rfl ?_
    by_cases h3 : (S.length : Int) ≤ 3
    · rw [decide_eq_true h3]
      refine ev_pos h3 (ev_bind (impl_names_ev R T S D hS) (ev_bind (areNames_ev _ (by simpa using hS) (fun x hx => by
        obtain ⟨y, hy, rfl⟩ := List.mem_map.1 hx; exact (hs y hy).1)) ?_))
      simp only [Bool.true_and]
      cases namesOK (S.map (·.f0))
      · exact ev_neg (by decide) (ev_some _)
      · refine ev_pos rfl (ev_bind (impl_tables_ev R T S D hS) (ev_bind (a := (tabs T S).all (fun l => tableOK l && once l)) (by
          unfold all35_impl_Image_nearlyOK_1.f
          refine ev_allO _ _ _ (fun l hl => ?_)
          simp only [impl_Image_nearlyOK_1.f, impl_TableOK_eq, Option.bind_some]
          cases tableOK l
          · exact ev_neg (by decide) (ev_some _)
          · exact ev_pos rfl (ev_bind (impl_once_ev l (hts l hl)) (ev_some _))) ?_))
        simp only [Bool.true_and]
        cases (tabs T S).all (fun l => tableOK l && once l)
        · exact ev_neg (by decide) (ev_some _)
        · refine ev_pos rfl ?_
          by_cases h24 : (D.length : Int) = 24
          · rw [show ((D.length : Int) == 24) = true from beq_iff_eq.2 h24]
            exact ev_pos h24 (ev_some _)
          · rw [show ((D.length : Int) == 24) = false from beq_eq_false_iff_ne.2 h24]
            exact ev_neg h24 (ev_some _)
    · rw [decide_eq_false h3]; exact ev_neg h3 (ev_some _)
theorem near_tabs {R T : List Int} {S : List S66} {D : List Int} (h : near R T S D = true) : R.length = 24 ∧ S.length ≤ 3 ∧ (∀ t ∈ tabs T S, tableOK t = true) ∧ D.length = 24 := by
  unfold near at h
  simp only [Bool.and_eq_true, List.all_eq_true, decide_eq_true_eq, beq_iff_eq] at h
  obtain ⟨h1, h2, _, h4, h5, _⟩ := h
  exact ⟨refs_len h1, by omega, fun t ht => (h4 t ht).1, by omega⟩
/-- How many tables have each cluster. -/
def counts (T : List Int) (S : List S66) : List Int := cntT zeros24 (tabs T S)
theorem counts_length (T : List Int) (S : List S66) : (counts T S).length = 24 := by unfold counts; rw [cntT_length]; rfl
def zeroD (R D : List Int) : Bool := (List.range 24).all (fun i => if rd R (i : Int) = 0 then decide (rd D (i : Int) = 0) else true)
def imgOK (R T : List Int) (S : List S66) (D : List Int) : Bool := near R T S D && (decide (R = counts T S) && zeroD R D)
theorem equal_ev (a b : List Int) (ha : a.length = 24) (hb : b.length = 24) : Ev (fun k => slices_Equal_int_int.f k a b) (decide (a = b)) := by
  unfold slices_Equal_int_int.f
  refine ev_pos (by omega) ?_
  have h := ev_askE (g := fun k i => slices_Equal_int_int.l0 k a b (a.length : Int) (i : Int)) 24 (fun i => decide (rd a (i : Int) = rd b (i : Int))) true false ?_ ?_
  · have e : (if (List.range 24).all (fun i => decide (rd a (i : Int) = rd b (i : Int))) = true then true else false) = decide (a = b) := by
      rw [Bool.eq_iff_iff]
      simp only [Bool.if_false_right, Bool.and_true, decide_eq_true_eq, List.all_eq_true, List.mem_range]
      constructor
      · intro h
        refine List.ext_getElem (by omega) (fun i h1 h2 => ?_)
        have := h i (by omega)
        rwa [rdn a i h1, rdn b i h2] at this
      · rintro rfl i hi; rfl
    rw [e] at h; exact h
  · refine Ev.step (f := fun _ => some true) (fun k => ?_) (ev_some _)
    simp only [slices_Equal_int_int.l0]; rw [if_neg (by omega)]
  · intro i hi r hr
    refine Ev.succ ?_
    simp only [slices_Equal_int_int.l0]
    refine ev_pos (by omega) (ev_pos (by omega) (ev_pos (by omega) (ev_pos (by omega) ?_)))
    rw [wnext i (by omega)]
    by_cases c : rd a (i : Int) = rd b (i : Int)
    · simp only [c]; simpa using hr
    · simp only [c]; simpa using ev_some false
theorem impl_ImageOK_ev (R T : List Int) (S : List S66) (D : List Int) (hT : T.length ≤ 1000000000) (hS : S.length ≤ 1000000000) (hs : ∀ x ∈ S, x.f0.size ≤ 1000000000 ∧ x.f1.length ≤ 1000000000) :
    Ev (fun k => impl_ImageOK.f k R T S D) (imgOK R T S D) := by
  unfold impl_ImageOK.f imgOK
  refine ev_bind (impl_near_ev R T S D hT hS hs) ?_
  cases hn : near R T S D
  · refine ev_neg (by decide) (Ev.succ ?_)
    simp only [impl_ImageOK.j0, if_true, Bool.false_and]; exact ev_some _
  · obtain ⟨n1, n2, n3, n4⟩ := near_tabs hn
    refine ev_pos rfl (ev_bind (impl_count_ev R T S D n2 n3) (ev_bind (equal_ev R _ n1 (counts_length T S)) (Ev.succ ?_)))
    show Ev (fun k => impl_ImageOK.j0 (k + 1) (!decide (R = counts T S)) R T S D) _
    simp only [impl_ImageOK.j0, Bool.true_and]
    cases decide (R = counts T S)
    · exact ev_pos rfl (ev_some _)
    · refine ev_neg (by decide) ?_
      rw [Bool.true_and]
      have h := ev_askE (g := fun k i => impl_ImageOK.l0 k D (D.length : Int) (i : Int) R T S D) 24 (fun i => if rd R (i : Int) = 0 then decide (rd D (i : Int) = 0) else true) true false ?_ ?_
      · have e : (if (List.range 24).all (fun i => if rd R (i : Int) = 0 then decide (rd D (i : Int) = 0) else true) = true then true else false) = zeroD R D := by
          unfold zeroD
          cases (List.range 24).all (fun i => if rd R (i : Int) = 0 then decide (rd D (i : Int) = 0) else true) <;> rfl
        rw [e] at h; exact h
      · refine Ev.step (f := fun _ => some true) (fun k => ?_) (ev_some _)
        simp only [impl_ImageOK.l0]; rw [if_neg (by omega)]
      · intro i hi b hb
        refine Ev.succ ?_
        simp only [impl_ImageOK.l0]
        refine ev_pos (by omega) (ev_pos (by omega) (ev_pos (by omega) (ev_pos (by omega) ?_)))
        rw [wnext i (by omega)]
        by_cases c2 : rd R (i : Int) = 0
        · by_cases c3 : rd D (i : Int) = 0
          · simp only [c2, c3]; simpa using hb
          · simp only [c2, c3]; simpa using ev_some false
        · simp only [c2]; simpa using hb
def srcOK (at_ seed : Int) (n : Nat) : Prop := 0 ≤ at_ ∧ at_ ≤ (n : Int) ∧ 0 ≤ seed ∧ seed < 2147483648
theorem rd_byte (l : List Int) (h : ∀ x ∈ l, 0 ≤ x ∧ x ≤ 255) (i : Int) : 0 ≤ rd l i ∧ rd l i ≤ 255 := by
  unfold rd
  by_cases hi : i.toNat < l.length
  · have : l.getD i.toNat 0 = l[i.toNat] := by simp [hi]
    rw [this]; exact h _ (List.getElem_mem hi)
  · have : l.getD i.toNat 0 = 0 := by simp [hi]
    rw [this]; omega
theorem byte_ok (l : List Int) (h : ∀ x ∈ l, 0 ≤ x ∧ x ≤ 255) (at_ seed : Int) (n : Nat) (hs : srcOK at_ seed n) (hn : n ≤ 1000000000000) :
    ∃ r a s, spec_l00Src_byte.f l at_ seed = some (r, a, s) ∧ 0 ≤ r ∧ r ≤ 255 ∧ srcOK a s (n + 1) := by
  obtain ⟨h0, h1, h2, h3⟩ := hs
  unfold spec_l00Src_byte.f
  have e1 : wrap64 (at_ + 1) = at_ + 1 := w64 (by omega) (by omega)
  have e2 : wrap64 (at_ + 1 - 1) = at_ := by rw [w64 (by omega) (by omega)]; omega
  rw [e1, e2]
  by_cases c1 : at_ + 1 ≤ (l.length : Int)
  · rw [if_pos c1, if_pos h0, if_pos (by omega)]
    have hb := rd_byte l h at_
    generalize rd l at_ = v at hb ⊢
    have e3 : wrap64 v = v := w64 (by omega) (by omega)
    have e4 : wrap64 (seed * 31) = seed * 31 := w64 (by omega) (by omega)
    rw [e3, e4]
    have e5 : wrap64 (seed * 31 + v) = seed * 31 + v := w64 (by omega) (by omega)
    rw [e5]
    have e6 : wrap64 (seed * 31 + v + 7) = seed * 31 + v + 7 := w64 (by omega) (by omega)
    rw [e6]
    refine ⟨_, _, _, rfl, hb.1, hb.2, by omega, by omega, ?_, ?_⟩
    · rw [Int.tmod_eq_emod_of_nonneg (by omega)]; omega
    · rw [Int.tmod_eq_emod_of_nonneg (by omega)]; omega
  · rw [if_neg c1]
    by_cases c2 : at_ + 1 > 3000
    · rw [if_pos c2]; exact ⟨_, _, _, rfl, by omega, by omega, by omega, by omega, h2, h3⟩
    · rw [if_neg c2]
      have e4 : wrap64 (seed * 1103515245) = seed * 1103515245 := w64 (by omega) (by omega)
      rw [e4]
      have e6 : wrap64 (seed * 1103515245 + 12345) = seed * 1103515245 + 12345 := w64 (by omega) (by omega)
      rw [e6, Int.tmod_eq_emod_of_nonneg (by omega : 0 ≤ seed * 1103515245 + 12345)]
      have hq0 : 0 ≤ (seed * 1103515245 + 12345) % 2147483648 := by omega
      have hq1 : (seed * 1103515245 + 12345) % 2147483648 < 2147483648 := by omega
      generalize (seed * 1103515245 + 12345) % 2147483648 = q at hq0 hq1 ⊢
      rw [Int.tdiv_eq_ediv_of_nonneg hq0]
      have e7 : wrap64 (q / 65536) = q / 65536 := w64 (by omega) (by omega)
      rw [e7, Int.tmod_eq_emod_of_nonneg (by omega)]
      exact ⟨_, _, _, rfl, by omega, by omega, by omega, by omega, hq0, hq1⟩
theorem srcOK_mono {a s : Int} {n m : Nat} (h : srcOK a s n) (hm : n ≤ m) : srcOK a s m := ⟨h.1, by have := h.2.1; omega, h.2.2.1, h.2.2.2⟩
theorem tmod_range {x n : Int} (h0 : 0 ≤ x) (hn : 0 < n) : 0 ≤ Int.tmod x n ∧ Int.tmod x n < n := by
  rw [Int.tmod_eq_emod_of_nonneg h0]; exact ⟨Int.emod_nonneg _ (by omega), Int.emod_lt_of_pos _ hn⟩
theorem next_ok (l : List Int) (h : ∀ x ∈ l, 0 ≤ x ∧ x ≤ 255) (at_ seed : Int) (n : Nat) (hs : srcOK at_ seed n) (hn : n ≤ 100000000000) (m : Int) :
    ∃ r a s, spec_l00Src_next.f l at_ seed m = some (r, a, s) ∧ 0 ≤ r ∧ (m ≤ 1 → r = 0) ∧ (1 ≤ m → r < m) ∧ srcOK a s (n + 3) := by
  unfold spec_l00Src_next.f
  by_cases c1 : m ≤ 1
  · rw [if_pos c1]; exact ⟨_, _, _, rfl, by omega, fun _ => rfl, fun _ => by omega, srcOK_mono hs (by omega)⟩
  · rw [if_neg c1]
    obtain ⟨r, a, s, e, r0, r1, ho⟩ := byte_ok l h at_ seed n hs (by omega)
    by_cases c2 : m ≤ 256
    · rw [if_pos c2, e, Option.bind_some, if_neg (by omega)]
      have := tmod_range r0 (show 0 < m by omega)
      exact ⟨_, _, _, rfl, this.1, fun h => absurd h c1, fun _ => this.2, srcOK_mono ho (by omega)⟩
    · rw [if_neg c2, e, Option.bind_some]
      obtain ⟨r', a', s', e', r0', r1', ho'⟩ := byte_ok l h a s (n + 1) ho (by omega)
      rw [e', Option.bind_some]
      obtain ⟨r'', a'', s'', e'', r0'', r1'', ho''⟩ := byte_ok l h a' s' (n + 2) ho' (by omega)
      rw [e'', Option.bind_some, if_neg (by omega)]
      dsimp only
      have x1 : wrap64 (r * 65536) = r * 65536 := w64 (by omega) (by omega)
      have x2 : wrap64 (r' * 256) = r' * 256 := w64 (by omega) (by omega)
      rw [x1, x2]
      have x3 : wrap64 (r * 65536 + r' * 256) = r * 65536 + r' * 256 := w64 (by omega) (by omega)
      rw [x3]
      have x4 : wrap64 (r * 65536 + r' * 256 + r'') = r * 65536 + r' * 256 + r'' := w64 (by omega) (by omega)
      rw [x4]
      have := tmod_range (show 0 ≤ r * 65536 + r' * 256 + r'' by omega) (show 0 < m by omega)
      exact ⟨_, _, _, rfl, this.1, fun h => absurd h c1, fun _ => this.2, ho''⟩
theorem source_ok (l : List Int) : srcOK 0 ((l.length : Int) % 1000) 0 := ⟨by omega, by omega, by omega, by omega⟩
theorem bytes_of {l : List Int} (h : ∀ x ∈ l, (Lit.int .u8 x).wf = true) : ∀ x ∈ l, 0 ≤ x ∧ x ≤ 255 := by
  intro x hx
  have := h x hx
  simp [Lit.wf, IntKind.min, IntKind.max, IntKind.signed, IntKind.bits] at this
  omega
theorem table_of {l : List Int} (hl : l.length ≤ 12) (hx : ∀ x ∈ l, 0 ≤ x ∧ x ≤ 25) : tableOK l = true := by
  unfold tableOK
  rw [decide_eq_true (by omega), Bool.true_and, List.all_eq_true]
  exact fun x hm => inB_iff.2 (hx x hm)
def oc (t : List Int) (c : Nat) : Nat := t.count ((c : Int) + 2)
def toc (T : List Int) (S : List S66) (c : Nat) : Nat := oc T c + (S.map (fun x => oc x.f1 c)).sum
structure Wt (w : Nat → Nat) (R D : List Int) : Prop where
  r : R.length = 24
  d : D.length = 24
  c : ∀ c : Nat, c < 24 → rd R (c : Int) = (w c : Int)
  z : ∀ c : Nat, c < 24 → w c = 0 → rd D (c : Int) = 0
  n : ∀ x ∈ D, isNum x = true
  b : ∀ c, c < 24 → w c ≤ 100
structure Good (t : List Int) : Prop where
  l : t.length ≤ 12
  e : ∀ x ∈ t, 0 ≤ x ∧ x ≤ 25
  o : ∀ c, c < 24 → oc t c ≤ 1
structure Rt (R T : List Int) (S : List S66) (D : List Int) : Prop where
  w : Wt (toc T S) R D
  t : Good T
  s : ∀ x ∈ S, Good x.f1 ∧ nmOK x.f0 = true ∧ x.f0.size ≤ 6
  l : S.length ≤ 3
  u : (S.map (·.f0)).Nodup
theorem Wt.congr {w w' : Nat → Nat} {R D : List Int} (h : Wt w R D) (hw : ∀ c, c < 24 → w' c = w c) : Wt w' R D :=
  ⟨h.r, h.d, fun c hc => by rw [hw c hc]; exact h.c c hc, fun c hc h0 => h.z c hc (by rw [← hw c hc]; exact h0), h.n, fun c hc => by rw [hw c hc]; exact h.b c hc⟩
theorem rd_set (l : List Int) (i c : Nat) (x : Int) (hi : i < l.length) : rd (l.set i x) (c : Int) = if i = c then x else rd l (c : Int) := by
  unfold rd
  simp only [Int.toNat_natCast, List.getD_eq_getElem?_getD, List.getElem?_set]
  by_cases h : i = c
  · subst h; simp [hi]
  · simp [h]
theorem num_set {D : List Int} {i : Nat} {x : Int} (h : ∀ y ∈ D, isNum y = true) (hx : isNum x = true) : ∀ y ∈ D.set i x, isNum y = true := by
  intro y hy
  rcases List.mem_or_eq_of_mem_set hy with hy | rfl
  · exact h y hy
  · exact hx
theorem drop_ok {w : Nat → Nat} {R D : List Int} (T : List Int) (S : List S66) (h : Wt w R D) (e : Int) (h0 : 0 ≤ e) (h1 : e ≤ 25) (hw : ∀ c : Nat, c < 24 → e = (c : Int) + 2 → 1 ≤ w c) :
    ∃ R' D', spec_l10Drop.f R T S D e = some (R', T, S, D') ∧ Wt (fun c => w c - if e = (c : Int) + 2 then 1 else 0) R' D' := by
  have hr := h.r; have hd := h.d
  unfold spec_l10Drop.f
  by_cases c2 : e < 2
  · rw [if_pos c2]
    refine ⟨R, D, rfl, h.congr fun c _ => ?_⟩
    rw [if_neg (by omega)]; rfl
  · rw [if_neg c2]
    obtain ⟨c, rfl⟩ : ∃ c : Nat, e = (c : Int) + 2 := ⟨(e - 2).toNat, by omega⟩
    have hc : c < 24 := by omega
    have hw1 := hw c hc rfl; have hb := h.b c hc
    have ew : wrap64 ((c : Int) + 2 - 2) = (c : Int) := by rw [w64 (by omega) (by omega)]; omega
    simp only [ew]
    rw [if_pos (by omega), if_pos (by omega), h.c c hc, w64 (n := (w c : Int) - 1) (by omega) (by omega), Option.bind_some, Int.toNat_natCast, rd_set R c c _ (by omega), if_pos rfl]
    have hW : ∀ x : Nat, x < 24 → rd (R.set c ((w c : Int) - 1)) (x : Int) = ((w x - if (c : Int) + 2 = (x : Int) + 2 then 1 else 0 : Nat) : Int) := by
      intro x hx
      rw [rd_set R c x _ (by omega)]
      by_cases hcx : c = x
      · subst hcx; rw [if_pos rfl, if_pos rfl]; omega
      · rw [if_neg hcx, if_neg (by omega), h.c x hx]; rfl
    by_cases c0 : (w c : Int) - 1 = 0
    · rw [if_pos c0, if_pos (by omega)]
      refine ⟨_, _, rfl, by simp [hr], by simp [hd], hW, ?_, num_set h.n (by decide), fun x hx => Nat.le_trans (Nat.sub_le _ _) (h.b x hx)⟩
      intro x hx hz
      rw [rd_set D c x _ (by omega)]
      by_cases hcx : c = x
      · rw [if_pos hcx]
      · rw [if_neg hcx]
        rw [if_neg (by omega)] at hz
        exact h.z x hx hz
    · rw [if_neg c0]
      refine ⟨_, _, rfl, by simp [hr], hd, hW, ?_, h.n, fun x hx => Nat.le_trans (Nat.sub_le _ _) (h.b x hx)⟩
      intro x hx hz
      by_cases hcx : c = x
      · subst hcx; rw [if_pos rfl] at hz; omega
      · rw [if_neg (by omega)] at hz
        exact h.z x hx hz
theorem oc_cons (x : Int) (t : List Int) (c : Nat) : oc (x :: t) c = oc t c + if x = (c : Int) + 2 then 1 else 0 := by
  unfold oc
  rw [List.count_cons]
  simp only [beq_iff_eq]
theorem drops_ok (T : List Int) (S : List S66) (t : List Int) (ht : ∀ x ∈ t, 0 ≤ x ∧ x ≤ 25) {β : Type} (g : Nat → Nat → List Int → List Int → Option β)
    (hg : ∀ i (hi : i < t.length) k R D R' D', spec_l10Drop.f R T S D t[i] = some (R', T, S, D') → g (k + 1) i R D = g k (i + 1) R' D') :
    ∀ d i (w : Nat → Nat) R D, i ≤ t.length → t.length - i = d → Wt w R D → (∀ c, c < 24 → oc (t.drop i) c ≤ w c) →
    ∃ R' D', Wt (fun c => w c - oc (t.drop i) c) R' D' ∧ ∀ r, Ev (fun k => g k t.length R' D') r → Ev (fun k => g k i R D) r := by
  intro d
  induction d with
  | zero =>
    intro i w R D hi hd h hw
    have e : i = t.length := by omega
    subst e
    refine ⟨R, D, h.congr fun c _ => ?_, fun r hr => hr⟩
    rw [List.drop_length]; rfl
  | succ d ih =>
    intro i w R D hi hd h hw
    have hlt : i < t.length := by omega
    have hx := ht _ (List.getElem_mem hlt)
    rw [List.drop_eq_getElem_cons hlt] at hw
    simp only [oc_cons] at hw
    obtain ⟨R1, D1, e1, h1⟩ := drop_ok T S h t[i] hx.1 hx.2 (fun c hc he => by have := hw c hc; rw [if_pos he] at this; omega)
    obtain ⟨R2, D2, h2, k2⟩ := ih (i + 1) _ R1 D1 (by omega) (by omega) h1 (fun c hc => by have := hw c hc; omega)
    refine ⟨R2, D2, h2.congr fun c _ => ?_, fun r hr => Ev.step (f := fun k => g k (i + 1) R1 D1) (fun k => hg i hlt k R D R1 D1 e1) (k2 r hr)⟩
    rw [List.drop_eq_getElem_cons hlt, oc_cons]
    omega
theorem clu_count (t : List Int) (ht : ∀ x ∈ t, 0 ≤ x ∧ x ≤ 25) (c : Nat) : (clu t).count (c : Int) = oc t c := by
  induction t with
  | nil => rfl
  | cons x t ih =>
    have hx := ht x (by simp); have ih := ih (fun y hy => ht y (by simp [hy]))
    rw [oc_cons, ← ih]
    unfold clu
    by_cases c2 : x ≥ 2
    · rw [List.filter_cons_of_pos (by simpa using c2), List.map_cons, List.count_cons, w64 (n := x - 2) (by omega) (by omega)]
      congr 1
      by_cases e : x = (c : Int) + 2
      · rw [if_pos e, if_pos (by simp; omega)]
      · rw [if_neg e, if_neg (by simp; omega)]
    · rw [List.filter_cons_of_neg (by simpa using c2), if_neg (by omega)]; rfl
theorem rd_cnt : ∀ (cs o : List Int), o.length = 24 → (∀ x ∈ cs, 0 ≤ x ∧ x < 24) → (∀ c : Nat, c < 24 → 0 ≤ rd o (c : Int) ∧ rd o (c : Int) + (cs.count (c : Int) : Int) ≤ 1000000) → ∀ c : Nat, c < 24 → rd (cnt o cs) (c : Int) = rd o (c : Int) + (cs.count (c : Int) : Int) := by
  intro cs
  induction cs with
  | nil => intro o _ _ _ c _; show rd o (c : Int) = _; simp
  | cons x cs ih =>
    intro o ho hx hb c hc
    obtain ⟨h0, h1⟩ := hx x (by simp)
    obtain ⟨j, rfl⟩ : ∃ j : Nat, x = (j : Int) := ⟨x.toNat, by omega⟩
    have hj : j < 24 := by omega
    have hbj := hb j hj
    have e1 : bump o (j : Int) = o.set j (rd o (j : Int) + 1) := by unfold bump; rw [w64 (by omega) (by omega), Int.toNat_natCast]
    have hs : ∀ y : Nat, y < 24 → rd (bump o (j : Int)) (y : Int) = rd o (y : Int) + if j = y then 1 else 0 := by
      intro y hy
      rw [e1, rd_set o j y _ (by omega)]
      by_cases hjy : j = y
      · subst hjy; rw [if_pos rfl, if_pos rfl]
      · rw [if_neg hjy, if_neg hjy]; omega
    have hcc : ∀ y : Nat, (((j : Int) :: cs).count (y : Int) : Int) = (cs.count (y : Int) : Int) + if j = y then 1 else 0 := by
      intro y
      rw [List.count_cons]
      by_cases hjy : j = y
      · subst hjy; simp
      · rw [if_neg (by simp; omega), if_neg hjy]; simp
    have := ih (bump o (j : Int)) (by rw [e1]; simpa using ho) (fun y hy => hx y (by simp [hy])) (fun y hy => by
      have h2 := hb y hy
      rw [hcc] at h2
      rw [hs y hy]
      by_cases hjy : j = y
      · rw [if_pos hjy] at h2 ⊢; omega
      · rw [if_neg hjy] at h2 ⊢; omega) c hc
    show rd (cnt (bump o (j : Int)) cs) (c : Int) = _
    rw [this, hs c hc, hcc]
    omega
theorem raise_ok {w : Nat → Nat} {R D : List Int} (T : List Int) (S : List S66) (h : Wt w R D) (t : List Int) (hl : t.length ≤ 12) (ht : ∀ x ∈ t, 0 ≤ x ∧ x ≤ 25) (hw : ∀ c, c < 24 → w c + oc t c ≤ 100) :
    ∃ R', Ev (fun k => spec_l10Raise.f k R T S D t) (R', T, S, D) ∧ Wt (fun c => w c + oc t c) R' D := by
  have hr := h.r
  have htab : tableOK t = true := table_of hl ht
  have hci := clu_in htab; have hcl := clu_length t
  have hcc : ∀ c : Nat, (clu t).count (c : Int) = oc t c := clu_count t ht
  have hcnt := rd_cnt (clu t) R hr hci (fun c hc => by rw [h.c c hc, hcc]; have := hw c hc; omega)
  refine ⟨cnt R (clu t), ?_, by rw [cnt_length]; exact hr, h.d, fun c hc => by rw [hcnt c hc, h.c c hc, hcc]; omega, fun c hc h0 => h.z c hc (by omega), h.n, hw⟩
  unfold spec_l10Raise.f
  refine ev_bind (spec_clu_ev t (by omega)) ?_
  generalize clu t = cs at hci hcl
  refine ev_down (g := fun k j => spec_l10Raise.l0 k cs (j : Int) (cnt R (cs.take j)) T S D) cs.length ?_ ?_
  · refine Ev.step (f := fun _ => some (cnt R cs, T, S, D)) (fun k => ?_) (ev_some _)
    simp only [spec_l10Raise.l0]; rw [if_neg (by omega), List.take_of_length_le (by omega)]
  · intro j hj h2
    have hb := hci _ (List.getElem_mem hj)
    rw [cnt_take _ _ _ hj] at h2
    refine Ev.succ ?_
    simp only [spec_l10Raise.l0, rdn cs j hj]
    refine ev_pos (by omega) (ev_pos (by omega) (ev_pos hb.1 (ev_pos (by rw [cnt_length]; omega) ?_)))
    rw [wnext j (by omega)]
    exact h2
end Go.Proofs.YtnibgibjfpbagaaGreat.Q
