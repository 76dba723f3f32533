/- What laws.FnCheck reaches, part 7: the functions as Lean functions, the proofs that the program's functions answer so, and plain laws about them. -/
import Derived.Test.YtnibgibjfpbagaaGreatKFnCheck1
import Derived.Test.YtnibgibjfpbagaaGreatKFnCheck3
import Derived.Test.YtnibgibjfpbagaaGreatKFnCheck5
namespace Go.Proofs.YtnibgibjfpbagaaGreat.Q
open Go.RowKit Go.Proofs.YtnibgibjfpbagaaGreat.Ext Go.Proofs.YtnibgibjfpbagaaGreatW.PrintWords Go.Proofs.YtnibgibjfpbagaaGreatW.PrintLast Go.Proofs.YtnibgibjfpbagaaGreatW.PrintMore
attribute [local go_sem] max2_int min2_int max_two min_two max_three min_three max_four min_four   -- for this text's walks alone
open Bool renaming true → tt, false → ff
set_option linter.unusedVariables false
set_option linter.unusedSimpArgs false

set_option linter.unusedVariables false
set_option linter.unusedSimpArgs false
def spec_l10Zero.f (k : Nat) (l0_0 : List Int) (l0_1 : List Int) (l0_2 : List (S66)) (l0_3 : List Int) (a1 : Int) : Option (List Int × List Int × (List (S66)) × List Int) := (spec_l10Own.f k l0_0 l0_1 l0_2 l0_3).bind fun bt394 => (if 0 ≤ a1 then (if a1 < (l0_1.length : Int) then ((spec_l10Drop.f bt394.1 bt394.2.1 bt394.2.2.1 bt394.2.2.2 (rd l0_1 a1)).bind fun bt407 => (if a1 < (bt407.2.1.length : Int) then (some (bt407.1, (bt407.2.1.set (a1 : Int).toNat 1), bt407.2.2.1, bt407.2.2.2)) else (none))) else (none)) else (none))
theorem spec_l10Zero.mono : ∀ a0 a1 a2 a3 a4 k, LeO (spec_l10Zero.f k a0 a1 a2 a3 a4) (spec_l10Zero.f (k + 1) a0 a1 a2 a3 a4) := by
  intro a0 a1 a2 a3 a4 k
  unfold spec_l10Zero.f
  repeat' first| (with_reducible first | exact spec_l10Own.mono _ _ _ _ _ | exact LeO.refl _ | exact LeO.none _ | refine LeO.ite ?_ ?_ | refine LeO.bind ?_ (fun _ => ?_)) | exact LeO.none _ | refine LeO.ite ?_ ?_ | refine LeO.bind ?_ (fun _ => ?_)
def spec_l10Zero.T1 : Bool × List (List Nat × List Nat) := (true, [([], []), ([0], [0]), ([], []), ([2], [2]), ([], []), ([3, 4], [3, 4]), ([5], [5]), ([1, 6, 1], [1, 6]), ([7, 7, 0, 1, 2, 3, 4, 5, 6, 7], [7])])
def spec_l10Zero.B1 : List Nat := [0, 1, 0, 4, 0, 28, 60, 127, 255]
theorem spec_l10Zero.tab1 : rtab .any (opsOf Tryz.f28 1) = spec_l10Zero.T1 := by kernel_rfl
theorem spec_l10Zero.bits1 : waitsOk spec_l10Zero.T1.2 spec_l10Zero.B1 = true := by kernel_rfl
set_option maxHeartbeats 8000000 in
set_option maxRecDepth 100000 in
theorem spec_l10Zero.calls (k : Nat) (U : Option Addr) (V : Nat) (A : List Int) (b0 : Option Addr) (X : Nat) (l : List Int) (Y : Option Addr) (Z : Nat) (B : List (S66)) (a5 : Option Addr) (a6 : Nat) (D : List Int) (a1 : Int) (r1 : List Int) (r2 : List Int) (r3 : List (S66)) (r4 : List Int) (w : World) (d7 : Kd.C (Kd.int .i64) w U A.length A) (d8 : A.length ≤ V) (d9 : Kd.C (Kd.int .i64) w b0 l.length l) (e0 : l.length ≤ X) (e1 : Kd.C k66 w Y B.length B) (e2 : B.length ≤ Z) (e3 : Kd.C (Kd.int .i64) w a5 D.length D) (e4 : D.length ≤ a6) (h : spec_l10Zero.f k A l B D a1 = some (r1, r2, r3, r4)) :
    Calls Tryz.prog 28 #[.agg #[.slice U A.length V, .slice b0 l.length X, .slice Y B.length Z, .slice a5 D.length a6], .int .i64 a1] w fun e w' => ∃ c2 c3 g1 c6 : Value, e = .returned (.agg #[c2, c3, g1, c6]) ∧ Kd.R (Kd.int .i64) 3 w' w.heap.size (fun k_ => some k_ ≠ (c3 : Value).ownBlock ∧ some k_ ≠ (c6 : Value).ownBlock) c2 r1 ∧ Kd.R (Kd.int .i64) 3 w' w.heap.size (fun k_ => some k_ ≠ (c2 : Value).ownBlock ∧ some k_ ≠ (c6 : Value).ownBlock) c3 r2 ∧ Kd.S k66 66 w' w.heap.size (fun k_ => some k_ ≠ (c2 : Value).ownBlock ∧ some k_ ≠ (c3 : Value).ownBlock ∧ some k_ ≠ (c6 : Value).ownBlock) g1 r3 ∧ Kd.R (Kd.int .i64) 3 w' w.heap.size (fun k_ => some k_ ≠ (c2 : Value).ownBlock ∧ some k_ ≠ (c3 : Value).ownBlock) c6 r4 ∧ Below w.heap.size w w' := by
 have hu26 := Tryz.underlying26; have Zq := zm d7; have Zr := zm d8; clear d7 d8; have Zo := zm d9; have Zs := zm e0; clear d9 e0; have Zt := zm e1; have Zu := zm e2; clear e1 e2; have Zv := zm e3; have Zw := zm e4; clear e3 e4; have HB := zm (Below.refl w.heap.size w); have H := h
 unfold spec_l10Zero.f at H
 clear h; replace H := Option.bind_eq_some_iff.mp H
 obtain ⟨⟨b1, b2, b4, b3⟩, g2, H⟩ := H
 try dsimp only at H
 have A3 := zm g2; clear g2
 by_cases c4 : 0 ≤ a1
 rotate_left
 ·rw [if_neg c4] at H
  exact absurd H (by simp)
 rw [if_pos c4] at H; have j1 := decide_eq_true c4; clear c4
 by_cases c5 : a1 < (l.length : Int)
 rotate_left
 ·rw [if_neg c5] at H
  exact absurd H (by simp)
 rw [if_pos c5] at H; have j2 := decide_eq_true c5; clear c5; replace H := Option.bind_eq_some_iff.mp H
 obtain ⟨⟨d, b, z, j⟩, g3, H⟩ := H
 try dsimp only at H
 have A6 := zm g3; clear g3
 by_cases c7 : a1 < (b.length : Int)
 rotate_left
 ·rw [if_neg c7] at H
  exact absurd H (by simp)
 rw [if_pos c7] at H; have j4 := decide_eq_true c7; clear c7
 obtain ⟨e5, b5⟩ : ∃ y_ : List Int, y_ = (b.set (a1 : Int).toNat 1) := ⟨_, rfl⟩
 replace H : (some (d, e5, z, j)) = some (r1, r2, r3, r4) := zy H b5
 have g0 := zm b5; clear b5
 simp only [Option.some.injEq, Prod.mk.injEq] at H
 obtain ⟨rfl, rfl, rfl, rfl⟩ := H
 go_enter Tryz.func28, Tryz.ntmps28
 try go_wp2_with (first | ((with_reducible refine gate_dst (N := 2) rfl ?_); refine box_event ?hg (N := 2) ?hd (cs := #[.slice U A.length V, .slice b0 l.length X, .slice Y B.length Z, .slice a5 D.length a6]) (t := 26) ?hr ?_; (case hd => rfl); (case hg => rfl); (case hr => first | (go_simp; done) | (go_simp; rfl)); intro a hg w9 hbox hb; have u := zm (below_step (zg_1 HB.out) hb); have x := zm (hbox); have y := zm ((by rw [hg]; exact (below_size (zg_1 HB.out)) : w.heap.size ≤ a)); have F := zm ((by rw [hg]; exact (below_size (zg_1 HB.out)) : w.heap.size ≤ a)); replace HB := u; have Za := x; have Zx := y; have Zf := F; clear u x y F; clear hb hbox hg) | ((with_reducible refine gate_dst (N := 4) rfl ?_); refine box_event ?hg (N := 4) ?hd (cs := #[.slice none 0 0, .slice none 0 0, .slice none 0 0, .slice none 0 0]) (t := 26) ?hr ?_; (case hd => rfl); (case hg => rfl); (case hr => first | (go_simp; done) | (go_simp; rfl)); intro T hg i2 hbox hb; have u := zm (blk_below (g := a) (o := .cells #[.slice U A.length V, .slice b0 l.length X, .slice Y B.length Z, .slice a5 D.length a6] 26 (0, 0)) (zg_3 Za.out) hb); have x := zm (below_step (zg_2 HB.out Zf.out) hb); have y := zm (hbox); have F := zm ((by rw [hg]; exact (below_size (zg_2 HB.out Zf.out)) : w.heap.size ≤ T)); have L := zm ((by rw [hg]; exact (below_size (zg_2 HB.out Zf.out)) : w.heap.size ≤ T)); have M := zm ((by rw [hg]; exact Nat.ne_of_lt (blk_lt (g := a) (o := .cells #[.slice U A.length V, .slice b0 l.length X, .slice Y B.length Z, .slice a5 D.length a6] 26 (0, 0)) (zg_3 Za.out)) : a ≠ T)); have O := zm ((by rw [hg]; exact Nat.ne_of_gt (blk_lt (g := a) (o := .cells #[.slice U A.length V, .slice b0 l.length X, .slice Y B.length Z, .slice a5 D.length a6] 26 (0, 0)) (zg_3 Za.out)) : T ≠ a)); replace Za := u; replace HB := x; have Zb := y; have Zy := F; have Zg := L; have Zd := M; have Zc := O; clear u x y F L M O; clear hb hbox hg))
 have u := zm (blk_drew Za.out); have x := zm (blk_drew Zb.out); have y := zm (below_drew1 HB.out); clear Za; clear Zb; clear HB; have Za := u; have Zb := x; have HB := y; clear u x y
 have d2 : 0 ≤ (a1 : Int) := zd
 have d3 : a1 < (l.length : Int) := zd
 obtain ⟨a9, h1, hx406_0⟩ := Kd.at_int Zo.out a1 d2 d3
 have hw406_0 := hx406_0; cases h1; replace hx406_0 := (HB.out.cell (World.block_lt_of_cell? w _ hx406_0)).trans hx406_0; replace d2 := eq_true d2; replace d3 := eq_true d3
 refine start_ (n := 9) (S := fun w' => w'.cell? ⟨a, 0, none⟩ = some (.slice U A.length V) ∧ w'.cell? ⟨a, 1, none⟩ = some (.slice (some a9) l.length X) ∧ w'.cell? ⟨a, 2, none⟩ = some (.slice Y B.length Z) ∧ w'.cell? ⟨a, 3, none⟩ = some (.slice a5 D.length a6) ∧ w'.cell? (a9.add (a1).toNat) = some (.int .i64 (rd l a1))) (ds := [8]) #[ff, ff, ff, ff, ff, ff, ff, ff, ff] (by kernel_rfl) rfl rfl ⟨(blk_cell Za.out 0).trans rfl, (blk_cell Za.out 1).trans rfl, (blk_cell Za.out 2).trans rfl, (blk_cell Za.out 3).trans rfl, ((HB.out.cell (World.block_lt_of_cell? w _ hw406_0)).trans hw406_0)⟩ (fun hHeld => ?_); refine with_tabW spec_l10Zero.tab1 spec_l10Zero.bits1 (fun HT_ HW_ => ?_)
 generalize i2.drew = k4 at Za Zb HB hx406_0 hHeld ⊢
 refine pure_ (i := 2) (N := some 7) (v := ?_) (a' := ?_) #[ff, ff, tt, ff, ff, ff, ff, ff, ff] rfl rfl (any_of HT_.out (by kernel_rfl)) (fun _ _ _ h => h) (Or.inl ⟨by rfl, ?_⟩) ?_ ?_
 rotate_left
 ·intro w'
  go_simp
  with_reducible rfl
 rotate_left
 ·simp only [Act.put, zs, zz, zt, i64_w, i32_w]
  rfl
 refine pure_ (i := 4) (N := some 9) (v := ?_) (a' := ?_) #[ff, ff, tt, ff, tt, ff, ff, ff, ff] rfl rfl (any_of HT_.out (by kernel_rfl)) (fun _ _ _ h => h) (Or.inl ⟨by rfl, ?_⟩) ?_ ?_
 rotate_left
 ·intro w'
  go_simp
  with_reducible rfl
 rotate_left
 ·simp only [Act.put, zs, zz, zt, i64_w, i32_w]
  rfl
 refine take_ (i := 0) (N := some 5) (v := ?_) (a' := ?_) #[tt, ff, tt, ff, tt, ff, ff, ff, ff] rfl rfl (take_ofW HT_.out HW_.out (by kernel_rfl)) (fun _ _ _ h => h) (Or.inl ⟨by rfl, ?_⟩) hHeld ?_ ?_
 rotate_left
 ·rintro w' ⟨s0, s1, s2, s3, s4⟩
  go_simp
  with_reducible rfl
 rotate_left
 ·simp only [Act.put, zs, zz, zt, i64_w, i32_w]
  rfl
 refine take_ (i := 3) (N := some 8) (v := ?_) (a' := ?_) #[tt, ff, tt, tt, tt, ff, ff, ff, ff] rfl rfl (take_ofW HT_.out HW_.out (by kernel_rfl)) (fun _ _ _ h => h) (Or.inl ⟨by rfl, ?_⟩) hHeld ?_ ?_
 rotate_left
 ·rintro w' ⟨s0, s1, s2, s3, s4⟩
  go_simp
  with_reducible rfl
 rotate_left
 ·simp only [Act.put, zs, zz, zt, i64_w, i32_w]
  rfl
 refine pure_ (i := 5) (N := some 10) (v := ?_) (a' := ?_) #[tt, ff, tt, tt, tt, tt, ff, ff, ff] rfl rfl (any_of HT_.out (by kernel_rfl)) (fun _ _ _ h => h) (Or.inl ⟨by rfl, ?_⟩) ?_ ?_
 rotate_left
 ·intro w'
  go_simp
  with_reducible rfl
 rotate_left
 ·simp only [Act.put, zs, zz, zt, i64_w, i32_w]
  rfl
 refine take_ (i := 6) (N := some 11) (v := ?_) (a' := ?_) #[tt, ff, tt, tt, tt, tt, tt, ff, ff] rfl rfl (take_ofW HT_.out HW_.out (by kernel_rfl)) (fun _ _ _ h => h) (Or.inl ⟨by rfl, ?_⟩) hHeld ?_ ?_
 rotate_left
 ·rintro w' ⟨s0, s1, s2, s3, s4⟩
  go_simp
  with_reducible rfl
 rotate_left
 ·simp only [Act.put, zs, zz, zt, i64_w, i32_w]
  rfl
 refine one_ (i := 1) (N := some 6) #[tt, tt, tt, tt, tt, tt, tt, ff, ff] rfl rfl (one_of HT_.out (by kernel_rfl)) (by decide) (fun K hK => ?_)
 refine goes_ Tryz.func31 (by kernel_rfl) rfl #[.agg #[.slice U A.length V, .slice (some a9) l.length X, .slice Y B.length Z, .slice a5 D.length a6]] (by rfl) rfl rfl zq ?_
 with_reducible refine (spec_l10Own.calls k _ _ A _ _ l _ _ B _ _ D b1 b2 b4 b3 _ ?side1 ?side2 ?side3 ?side4 ?side5 ?side6 ?side7 ?side8 A3.out).mono ?_
 (case side1 => exact zC (Kd.C_below Zq.out HB.out))
 (case side2 => exact Zr.out)
 (case side3 => exact zC (Kd.C_below Zo.out HB.out))
 (case side4 => exact Zs.out)
 (case side5 => exact zC (Kd.C_below Zt.out HB.out))
 (case side6 => exact Zu.out)
 (case side7 => exact zC (Kd.C_below Zv.out HB.out))
 (case side8 => exact Zw.out)
 rintro e i3 ⟨j5, j6, j7, j8, rfl, c8, c9, d0, d1, hb⟩
 refine ⟨_, rfl, ?_⟩
 have u := zm (Kd.R_lower c8 (below_size (zg_5 HB.out Zf.out Zg.out))); have x := zm (Kd.R_lower c9 (below_size (zg_5 HB.out Zf.out Zg.out))); have y := zm (Kd.S_lower d0 (below_size (zg_5 HB.out Zf.out Zg.out))); have F := zm (Kd.R_lower d1 (below_size (zg_5 HB.out Zf.out Zg.out))); have L := zm (blk_below (g := a) (o := .cells #[.slice U A.length V, .slice (some a9) l.length X, .slice Y B.length Z, .slice a5 D.length a6] 26 (0, 0)) (zg_3 Za.out) hb); have M := zm (blk_below (g := T) (o := .cells #[.slice none 0 0, .slice none 0 0, .slice none 0 0, .slice none 0 0] 26 (0, 0)) (zg_3 Zb.out) hb); have O := zm (below_step (zg_5 HB.out Zf.out Zg.out) hb); clear Za; clear Zb; clear HB; have Zk := u; have Zl := x; have Zn := y; have Zm := F; have Za := L; have Zb := M; have HB := O; clear u x y F L M O
 (try clear hb)
 (try clear hb2)
 (try clear hk)
 (try clear hi)
 (try clear c8)
 (try clear c9)
 (try clear d0)
 (try clear d1)
 obtain ⟨b6, b7, e6⟩ := Kd.R_slice Zk.out
 (first | subst e6 | (injection e6 with f1_ f2_ f3_; have f4_ := f1_.symm; have f5_ := f3_.symm; clear f1_ f2_ f3_; subst f4_; subst f5_))
 obtain ⟨b8, b9, e7⟩ := Kd.R_slice Zl.out
 (first | subst e7 | (injection e7 with f1_ f2_ f3_; have f4_ := f1_.symm; have f5_ := f3_.symm; clear f1_ f2_ f3_; subst f4_; subst f5_))
 obtain ⟨e8, e9, f0⟩ := Kd.S_slice Zn.out
 (first | subst f0 | (injection f0 with f1_ f2_ f3_; have f4_ := f1_.symm; have f5_ := f3_.symm; clear f1_ f2_ f3_; subst f4_; subst f5_))
 obtain ⟨c0, c1, f1⟩ := Kd.R_slice Zm.out
 (first | subst f1 | (injection f1 with f1_ f2_ f3_; have f4_ := f1_.symm; have f5_ := f3_.symm; clear f1_ f2_ f3_; subst f4_; subst f5_))
 refine hK.out _ _ ⟨(blk_cell Za.out 0).trans rfl, (blk_cell Za.out 1).trans rfl, (blk_cell Za.out 2).trans rfl, (blk_cell Za.out 3).trans rfl, ((HB.out.cell (World.block_lt_of_cell? w _ hw406_0)).trans hw406_0)⟩ (fun hHeld => ?_)
 clear hK K
 refine norm_ (a' := ?_) ?_ ?_
 rotate_left
 ·show Act.put _ (some 6) _ = _
  simp only [Act.put, zs, zz, zt, i64_w, i32_w]
  rfl
 refine one_ (i := 7) (N := some 12) #[tt, tt, tt, tt, tt, tt, tt, tt, ff] rfl rfl (one_of HT_.out (by kernel_rfl)) (by decide) (fun K hK => ?_)
 refine goes_ Tryz.func48 (by kernel_rfl) rfl #[.agg #[.slice b6 b1.length b7, .slice b8 b2.length b9, .slice e8 b4.length e9, .slice c0 b3.length c1], .int .i64 (rd l a1)] (by rfl) rfl rfl zq ?_
 with_reducible refine (spec_l10Drop.calls (fun k_ => some k_ = (.slice b6 b1.length b7 : Value).ownBlock) (.slice b6 b1.length b7) b1 (fun k_ => some k_ = (.slice b8 b2.length b9 : Value).ownBlock) (.slice b8 b2.length b9) b2 (fun k_ => ((some k_ ≠ (.slice b6 b1.length b7 : Value).ownBlock ∧ (some k_ ≠ (.slice b8 b2.length b9 : Value).ownBlock ∧ some k_ ≠ (.slice c0 b3.length c1 : Value).ownBlock))) ∧ ∃ q_, q_ ∈ (66 :: (k66).E) ∧ ∃ cs_, i3.heap[k_]? = some (.cells cs_ q_ (0, 0))) (.slice e8 b4.length e9) b4 (fun k_ => some k_ = (.slice c0 b3.length c1 : Value).ownBlock) (.slice c0 b3.length c1) b3 (rd l a1) d b z j w _ ?side1 ?side2 ?side3 ?side4 ?side5 ?side6 ?side7 ?side8 ?side9 ?side10 ?side11 ?side12 ?side13 ?side14 ?side15 ?side16 ?side17 A6.out).mono ?_
 (case side1 => exact (zg_5 HB.out Zf.out Zg.out))
 (case side2 => exact Kd.R_tight rfl Zk.out)
 (case side3 => exact fun k_ e_ => (Zk.out.1 k_ e_.symm).1)
 (case side4 => exact fun k_ e_ hP_ => (hP_.1.1) e_)
 (case side5 => exact fun k_ e_ => (Zk.out.1 k_ e_.symm).2)
 (case side6 => exact Kd.R_tight rfl Zl.out)
 (case side7 => exact fun k_ e_ => (Zl.out.1 k_ e_.symm).1)
 (case side8 => exact fun k_ e_ hP_ => (hP_.1.2.1) e_)
 (case side9 => exact fun k_ e_ => (Zl.out.1 k_ e_.symm).2)
 (case side10 => exact Kd.S_mono (Kd.S_bound (Zn.out)) (fun k_ h_ => ⟨h_.1, h_.2.2.2⟩))
 (case side11 => exact fun k_ hP_ e_ => (hP_.1.1) e_)
 (case side12 => exact fun k_ hP_ e_ => (hP_.1.2.1) e_)
 (case side13 => exact fun k_ hP_ e_ => (hP_.1.2.2) e_)
 (case side14 => exact Kd.R_tight rfl Zm.out)
 (case side15 => exact fun k_ e_ => (Zm.out.1 k_ e_.symm).1)
 (case side16 => exact fun k_ e_ => (Zm.out.1 k_ e_.symm).2)
 (case side17 => exact fun k_ e_ hP_ => (hP_.1.2.2) e_)
 rintro e a7 ⟨d4, d5, j9, d6, rfl, c8, c9, d0, d1, hb, hkp⟩
 refine ⟨_, rfl, ?_⟩
 have u := zm (blk_kept (zg_3 Za.out) hkp (fun hs_ => Or.elim hs_ (fun e_ => (fun e_ => (Kd.R_ne Zk.out Za.out (by decide)) e_) e_) (fun e_ => Or.elim e_ (fun e_ => (fun e_ => (Kd.R_ne Zl.out Za.out (by decide)) e_) e_) (fun e_ => Or.elim e_ (fun e_ => (fun hP_ => (by obtain ⟨_, q_, hq_, cs_, hc_⟩ := hP_; have hb_ := Za.out; rw [hb_] at hc_; injection hc_ with hc_; injection hc_ with _ h2_; rw [← h2_] at hq_; exact absurd hq_ (by decide))) e_) (fun e_ => (fun e_ => (Kd.R_ne Zm.out Za.out (by decide)) e_) e_))))); have x := zm (blk_kept (zg_3 Zb.out) hkp (fun hs_ => Or.elim hs_ (fun e_ => (fun e_ => (Kd.R_ne Zk.out Zb.out (by decide)) e_) e_) (fun e_ => Or.elim e_ (fun e_ => (fun e_ => (Kd.R_ne Zl.out Zb.out (by decide)) e_) e_) (fun e_ => Or.elim e_ (fun e_ => (fun hP_ => (by obtain ⟨_, q_, hq_, cs_, hc_⟩ := hP_; have hb_ := Zb.out; rw [hb_] at hc_; injection hc_ with hc_; injection hc_ with _ h2_; rw [← h2_] at hq_; exact absurd hq_ (by decide))) e_) (fun e_ => (fun e_ => (Kd.R_ne Zm.out Zb.out (by decide)) e_) e_))))); have y := zm (Kd.R_mono (ok' := fun k_ => some k_ ≠ (d5 : Value).ownBlock ∧ some k_ ≠ (d6 : Value).ownBlock) c8 (fun k_ hk_ => ⟨hk_.2.1, hk_.2.2⟩)); have F := zm (Kd.R_mono (ok' := fun k_ => some k_ ≠ (d4 : Value).ownBlock ∧ some k_ ≠ (d6 : Value).ownBlock) c9 (fun k_ hk_ => ⟨hk_.2.1, hk_.2.2⟩)); have L := zm (Kd.S_mono (ok' := fun k_ => some k_ ≠ (d4 : Value).ownBlock ∧ some k_ ≠ (d5 : Value).ownBlock ∧ some k_ ≠ (d6 : Value).ownBlock) d0 (fun k_ hk_ => ⟨hk_.2.1, hk_.2.2.1, hk_.2.2.2⟩)); have M := zm (Kd.R_mono (ok' := fun k_ => some k_ ≠ (d4 : Value).ownBlock ∧ some k_ ≠ (d5 : Value).ownBlock) d1 (fun k_ hk_ => ⟨hk_.2.1, hk_.2.2⟩)); have O := zm (hb); clear Za; clear Zb; clear HB; clear Zk; clear Zl; clear Zn; clear Zm; have Za := u; have Zb := x; have Zh := y; have Ze := F; have Zi := L; have Zj := M; have HB := O; clear u x y F L M O
 (try clear hb)
 (try clear hkp)
 (try clear c8)
 (try clear c9)
 (try clear d0)
 (try clear d1)
 obtain ⟨m, q, f2⟩ := Kd.R_slice Zh.out
 (first | subst f2 | (injection f2 with f1_ f2_ f3_; have f4_ := f1_.symm; have f5_ := f3_.symm; clear f1_ f2_ f3_; subst f4_; subst f5_))
 obtain ⟨G, c, f3⟩ := Kd.R_slice Ze.out
 (first | subst f3 | (injection f3 with f1_ f2_ f3_; have f4_ := f1_.symm; have f5_ := f3_.symm; clear f1_ f2_ f3_; subst f4_; subst f5_))
 obtain ⟨I, J, f4⟩ := Kd.S_slice Zi.out
 (first | subst f4 | (injection f4 with f1_ f2_ f3_; have f4_ := f1_.symm; have f5_ := f3_.symm; clear f1_ f2_ f3_; subst f4_; subst f5_))
 obtain ⟨r, s, f5⟩ := Kd.R_slice Zj.out
 (first | subst f5 | (injection f5 with f1_ f2_ f3_; have f4_ := f1_.symm; have f5_ := f3_.symm; clear f1_ f2_ f3_; subst f4_; subst f5_))
 refine hK.out _ _ ⟨(blk_cell Za.out 0).trans rfl, (blk_cell Za.out 1).trans rfl, (blk_cell Za.out 2).trans rfl, (blk_cell Za.out 3).trans rfl, ((HB.out.cell (World.block_lt_of_cell? w _ hw406_0)).trans hw406_0)⟩ (fun hHeld => ?_)
 clear hK K
 refine norm_ (a' := ?_) ?_ ?_
 rotate_left
 ·show Act.put _ (some 12) _ = _
  simp only [Act.put, zs, zz, zt, i64_w, i32_w]
  rfl
 refine last_ (i := 8) (N := none) #[tt, tt, tt, tt, tt, tt, tt, tt, tt] rfl rfl (one_of HT_.out (by kernel_rfl)) (by decide) (fun K hK => ?_)
 have k0 : a7.cell? ⟨a, 0, none⟩ = some (.slice U A.length V) := (blk_cell Za.out 0).trans rfl
 have i4 := blk_frozen Za.out 0; have h4 := Zc.out; have h5 := Zd.out
 have k1 : a7.cell? ⟨a, 1, none⟩ = some (.slice (some a9) l.length X) := (blk_cell Za.out 1).trans rfl
 have i5 := blk_frozen Za.out 1; have h6 := Zc.out; have h7 := Zd.out
 have k2 : a7.cell? ⟨a, 2, none⟩ = some (.slice Y B.length Z) := (blk_cell Za.out 2).trans rfl
 have i6 := blk_frozen Za.out 2; have h8 := Zc.out; have h9 := Zd.out
 have k3 : a7.cell? ⟨a, 3, none⟩ = some (.slice a5 D.length a6) := (blk_cell Za.out 3).trans rfl
 have i7 := blk_frozen Za.out 3; have i0 := Zc.out; have i1 := Zd.out
 refine skip_ (w1 := ?_) (by rfl) rfl ?_ ?_
 rotate_left
 ·go_simp
  rfl
 refine hK.out _ _ ?_
 clear hK K
 refine done_ (done_of HT_.out (by kernel_rfl)) ?_
 have u : Aside0 (Kd.R (Kd.int .i64) 3 ((((a7.setCell ⟨a, 0, none⟩ (.slice m d.length q)).setCell ⟨a, 1, none⟩ (.slice G b.length c)).setCell ⟨a, 2, none⟩ (.slice I z.length J)).setCell ⟨a, 3, none⟩ (.slice r j.length s)) w.heap.size (fun k_ => some k_ ≠ (.slice G b.length c : Value).ownBlock ∧ some k_ ≠ (.slice r j.length s : Value).ownBlock) (.slice m d.length q) d) := ⟨Kd.R_mono (zR4 (Kd.R_types Zh.out Za.out (by decide))) (fun _ hk => ⟨hk.1.1, hk.1.2⟩)⟩
 have x : Aside0 (Kd.R (Kd.int .i64) 3 ((((a7.setCell ⟨a, 0, none⟩ (.slice m d.length q)).setCell ⟨a, 1, none⟩ (.slice G b.length c)).setCell ⟨a, 2, none⟩ (.slice I z.length J)).setCell ⟨a, 3, none⟩ (.slice r j.length s)) w.heap.size (fun k_ => some k_ ≠ (.slice m d.length q : Value).ownBlock ∧ some k_ ≠ (.slice r j.length s : Value).ownBlock) (.slice G b.length c) b) := ⟨Kd.R_mono (zR4 (Kd.R_types Ze.out Za.out (by decide))) (fun _ hk => ⟨hk.1.1, hk.1.2⟩)⟩
 have y : Aside0 (Kd.S k66 66 ((((a7.setCell ⟨a, 0, none⟩ (.slice m d.length q)).setCell ⟨a, 1, none⟩ (.slice G b.length c)).setCell ⟨a, 2, none⟩ (.slice I z.length J)).setCell ⟨a, 3, none⟩ (.slice r j.length s)) w.heap.size (fun k_ => some k_ ≠ (.slice m d.length q : Value).ownBlock ∧ some k_ ≠ (.slice G b.length c : Value).ownBlock ∧ some k_ ≠ (.slice r j.length s : Value).ownBlock) (.slice I z.length J) z) := ⟨Kd.S_mono (zS4 (Kd.S_types Zi.out Za.out (by decide))) (fun _ hk => ⟨hk.1.1, ⟨hk.1.2.1, hk.1.2.2⟩⟩)⟩
 have F : Aside0 (Kd.R (Kd.int .i64) 3 ((((a7.setCell ⟨a, 0, none⟩ (.slice m d.length q)).setCell ⟨a, 1, none⟩ (.slice G b.length c)).setCell ⟨a, 2, none⟩ (.slice I z.length J)).setCell ⟨a, 3, none⟩ (.slice r j.length s)) w.heap.size (fun k_ => some k_ ≠ (.slice m d.length q : Value).ownBlock ∧ some k_ ≠ (.slice G b.length c : Value).ownBlock) (.slice r j.length s) j) := ⟨Kd.R_mono (zR4 (Kd.R_types Zj.out Za.out (by decide))) (fun _ hk => ⟨hk.1.1, hk.1.2⟩)⟩
 have L : Aside0 (((((a7.setCell ⟨a, 0, none⟩ (.slice m d.length q)).setCell ⟨a, 1, none⟩ (.slice G b.length c)).setCell ⟨a, 2, none⟩ (.slice I z.length J)).setCell ⟨a, 3, none⟩ (.slice r j.length s)).heap[a]? = some (.cells #[.slice m d.length q, .slice G b.length c, .slice I z.length J, .slice r j.length s] 26 (0, 0))) := ⟨by exact zput4 Za.out⟩
 have M : Aside0 (((((a7.setCell ⟨a, 0, none⟩ (.slice m d.length q)).setCell ⟨a, 1, none⟩ (.slice G b.length c)).setCell ⟨a, 2, none⟩ (.slice I z.length J)).setCell ⟨a, 3, none⟩ (.slice r j.length s)).heap[T]? = some (.cells #[.slice none 0 0, .slice none 0 0, .slice none 0 0, .slice none 0 0] 26 (0, 0))) := ⟨by exact zfar4 Zb.out Zc.out⟩
 have O : Aside0 (Below w.heap.size w ((((a7.setCell ⟨a, 0, none⟩ (.slice m d.length q)).setCell ⟨a, 1, none⟩ (.slice G b.length c)).setCell ⟨a, 2, none⟩ (.slice I z.length J)).setCell ⟨a, 3, none⟩ (.slice r j.length s))) := ⟨zg_5 HB.out Zf.out Zg.out⟩
 (try clear Zh)
 (try clear Ze)
 (try clear Zi)
 (try clear Zj)
 (try clear Za)
 (try clear Zb)
 (try clear HB)
 generalize ((((a7.setCell ⟨a, 0, none⟩ (.slice m d.length q)).setCell ⟨a, 1, none⟩ (.slice G b.length c)).setCell ⟨a, 2, none⟩ (.slice I z.length J)).setCell ⟨a, 3, none⟩ (.slice r j.length s)) = g4 at u x y F L M O ⊢
 have Zh := u; have Ze := x; have Zi := y; have Zj := F; have Za := L; have Zb := M; have HB := O; clear u x y F L M O; have i8 := Zd.out; have i9 := Zc.out
 obtain ⟨_, _, _, _, _, _, _, _⟩ := zb4 Za.out
 have p8 : 0 ≤ (a1 : Int) := zd
 have q8 : (a1 : Int) < ((b.length : Int) : Int) := zd
 obtain ⟨a8, k5, g5, g6, gl8, cl8, HG8⟩ := Kd.R_form Ze.out (by omega)
 (first | cases g5 | (injection g5 with ea_ en_ ec_; (first | subst ea_ | (injection ea_ with ea_; subst ea_)); subst ec_; clear en_))
 have GB8 := zm g6; have k6 := zm HG8; clear g6 gl8 HG8
 obtain ⟨hx8_0, hf8_0⟩ := Kd.R_celln 0 Ze.out (a1 : Int) p8 q8
 replace p8 := eq_true p8; replace q8 := eq_true q8
 obtain ⟨hy29_, hz29_⟩ := Kd.R_celln 0 Ze.out (a1 : Int) (zd) (zd)
 have Zp := Kd.R_putg Ze.out (a1 : Int) 1
 try go_wp2_with (first | ((with_reducible refine gate_store (t := 3) (p := 16) rfl ?_); refine store_event (t := 3) (p := 16) (v := ?vo_w30) (w1 := (g4.setCell ⟨a8, (a1 : Int).toNat, none⟩ (.int .i64 1))) ?hg ?ho ?hn ?hr ?_; (case ho => rfl); (case hg => rfl); (case hn => rfl); (case hr => first | (go_simp; done) | (go_simp; rfl)); intro f6 hw; have hg : g4.grownBy f6 (some a8) := (by rw [hw]; exact Zp.2); have hp_ : Kd.R (Kd.int .i64) 3 f6 w.heap.size (fun k_ => some k_ ≠ (.slice m d.length q : Value).ownBlock ∧ some k_ ≠ (.slice r j.length s : Value).ownBlock) (.slice (some ⟨a8, 0, none⟩) b.length c) e5 := (by rw [hw, g0.out]; exact Zp.1); clear Zp; have u := zm (blk_grown (g := a) (o := .cells #[.slice m d.length q, .slice (some ⟨a8, 0, none⟩) b.length c, .slice I z.length J, .slice r j.length s] 26 (0, 0)) (zg_3 Za.out) hg (Kd.R_ne Ze.out Za.out (by decide))); have x := zm (blk_grown (g := T) (o := .cells #[.slice none 0 0, .slice none 0 0, .slice none 0 0, .slice none 0 0] 26 (0, 0)) (zg_3 Zb.out) hg (Kd.R_ne Ze.out Zb.out (by decide))); have y := zm (Kd.R_after (v := (.slice (some ⟨a8, 0, none⟩) b.length c)) (v1 := (.slice (some ⟨a8, 0, none⟩) b.length c)) (ok := (fun k_ => some k_ ≠ (.slice r j.length s : Value).ownBlock)) (by (with_reducible repeat (first | apply Kd.R_alloc | apply Kd.R_drewN | apply Kd.R_drew)); exact Kd.R_mono Zh.out (fun _ hk => ⟨hk.2, hk.1⟩)) hg (.inl rfl)); have F := zm (hp_); have L := zm (Kd.S_after (v := (.slice (some ⟨a8, 0, none⟩) b.length c)) (v1 := (.slice (some ⟨a8, 0, none⟩) b.length c)) (ok := (fun k_ => some k_ ≠ (.slice m d.length q : Value).ownBlock ∧ some k_ ≠ (.slice r j.length s : Value).ownBlock)) (by (with_reducible repeat (first | apply Kd.S_alloc | apply Kd.S_drewN | apply Kd.S_drew)); exact Kd.S_mono Zi.out (fun _ hk => ⟨⟨hk.1, hk.2.2⟩, hk.2.1⟩)) hg (.inl rfl)); have M := zm (Kd.R_after (v := (.slice (some ⟨a8, 0, none⟩) b.length c)) (v1 := (.slice (some ⟨a8, 0, none⟩) b.length c)) (ok := (fun k_ => some k_ ≠ (.slice m d.length q : Value).ownBlock)) (zg_6 Zj.out) hg (.inl rfl)); have O := zm ((by rw [hw]; exact below_set (HB.out) GB8.out : Below w.heap.size w f6)); replace Za := u; replace Zb := x; replace Zh := y; replace Ze := F; replace Zi := L; replace Zj := M; replace HB := O; clear u x y F L M O; clear hg hw hp_; obtain ⟨_, _, _, _, _, _, _, _⟩ := zb4 Za.out; obtain ⟨_, _, _, _, _, _, _, _⟩ := zb4 Zb.out))
 refine bodyPost_ret (results_cell_row rfl _ _ T 26 #[.slice m d.length q, .slice (some ⟨a8, 0, none⟩) b.length c, .slice I z.length J, .slice r j.length s] (0, 0) _ rfl (by exact zput4 Zb.out) Tryz.underlying26 rfl (by kernel_rfl)) rfl ?_
 exact ⟨_, _, _, _, ze, Kd.R_mono (zR4 (Kd.R_types Zh.out Zb.out (by decide))) (fun _ hk => ⟨hk.1.2, hk.1.1⟩), Kd.R_mono (zR4 (Kd.R_types Ze.out Zb.out (by decide))) (fun _ hk => ⟨hk.1.1, hk.1.2⟩), Kd.S_mono (zS4 (Kd.S_types Zi.out Zb.out (by decide))) (fun _ hk => ⟨hk.1.1.1, ⟨hk.1.2, hk.1.1.2⟩⟩), Kd.R_mono (zR4 (Kd.R_types Zj.out Zb.out (by decide))) (fun _ hk => ⟨hk.1.1, hk.1.2⟩), zg_5 HB.out Zf.out Zg.out⟩
end Go.Proofs.YtnibgibjfpbagaaGreat.Q
