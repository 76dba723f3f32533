/- What laws.FnCheck reaches, part 6: the functions as Lean functions, the proofs that the program's functions answer so, and plain laws about them. -/
import Derived.Test.YtnibgibjfpbagaaGreatKFnCheck1
import Derived.Test.YtnibgibjfpbagaaGreatKFnCheck3
import Derived.Test.YtnibgibjfpbagaaGreatKFnCheck5
namespace Go.Proofs.YtnibgibjfpbagaaGreat.Q
open Go.RowKit Go.Proofs.YtnibgibjfpbagaaGreat.Ext Go.Proofs.YtnibgibjfpbagaaGreatW.PrintWords Go.Proofs.YtnibgibjfpbagaaGreatW.PrintLast Go.Proofs.YtnibgibjfpbagaaGreatW.PrintMore
attribute [local go_sem] max2_int min2_int max_two min_two max_three min_three max_four min_four   -- for this text's walks alone
open Bool renaming true → tt, false → ff
set_option linter.unusedVariables false
set_option linter.unusedSimpArgs false

set_option linter.unusedVariables false
set_option linter.unusedSimpArgs false
def spec_l10Resize.l0 : Nat → Int → Int → List Int → List Int → List (S66) → List Int → Option (List Int × List Int × (List (S66)) × List Int)
  | 0, _, _, _, _, _, _ => none
  | k + 1, x1, x5, x363000, x363001, x363002, x363003 => if x5 < (x363001.length : Int) then (if 0 ≤ x5 then ((spec_l10Drop.f x363000 x363001 x363002 x363003 (rd x363001 x5)).bind fun bt377 => (spec_l10Resize.l0 k x1 (wrap64 (x5 + 1)) bt377.1 bt377.2.1 bt377.2.2.1 bt377.2.2.2)) else (none)) else ((spec_l09Resize.f k x363001 x1).bind fun t389 => (some (x363000, t389, x363002, x363003)))
def spec_l10Resize.f (k : Nat) (l0_0 : List Int) (l0_1 : List Int) (l0_2 : List (S66)) (l0_3 : List Int) (a1 : Int) : Option (List Int × List Int × (List (S66)) × List Int) := (spec_l10Own.f k l0_0 l0_1 l0_2 l0_3).bind fun bt364 => (spec_l10Resize.l0 k a1 a1 bt364.1 bt364.2.1 bt364.2.2.1 bt364.2.2.2)
theorem spec_l10Resize.mono_l : ∀ k, (∀ y0 y1 y2 y3 y4 y5, LeO (spec_l10Resize.l0 k y0 y1 y2 y3 y4 y5) (spec_l10Resize.l0 (k + 1) y0 y1 y2 y3 y4 y5))
  | 0 => fun _ _ _ _ _ _ r h => by simp [spec_l10Resize.l0] at h
  | k + 1 => by
    have ih0 := spec_l10Resize.mono_l k
    · intro y0 y1 y2 y3 y4 y5
      unfold spec_l10Resize.l0
      repeat' first| (with_reducible first | exact ih0 _ _ _ _ _ _ | exact spec_l09Resize.mono _ _ _ | exact spec_l10Own.mono _ _ _ _ _ | exact LeO.refl _ | exact LeO.none _ | refine LeO.ite ?_ ?_ | refine LeO.bind ?_ (fun _ => ?_)) | exact ih0 _ _ _ _ _ _ | exact LeO.none _ | refine LeO.ite ?_ ?_ | refine LeO.bind ?_ (fun _ => ?_)
theorem spec_l10Resize.mono : ∀ a0 a1 a2 a3 a4 k, LeO (spec_l10Resize.f k a0 a1 a2 a3 a4) (spec_l10Resize.f (k + 1) a0 a1 a2 a3 a4) := by
  intro a0 a1 a2 a3 a4 k
  have ih0 := spec_l10Resize.mono_l k
  unfold spec_l10Resize.f
  repeat' first| (with_reducible first | exact ih0 _ _ _ _ _ _ | exact spec_l09Resize.mono _ _ _ | exact spec_l10Own.mono _ _ _ _ _ | exact LeO.refl _ | exact LeO.none _ | refine LeO.ite ?_ ?_ | refine LeO.bind ?_ (fun _ => ?_)) | exact ih0 _ _ _ _ _ _ | exact LeO.none _ | refine LeO.ite ?_ ?_ | refine LeO.bind ?_ (fun _ => ?_)
def spec_l10Resize.T5 : Bool × List (List Nat × List Nat) := (true, [([], []), ([], []), ([1], [1]), ([], []), ([2, 3], [2, 3]), ([4], [4]), ([0, 5], [0, 5]), ([6, 6, 0, 1, 2, 3, 4, 5, 6], [6])])
def spec_l10Resize.B5 : List Nat := [0, 0, 2, 0, 14, 30, 63, 127]
theorem spec_l10Resize.tab5 : rtab .any (opsOf Tryz.f27 5) = spec_l10Resize.T5 := by kernel_rfl
theorem spec_l10Resize.bits5 : waitsOk spec_l10Resize.T5.2 spec_l10Resize.B5 = true := by kernel_rfl
set_option maxHeartbeats 8000000 in
set_option maxRecDepth 100000 in
theorem spec_l10Resize.calls (k : Nat) (X : Option Addr) (Y : Nat) (A : List Int) (Z : Option Addr) (a5 : Nat) (B : List Int) (a6 : Option Addr) (a7 : Nat) (D : List (S66)) (a8 : Option Addr) (a9 : Nat) (F : List Int) (a1 : Int) (r1 : List Int) (r2 : List Int) (r3 : List (S66)) (r4 : List Int) (w : World) (e7 : Kd.C (Kd.int .i64) w X A.length A) (e8 : A.length ≤ Y) (e9 : Kd.C (Kd.int .i64) w Z B.length B) (f0 : B.length ≤ a5) (f1 : Kd.C k66 w a6 D.length D) (f2 : D.length ≤ a7) (f3 : Kd.C (Kd.int .i64) w a8 F.length F) (f4 : F.length ≤ a9) (h : spec_l10Resize.f k A B D F a1 = some (r1, r2, r3, r4)) :
    Calls Tryz.prog 27 #[.agg #[.slice X A.length Y, .slice Z B.length a5, .slice a6 D.length a7, .slice a8 F.length a9], .int .i64 a1] w fun e w' => ∃ c8 c9 g9 d0 : Value, e = .returned (.agg #[c8, c9, g9, d0]) ∧ Kd.R (Kd.int .i64) 3 w' w.heap.size (fun k_ => some k_ ≠ (c9 : Value).ownBlock ∧ some k_ ≠ (d0 : Value).ownBlock) c8 r1 ∧ Kd.R (Kd.int .i64) 3 w' w.heap.size (fun k_ => some k_ ≠ (c8 : Value).ownBlock ∧ some k_ ≠ (d0 : Value).ownBlock) c9 r2 ∧ Kd.S k66 66 w' w.heap.size (fun k_ => some k_ ≠ (c8 : Value).ownBlock ∧ some k_ ≠ (c9 : Value).ownBlock ∧ some k_ ≠ (d0 : Value).ownBlock) g9 r3 ∧ Kd.R (Kd.int .i64) 3 w' w.heap.size (fun k_ => some k_ ≠ (c8 : Value).ownBlock ∧ some k_ ≠ (c9 : Value).ownBlock) d0 r4 ∧ Below w.heap.size w w' := by
 have hu26 := Tryz.underlying26; have Zt := zm e7; have Zu := zm e8; clear e7 e8; have Zv := zm e9; have Zw := zm f0; clear e9 f0; have Zx := zm f1; have Zy := zm f2; clear f1 f2; have Zz := zm f3; have ZA := zm f4; clear f3 f4; have HB := zm (Below.refl w.heap.size w); have H := h
 unfold spec_l10Resize.f at H
 clear h; replace H := Option.bind_eq_some_iff.mp H
 obtain ⟨⟨d4, d5, d6, d7⟩, h0, H⟩ := H
 try dsimp only at H
 have A3 := zm h0; clear h0
 have H' := zm H
 clear H
 go_enter Tryz.func27, Tryz.ntmps27
 go_wp2_with (first | ((with_reducible refine gate_dst (N := 2) rfl ?_); refine box_event ?hg (N := 2) ?hd (cs := #[.slice X A.length Y, .slice Z B.length a5, .slice a6 D.length a7, .slice a8 F.length a9]) (t := 26) ?hr ?_; (case hd => rfl); (case hg => rfl); (case hr => first | (go_simp; done) | (go_simp; rfl)); intro l hg w4 hbox hb; have u := zm (below_step (zg_1 HB.out) hb); have x := zm (hbox); have y := zm ((by rw [hg]; exact (below_size (zg_1 HB.out)) : w.heap.size ≤ l)); have z := zm ((by rw [hg]; exact (below_size (zg_1 HB.out)) : w.heap.size ≤ l)); replace HB := u; have Za := x; have ZB := y; have Zi := z; clear u x y z; clear hb hbox hg) | ((with_reducible refine gate_dst (N := 4) rfl ?_); refine box_event ?hg (N := 4) ?hd (cs := #[.slice none 0 0, .slice none 0 0, .slice none 0 0, .slice none 0 0]) (t := 26) ?hr ?_; (case hd => rfl); (case hg => rfl); (case hr => first | (go_simp; done) | (go_simp; rfl)); intro j hg w5 hbox hb; have u := zm (blk_below (g := l) (o := .cells #[.slice X A.length Y, .slice Z B.length a5, .slice a6 D.length a7, .slice a8 F.length a9] 26 (0, 0)) (zg_3 Za.out) hb); have x := zm (below_step (zg_2 HB.out Zi.out) hb); have y := zm (hbox); have z := zm ((by rw [hg]; exact (below_size (zg_2 HB.out Zi.out)) : w.heap.size ≤ j)); have M := zm ((by rw [hg]; exact (below_size (zg_2 HB.out Zi.out)) : w.heap.size ≤ j)); have O := zm ((by rw [hg]; exact Nat.ne_of_lt (blk_lt (g := l) (o := .cells #[.slice X A.length Y, .slice Z B.length a5, .slice a6 D.length a7, .slice a8 F.length a9] 26 (0, 0)) (zg_3 Za.out)) : l ≠ j)); have T := zm ((by rw [hg]; exact Nat.ne_of_gt (blk_lt (g := l) (o := .cells #[.slice X A.length Y, .slice Z B.length a5, .slice a6 D.length a7, .slice a8 F.length a9] 26 (0, 0)) (zg_3 Za.out)) : j ≠ l)); replace Za := u; replace HB := x; have Zf := y; have ZC := z; have Zj := M; have Zh := O; have Ze := T; clear u x y z M O T; clear hb hbox hg; have m7 := Zh.out; have m8 := Ze.out; obtain ⟨_, _, _, _, _, _, _, _⟩ := zb4 Za.out) | ((with_reducible refine gate_callee (f := 31) rfl ?_); refine goesL_ (some 7) rfl rfl Tryz.func31 (by kernel_rfl) rfl #[.agg #[.slice X A.length Y, .slice Z B.length a5, .slice a6 D.length a7, .slice a8 F.length a9]] rfl zq ?_; (with_reducible refine (spec_l10Own.calls k _ _ A _ _ B _ _ D _ _ F d4 d5 d6 d7 _ ?side1 ?side2 ?side3 ?side4 ?side5 ?side6 ?side7 ?side8 A3.out).mono ?_); (case side1 => exact zC (Kd.C_below Zt.out HB.out)); (case side2 => exact Zu.out); (case side3 => exact zC (Kd.C_below Zv.out HB.out)); (case side4 => exact Zw.out); (case side5 => exact zC (Kd.C_below Zx.out HB.out)); (case side6 => exact Zy.out); (case side7 => exact zC (Kd.C_below Zz.out HB.out)); (case side8 => exact ZA.out); rintro e w8 ⟨m9, n0, n1, n2, rfl, V, d1, d2, d3, hb⟩; refine ⟨_, rfl, ?_⟩; have u := zm (Kd.R_lower V (below_size (zg_5 HB.out Zi.out Zj.out))); have x := zm (Kd.R_lower d1 (below_size (zg_5 HB.out Zi.out Zj.out))); have y := zm (Kd.S_lower d2 (below_size (zg_5 HB.out Zi.out Zj.out))); have z := zm (Kd.R_lower d3 (below_size (zg_5 HB.out Zi.out Zj.out))); have M := zm (blk_below (g := l) (o := .cells #[.slice X A.length Y, .slice Z B.length a5, .slice a6 D.length a7, .slice a8 F.length a9] 26 (0, 0)) (zg_3 Za.out) hb); have O := zm (blk_below (g := j) (o := .cells #[.slice none 0 0, .slice none 0 0, .slice none 0 0, .slice none 0 0] 26 (0, 0)) (zg_3 Zf.out) hb); have T := zm (below_step (zg_5 HB.out Zi.out Zj.out) hb); have Zk := u; have Zl := x; have Zm := y; have Zn := z; replace Za := M; replace Zf := O; replace HB := T; clear u x y z M O T; (try clear hb); (try clear hb2); (try clear hk); (try clear hi); (try clear V); (try clear d1); (try clear d2); (try clear d3); obtain ⟨l1, l2, l3⟩ := Kd.R_slice Zk.out; subst l3; obtain ⟨_, _, _, _, _, _, _, _⟩ := zb4 Za.out; obtain ⟨h7, h8, h9⟩ := Kd.R_slice Zl.out; subst h9; obtain ⟨i0, i1, i2⟩ := Kd.S_slice Zm.out; subst i2; obtain ⟨i3, i4, i5⟩ := Kd.R_slice Zn.out; subst i5))
 go_loopg [5] k (fun kq v5 w' => ∃ (m : Int) (a : List Int) (b : List Int) (d : List (S66)) (c : List Int) (q : Value) (I : Value) (b2 : Value) (s : Value), v5 = .int .i64 m ∧ Aside0 (spec_l10Resize.l0 kq a1 m a b d c = some (r1, r2, r3, r4)) ∧ Aside0 (kq ≤ k) ∧ Aside0 (Kd.R (Kd.int .i64) 3 w' w.heap.size (fun k_ => some k_ ≠ (I : Value).ownBlock ∧ some k_ ≠ (s : Value).ownBlock) q a) ∧ Aside0 (Kd.R (Kd.int .i64) 3 w' w.heap.size (fun k_ => some k_ ≠ (q : Value).ownBlock ∧ some k_ ≠ (s : Value).ownBlock) I b) ∧ Aside0 (Kd.S k66 66 w' w.heap.size (fun k_ => some k_ ≠ (q : Value).ownBlock ∧ some k_ ≠ (I : Value).ownBlock ∧ some k_ ≠ (s : Value).ownBlock) b2 d) ∧ Aside0 (Kd.R (Kd.int .i64) 3 w' w.heap.size (fun k_ => some k_ ≠ (q : Value).ownBlock ∧ some k_ ≠ (I : Value).ownBlock) s c) ∧ Aside0 (w'.heap[l]? = some (.cells #[q, I, b2, s] 26 (0, 0))) ∧ Aside0 (w'.heap[j]? = some (.cells #[(.slice none 0 0), (.slice none 0 0), (.slice none 0 0), (.slice none 0 0)] 26 (0, 0))) ∧ Aside0 (Below w.heap.size w w'))
 case atStart => exact ⟨(a1), (d4), (d5), (d6), (d7), (.slice l1 d4.length l2), (.slice h7 d5.length h8), (.slice i0 d6.length i1), (.slice i3 d7.length i4), zr, H', ⟨Nat.le_refl _⟩, ⟨Kd.R_mono (zR4 (Kd.R_types Zk.out Za.out (by decide))) (fun _ hk => ⟨hk.1.1, hk.1.2⟩)⟩, ⟨Kd.R_mono (zR4 (Kd.R_types Zl.out Za.out (by decide))) (fun _ hk => ⟨hk.1.1, hk.1.2⟩)⟩, ⟨Kd.S_mono (zS4 (Kd.S_types Zm.out Za.out (by decide))) (fun _ hk => ⟨hk.1.1, ⟨hk.1.2.1, hk.1.2.2⟩⟩)⟩, ⟨Kd.R_mono (zR4 (Kd.R_types Zn.out Za.out (by decide))) (fun _ hk => ⟨hk.1.1, hk.1.2⟩)⟩, ⟨by exact zput4 Za.out⟩, ⟨by exact zfar4 Zf.out Ze.out⟩, ⟨zg_5 HB.out Zi.out Zj.out⟩⟩
 case round =>
  clear H'
  try clear c2
  try clear p2
  try clear c3
  try clear c6
  obtain ⟨m, a, b, d, c, q, I, b2, s, rfl, HA, h1, Zc, Zb, Zg, Zd, Za, Zf, HB⟩ := hrel
  cases gk with
  | zero => exact absurd HA.out (by simp [spec_l10Resize.l0])
  | succ k1 =>
   have H := HA.out; clear HA
   simp only [spec_l10Resize.l0] at H
   by_cases c4 : m < (b.length : Int)
   rotate_left
   ·rw [if_neg c4] at H
    have g8 := decide_eq_false c4; clear c4; replace H := Option.bind_eq_some_iff.mp H
    obtain ⟨G, f7, H⟩ := H
    try dsimp only at H
    have l4 := zm f7; clear f7
    simp only [Option.some.injEq, Prod.mk.injEq] at H
    obtain ⟨rfl, rfl, rfl, rfl⟩ := H
    have l7 := Zh.out; have l8 := Ze.out
    obtain ⟨_, _, _, _, _, _, _, _⟩ := zb4 Za.out
    obtain ⟨f8, f9, i6⟩ := Kd.R_slice Zb.out
    subst i6
    go_wp2_with (first | ((with_reducible refine gate_callee (f := 49) rfl ?_); refine goesL_ (some 26) rfl rfl Tryz.func49 (by kernel_rfl) rfl #[.slice f8 b.length f9, .int .i64 a1] rfl zq ?_; (with_reducible refine (spec_l09Resize.calls k1 _ _ b a1 G _ ?side1 ?side2 l4.out).mono ?_); (case side1 => exact zC ((Kd.R_reads' Zb.out).2.2)); (case side2 => exact (Kd.R_reads' Zb.out).2.1); rintro e o1 ⟨n4, rfl, V, hb⟩; refine ⟨_, rfl, ?_⟩; have u := zm (Kd.R_elder' (zg_6 Zc.out) (Kd.R_base V) hb); have x := zm (Kd.R_elder' (zg_6 Zb.out) (Kd.R_base V) hb); have y := zm (Kd.S_elder' (zg_11 Zg.out) (Kd.R_base V) hb); have z := zm (Kd.R_elder' (zg_6 Zd.out) (Kd.R_base V) hb); have M := zm (Kd.R_lower (Kd.R_new' (Kd.R_new' (Kd.R_new' V (Kd.R_lt (zg_6 Zc.out))) (Kd.R_lt (zg_6 Zb.out))) (Kd.R_lt (zg_6 Zd.out))) (below_size (zg_5 HB.out Zi.out Zj.out))); have O := zm (blk_below (g := l) (o := .cells #[q, .slice f8 b.length f9, b2, s] 26 (0, 0)) (zg_3 Za.out) hb); have T := zm (blk_below (g := j) (o := .cells #[.slice none 0 0, .slice none 0 0, .slice none 0 0, .slice none 0 0] 26 (0, 0)) (zg_3 Zf.out) hb); have h2 := zm (below_step (zg_5 HB.out Zi.out Zj.out) hb); replace Zc := u; replace Zb := x; replace Zg := y; replace Zd := z; have Zs := M; replace Za := O; replace Zf := T; replace HB := h2; clear u x y z M O T h2; (try clear hb); (try clear hb2); (try clear hk); (try clear hi); (try clear V); obtain ⟨J, L, i7⟩ := Kd.R_slice Zs.out; subst i7; obtain ⟨_, _, _, _, _, _, _, _⟩ := zb4 Za.out; obtain ⟨b0, b1, i8⟩ := Kd.R_slice Zc.out; subst i8; obtain ⟨_, _, _, _, _, _, _, _⟩ := zb4 Zf.out; obtain ⟨b3, b4, i9⟩ := Kd.S_slice Zg.out; subst i9; obtain ⟨c0, c1, j0⟩ := Kd.R_slice Zd.out; subst j0))
    refine bodyPost_ret (results_cell_row rfl _ _ j 26 #[.slice b0 a.length b1, .slice J G.length L, .slice b3 d.length b4, .slice c0 c.length c1] (0, 0) _ rfl (by (with_reducible repeat (first | refine blk_drewN ?_ _ | refine blk_drew ?_ | refine blk_alloc ?_ _)); refine blk_put (cs := #[.slice b0 a.length b1, .slice J G.length L, .slice b3 d.length b4, .slice none 0 0]) ?_ 3 _ rfl; (with_reducible repeat (first | refine blk_drewN ?_ _ | refine blk_drew ?_ | refine blk_alloc ?_ _)); refine blk_put (cs := #[.slice b0 a.length b1, .slice J G.length L, .slice none 0 0, .slice none 0 0]) ?_ 2 _ rfl; (with_reducible repeat (first | refine blk_drewN ?_ _ | refine blk_drew ?_ | refine blk_alloc ?_ _)); refine blk_put (cs := #[.slice b0 a.length b1, .slice none 0 0, .slice none 0 0, .slice none 0 0]) ?_ 1 _ rfl; (with_reducible repeat (first | refine blk_drewN ?_ _ | refine blk_drew ?_ | refine blk_alloc ?_ _)); refine blk_put (cs := #[.slice none 0 0, .slice none 0 0, .slice none 0 0, .slice none 0 0]) ?_ 0 _ rfl; (with_reducible repeat (first | refine blk_drewN ?_ _ | refine blk_drew ?_ | refine blk_alloc ?_ _)); refine blk_far ?_ Ze.out _; (with_reducible repeat (first | refine blk_drewN ?_ _ | refine blk_drew ?_ | refine blk_alloc ?_ _)); exact Zf.out) Tryz.underlying26 rfl (by kernel_rfl)) rfl ?_
    exact ⟨_, _, _, _, ze, by (with_reducible repeat (first | apply Kd.R_alloc | apply Kd.R_drewN | apply Kd.R_drew)); exact Kd.R_mono (Kd.R_far (p := ⟨j, 3, none⟩) (Kd.R_far (p := ⟨j, 2, none⟩) (Kd.R_far (p := ⟨j, 1, none⟩) (Kd.R_far (p := ⟨j, 0, none⟩) (Kd.R_far (p := ⟨l, 1, none⟩) (Kd.R_types (Kd.R_types Zc.out Za.out (by decide)) Zf.out (by decide)) (fun _ hk => hk.1.2) (.slice J G.length L)) (fun _ hk => hk.2) (.slice b0 a.length b1)) (fun _ hk => hk.2) (.slice J G.length L)) (fun _ hk => hk.2) (.slice b3 d.length b4)) (fun _ hk => hk.2) (.slice c0 c.length c1)) (fun _ hk => ⟨hk.1.1.2, hk.1.1.1.2⟩), by (with_reducible repeat (first | apply Kd.R_alloc | apply Kd.R_drewN | apply Kd.R_drew)); exact Kd.R_mono (Kd.R_far (p := ⟨j, 3, none⟩) (Kd.R_far (p := ⟨j, 2, none⟩) (Kd.R_far (p := ⟨j, 1, none⟩) (Kd.R_far (p := ⟨j, 0, none⟩) (Kd.R_far (p := ⟨l, 1, none⟩) (Kd.R_types (Kd.R_types Zs.out Za.out (by decide)) Zf.out (by decide)) (fun _ hk => hk.1.2) (.slice J G.length L)) (fun _ hk => hk.2) (.slice b0 a.length b1)) (fun _ hk => hk.2) (.slice J G.length L)) (fun _ hk => hk.2) (.slice b3 d.length b4)) (fun _ hk => hk.2) (.slice c0 c.length c1)) (fun _ hk => ⟨hk.1.1.1.1.2, hk.1.1.2⟩), by (with_reducible repeat (first | apply Kd.S_alloc | apply Kd.S_drewN | apply Kd.S_drew)); exact Kd.S_mono (Kd.S_far (p := ⟨j, 3, none⟩) (Kd.S_far (p := ⟨j, 2, none⟩) (Kd.S_far (p := ⟨j, 1, none⟩) (Kd.S_far (p := ⟨j, 0, none⟩) (Kd.S_far (p := ⟨l, 1, none⟩) (Kd.S_types (Kd.S_types Zg.out Za.out (by decide)) Zf.out (by decide)) (fun _ hk => hk.1.2) (.slice J G.length L)) (fun _ hk => hk.2) (.slice b0 a.length b1)) (fun _ hk => hk.2) (.slice J G.length L)) (fun _ hk => hk.2) (.slice b3 d.length b4)) (fun _ hk => hk.2) (.slice c0 c.length c1)) (fun _ hk => ⟨hk.1.1.1.1, ⟨hk.1.1.2, hk.1.1.1.2.2⟩⟩), by (with_reducible repeat (first | apply Kd.R_alloc | apply Kd.R_drewN | apply Kd.R_drew)); exact Kd.R_mono (Kd.R_far (p := ⟨j, 3, none⟩) (Kd.R_far (p := ⟨j, 2, none⟩) (Kd.R_far (p := ⟨j, 1, none⟩) (Kd.R_far (p := ⟨j, 0, none⟩) (Kd.R_far (p := ⟨l, 1, none⟩) (Kd.R_types (Kd.R_types Zd.out Za.out (by decide)) Zf.out (by decide)) (fun _ hk => hk.1.2) (.slice J G.length L)) (fun _ hk => hk.2) (.slice b0 a.length b1)) (fun _ hk => hk.2) (.slice J G.length L)) (fun _ hk => hk.2) (.slice b3 d.length b4)) (fun _ hk => hk.2) (.slice c0 c.length c1)) (fun _ hk => ⟨hk.1.1.1.1, hk.1.1.2⟩), zg_5 HB.out Zi.out Zj.out⟩
   rw [if_pos c4] at H; have g8 := decide_eq_true c4; clear c4
   by_cases f5 : 0 ≤ m
   rotate_left
   ·rw [if_neg f5] at H
    exact absurd H (by simp)
   rw [if_pos f5] at H; have l9 := decide_eq_true f5; clear f5; replace H := Option.bind_eq_some_iff.mp H
   obtain ⟨⟨d8, d9, e0, e1⟩, g0, H⟩ := H
   try dsimp only at H
   have l5 := zm g0; clear g0
   have H' := zm H
   clear H; have m0 := Zh.out; have m1 := Ze.out
   obtain ⟨_, _, _, _, _, _, _, _⟩ := zb4 Za.out
   obtain ⟨n5, b5, j1⟩ := Kd.R_slice Zb.out
   subst j1
   try go_wp2
   have u := zm (Kd.R_drew Zc.out); have x := zm (Kd.R_drew Zb.out); have y := zm (Kd.S_drew Zg.out); have z := zm (Kd.R_drew Zd.out); have M := zm (blk_drew Za.out); have O := zm (blk_drew Zf.out); have T := zm (below_drew1 HB.out); clear Zc; clear Zb; clear Zg; clear Zd; clear Za; clear Zf; clear HB; have Zc := u; have Zb := x; have Zg := y; have Zd := z; have Za := M; have Zf := O; have HB := T; clear u x y z M O T
   have e2 : 0 ≤ (m : Int) := zd
   have e3 : m < (b.length : Int) := zd
   obtain ⟨U, j2, hx376_0⟩ := Kd.at_int (Kd.R_reads' Zb.out).2.2 m e2 e3
   cases j2; replace e2 := eq_true e2; replace e3 := eq_true e3
   obtain ⟨b6, b7, g1⟩ := Kd.R_slice Zc.out
   (first | subst g1 | (injection g1 with f1_ f2_ f3_; have f4_ := f1_.symm; have f5_ := f3_.symm; clear f1_ f2_ f3_; subst f4_; subst f5_))
   obtain ⟨c5, c7, g2⟩ := Kd.S_slice Zg.out
   (first | subst g2 | (injection g2 with f1_ f2_ f3_; have f4_ := f1_.symm; have f5_ := f3_.symm; clear f1_ f2_ f3_; subst f4_; subst f5_))
   obtain ⟨b8, b9, g3⟩ := Kd.R_slice Zd.out
   (first | subst g3 | (injection g3 with f1_ f2_ f3_; have f4_ := f1_.symm; have f5_ := f3_.symm; clear f1_ f2_ f3_; subst f4_; subst f5_))
   refine start_ (n := 8) (S := fun w' => w'.cell? ⟨l, 0, none⟩ = some (.slice b6 a.length b7) ∧ w'.cell? ⟨l, 1, none⟩ = some (.slice (some U) b.length b5) ∧ w'.cell? ⟨l, 2, none⟩ = some (.slice c5 d.length c7) ∧ w'.cell? ⟨l, 3, none⟩ = some (.slice b8 c.length b9) ∧ w'.cell? (U.add (m).toNat) = some (.int .i64 (rd b m))) (ds := [6, 7]) #[ff, ff, ff, ff, ff, ff, ff, ff] (by kernel_rfl) rfl rfl ⟨(blk_cell Za.out 0).trans rfl, (blk_cell Za.out 1).trans rfl, (blk_cell Za.out 2).trans rfl, (blk_cell Za.out 3).trans rfl, hx376_0⟩ (fun hHeld => ?_); refine with_tabW spec_l10Resize.tab5 spec_l10Resize.bits5 (fun HT_ HW_ => ?_)
   generalize wr.drew = l6 at Zc Zb Zg Zd Za Zf HB hx376_0 hHeld ⊢
   refine pure_ (i := 1) (N := some 17) (v := ?_) (a' := ?_) #[ff, tt, ff, ff, ff, ff, ff, ff] rfl rfl (any_of HT_.out (by kernel_rfl)) (fun _ _ _ h => h) (Or.inl ⟨by rfl, ?_⟩) ?_ ?_
   rotate_left
   ·intro w'
    go_simp
    with_reducible rfl
   rotate_left
   ·simp only [Act.put, zs, zz, zt, i64_w, i32_w]
    rfl
   refine pure_ (i := 3) (N := some 19) (v := ?_) (a' := ?_) #[ff, tt, ff, tt, ff, ff, ff, ff] rfl rfl (any_of HT_.out (by kernel_rfl)) (fun _ _ _ h => h) (Or.inl ⟨by rfl, ?_⟩) ?_ ?_
   rotate_left
   ·intro w'
    go_simp
    with_reducible rfl
   rotate_left
   ·simp only [Act.put, zs, zz, zt, i64_w, i32_w]
    rfl
   refine take_ (i := 0) (N := some 16) (v := ?_) (a' := ?_) #[tt, tt, ff, tt, ff, ff, ff, ff] rfl rfl (take_ofW HT_.out HW_.out (by kernel_rfl)) (fun _ _ _ h => h) (Or.inl ⟨by rfl, ?_⟩) hHeld ?_ ?_
   rotate_left
   ·rintro w' ⟨s0, s1, s2, s3, s4⟩
    go_simp
    with_reducible rfl
   rotate_left
   ·simp only [Act.put, zs, zz, zt, i64_w, i32_w]
    rfl
   refine take_ (i := 2) (N := some 18) (v := ?_) (a' := ?_) #[tt, tt, tt, tt, ff, ff, ff, ff] rfl rfl (take_ofW HT_.out HW_.out (by kernel_rfl)) (fun _ _ _ h => h) (Or.inl ⟨by rfl, ?_⟩) hHeld ?_ ?_
   rotate_left
   ·rintro w' ⟨s0, s1, s2, s3, s4⟩
    go_simp
    with_reducible rfl
   rotate_left
   ·simp only [Act.put, zs, zz, zt, i64_w, i32_w]
    rfl
   refine pure_ (i := 4) (N := some 20) (v := ?_) (a' := ?_) #[tt, tt, tt, tt, tt, ff, ff, ff] rfl rfl (any_of HT_.out (by kernel_rfl)) (fun _ _ _ h => h) (Or.inl ⟨by rfl, ?_⟩) ?_ ?_
   rotate_left
   ·intro w'
    go_simp
    with_reducible rfl
   rotate_left
   ·simp only [Act.put, zs, zz, zt, i64_w, i32_w]
    rfl
   refine take_ (i := 5) (N := some 21) (v := ?_) (a' := ?_) #[tt, tt, tt, tt, tt, tt, ff, ff] rfl rfl (take_ofW HT_.out HW_.out (by kernel_rfl)) (fun _ _ _ h => h) (Or.inl ⟨by rfl, ?_⟩) hHeld ?_ ?_
   rotate_left
   ·rintro w' ⟨s0, s1, s2, s3, s4⟩
    go_simp
    with_reducible rfl
   rotate_left
   ·simp only [Act.put, zs, zz, zt, i64_w, i32_w]
    rfl
   refine last_ (i := 6) (N := some 22) #[tt, tt, tt, tt, tt, tt, tt, ff] rfl rfl (one_of HT_.out (by kernel_rfl)) (by decide) (fun K hK => ?_)
   refine goes_ Tryz.func48 (by kernel_rfl) rfl #[.agg #[.slice b6 a.length b7, .slice (some U) b.length b5, .slice c5 d.length c7, .slice b8 c.length b9], .int .i64 (rd b m)] (by rfl) rfl rfl zq ?_
   with_reducible refine (spec_l10Drop.calls (fun k_ => some k_ = (.slice b6 a.length b7 : Value).ownBlock) (.slice b6 a.length b7) a (fun k_ => some k_ = (.slice (some U) b.length b5 : Value).ownBlock) (.slice (some U) b.length b5) b (fun k_ => ((some k_ ≠ (.slice b6 a.length b7 : Value).ownBlock ∧ (some k_ ≠ (.slice (some U) b.length b5 : Value).ownBlock ∧ some k_ ≠ (.slice b8 c.length b9 : Value).ownBlock))) ∧ ∃ q_, q_ ∈ (66 :: (k66).E) ∧ ∃ cs_, l6.heap[k_]? = some (.cells cs_ q_ (0, 0))) (.slice c5 d.length c7) d (fun k_ => some k_ = (.slice b8 c.length b9 : Value).ownBlock) (.slice b8 c.length b9) c (rd b m) d8 d9 e0 e1 w _ ?side1 ?side2 ?side3 ?side4 ?side5 ?side6 ?side7 ?side8 ?side9 ?side10 ?side11 ?side12 ?side13 ?side14 ?side15 ?side16 ?side17 l5.out).mono ?_
   (case side1 => exact (zg_5 HB.out Zi.out Zj.out))
   (case side2 => exact Kd.R_tight rfl Zc.out)
   (case side3 => exact fun k_ e_ => (Zc.out.1 k_ e_.symm).1)
   (case side4 => exact fun k_ e_ hP_ => (hP_.1.1) e_)
   (case side5 => exact fun k_ e_ => (Zc.out.1 k_ e_.symm).2)
   (case side6 => exact Kd.R_tight rfl Zb.out)
   (case side7 => exact fun k_ e_ => (Zb.out.1 k_ e_.symm).1)
   (case side8 => exact fun k_ e_ hP_ => (hP_.1.2.1) e_)
   (case side9 => exact fun k_ e_ => (Zb.out.1 k_ e_.symm).2)
   (case side10 => exact Kd.S_mono (Kd.S_bound (Zg.out)) (fun k_ h_ => ⟨h_.1, h_.2.2.2⟩))
   (case side11 => exact fun k_ hP_ e_ => (hP_.1.1) e_)
   (case side12 => exact fun k_ hP_ e_ => (hP_.1.2.1) e_)
   (case side13 => exact fun k_ hP_ e_ => (hP_.1.2.2) e_)
   (case side14 => exact Kd.R_tight rfl Zd.out)
   (case side15 => exact fun k_ e_ => (Zd.out.1 k_ e_.symm).1)
   (case side16 => exact fun k_ e_ => (Zd.out.1 k_ e_.symm).2)
   (case side17 => exact fun k_ e_ hP_ => (hP_.1.2.2) e_)
   rintro e f6 ⟨e4, e5, n6, e6, rfl, V, d1, d2, d3, hb, hkp⟩
   refine ⟨_, rfl, ?_⟩
   have u := zm (blk_kept (zg_3 Za.out) hkp (fun hs_ => Or.elim hs_ (fun e_ => (fun e_ => (Kd.R_ne Zc.out Za.out (by decide)) e_) e_) (fun e_ => Or.elim e_ (fun e_ => (fun e_ => (Kd.R_ne Zb.out Za.out (by decide)) e_) e_) (fun e_ => Or.elim e_ (fun e_ => (fun hP_ => (by obtain ⟨_, q_, hq_, cs_, hc_⟩ := hP_; have hb_ := Za.out; rw [hb_] at hc_; injection hc_ with hc_; injection hc_ with _ h2_; rw [← h2_] at hq_; exact absurd hq_ (by decide))) e_) (fun e_ => (fun e_ => (Kd.R_ne Zd.out Za.out (by decide)) e_) e_))))); have x := zm (blk_kept (zg_3 Zf.out) hkp (fun hs_ => Or.elim hs_ (fun e_ => (fun e_ => (Kd.R_ne Zc.out Zf.out (by decide)) e_) e_) (fun e_ => Or.elim e_ (fun e_ => (fun e_ => (Kd.R_ne Zb.out Zf.out (by decide)) e_) e_) (fun e_ => Or.elim e_ (fun e_ => (fun hP_ => (by obtain ⟨_, q_, hq_, cs_, hc_⟩ := hP_; have hb_ := Zf.out; rw [hb_] at hc_; injection hc_ with hc_; injection hc_ with _ h2_; rw [← h2_] at hq_; exact absurd hq_ (by decide))) e_) (fun e_ => (fun e_ => (Kd.R_ne Zd.out Zf.out (by decide)) e_) e_))))); have y := zm (Kd.R_mono (ok' := fun k_ => some k_ ≠ (e5 : Value).ownBlock ∧ some k_ ≠ (e6 : Value).ownBlock) V (fun k_ hk_ => ⟨hk_.2.1, hk_.2.2⟩)); have z := zm (Kd.R_mono (ok' := fun k_ => some k_ ≠ (e4 : Value).ownBlock ∧ some k_ ≠ (e6 : Value).ownBlock) d1 (fun k_ hk_ => ⟨hk_.2.1, hk_.2.2⟩)); have M := zm (Kd.S_mono (ok' := fun k_ => some k_ ≠ (e4 : Value).ownBlock ∧ some k_ ≠ (e5 : Value).ownBlock ∧ some k_ ≠ (e6 : Value).ownBlock) d2 (fun k_ hk_ => ⟨hk_.2.1, hk_.2.2.1, hk_.2.2.2⟩)); have O := zm (Kd.R_mono (ok' := fun k_ => some k_ ≠ (e4 : Value).ownBlock ∧ some k_ ≠ (e5 : Value).ownBlock) d3 (fun k_ hk_ => ⟨hk_.2.1, hk_.2.2⟩)); have T := zm (hb); clear Za; clear Zf; clear HB; clear Zc; clear Zb; clear Zg; clear Zd; have Za := u; have Zf := x; have Zo := y; have Zp := z; have Zq := M; have Zr := O; have HB := T; clear u x y z M O T
   (try clear hb)
   (try clear hkp)
   (try clear V)
   (try clear d1)
   (try clear d2)
   (try clear d3)
   obtain ⟨j3, j4, g4⟩ := Kd.R_slice Zo.out
   (first | subst g4 | (injection g4 with f1_ f2_ f3_; have f4_ := f1_.symm; have f5_ := f3_.symm; clear f1_ f2_ f3_; subst f4_; subst f5_))
   obtain ⟨j5, j6, g5⟩ := Kd.R_slice Zp.out
   (first | subst g5 | (injection g5 with f1_ f2_ f3_; have f4_ := f1_.symm; have f5_ := f3_.symm; clear f1_ f2_ f3_; subst f4_; subst f5_))
   obtain ⟨j7, j8, g6⟩ := Kd.S_slice Zq.out
   (first | subst g6 | (injection g6 with f1_ f2_ f3_; have f4_ := f1_.symm; have f5_ := f3_.symm; clear f1_ f2_ f3_; subst f4_; subst f5_))
   obtain ⟨j9, k0, g7⟩ := Kd.R_slice Zr.out
   (first | subst g7 | (injection g7 with f1_ f2_ f3_; have f4_ := f1_.symm; have f5_ := f3_.symm; clear f1_ f2_ f3_; subst f4_; subst f5_))
   refine hK.out _ _ ?_
   clear hK K
   refine norm_ (a' := ?_) ?_ ?_
   rotate_left
   ·show Act.put _ (some 22) _ = _
    simp only [Act.put, zs, zz, zt, i64_w, i32_w]
    rfl
   refine last_ (i := 7) (N := none) #[tt, tt, tt, tt, tt, tt, tt, tt] rfl rfl (one_of HT_.out (by kernel_rfl)) (by decide) (fun K hK => ?_)
   have n7 : f6.cell? ⟨l, 0, none⟩ = some (.slice b6 a.length b7) := (blk_cell Za.out 0).trans rfl
   have m2 := blk_frozen Za.out 0; have k2 := Ze.out; have k3 := Zh.out
   have n8 : f6.cell? ⟨l, 1, none⟩ = some (.slice (some U) b.length b5) := (blk_cell Za.out 1).trans rfl
   have m3 := blk_frozen Za.out 1; have k4 := Ze.out; have k5 := Zh.out
   have n9 : f6.cell? ⟨l, 2, none⟩ = some (.slice c5 d.length c7) := (blk_cell Za.out 2).trans rfl
   have m4 := blk_frozen Za.out 2; have k6 := Ze.out; have k7 := Zh.out
   have o0 : f6.cell? ⟨l, 3, none⟩ = some (.slice b8 c.length b9) := (blk_cell Za.out 3).trans rfl
   have m5 := blk_frozen Za.out 3; have k8 := Ze.out; have k9 := Zh.out
   refine skip_ (w1 := ?_) (by rfl) rfl ?_ ?_
   rotate_left
   ·go_simp
    rfl
   refine hK.out _ _ ?_
   clear hK K
   refine done_ (done_of HT_.out (by kernel_rfl)) ?_
   try go_wp2
   go_roundg k1
   case measure => have := h1.out; omega
   case rel => exact ⟨(wrap64 (m + 1)), (d8), (d9), (e0), (e1), (.slice j3 d8.length j4), (.slice j5 d9.length j6), (.slice j7 e0.length j8), (.slice j9 e1.length k0), zr, H', ⟨by have := h1.out; omega⟩, ⟨Kd.R_mono (zR4 (Kd.R_types Zo.out Za.out (by decide))) (fun _ hk => ⟨hk.1.1, hk.1.2⟩)⟩, ⟨Kd.R_mono (zR4 (Kd.R_types Zp.out Za.out (by decide))) (fun _ hk => ⟨hk.1.1, hk.1.2⟩)⟩, ⟨Kd.S_mono (zS4 (Kd.S_types Zq.out Za.out (by decide))) (fun _ hk => ⟨hk.1.1, ⟨hk.1.2.1, hk.1.2.2⟩⟩)⟩, ⟨Kd.R_mono (zR4 (Kd.R_types Zr.out Za.out (by decide))) (fun _ hk => ⟨hk.1.1, hk.1.2⟩)⟩, ⟨by exact zput4 Za.out⟩, ⟨by exact zfar4 Zf.out Ze.out⟩, ⟨zg_5 HB.out Zi.out Zj.out⟩⟩
def spec_l10Revert.l0 : Nat → Int → Int → List Int → List Int → List (S66) → List Int → Option (List Int × List Int × (List (S66)) × List Int × Int)
  | 0, _, _, _, _, _, _ => none
  | k + 1, x6, x7, x305000, x305001, x305002, x305003 => if x7 < (x305001.length : Int) then (if 0 ≤ x7 then ((spec_l10Drop.f x305000 x305001 x305002 x305003 (rd x305001 x7)).bind fun bt333 => (spec_l10Revert.l0 k x6 (wrap64 (x7 + 1)) bt333.1 bt333.2.1 bt333.2.2.1 bt333.2.2.2)) else (none)) else ((some (([] : List Int) : List Int)).bind fun y345 => (if 0 ≤ x6 then (if x6 < (x305002.length : Int) then (if y345.length + ((rd_T66 x305002 x6).f1).length < 17592186044416 then (some (x305000, (y345 ++ ((rd_T66 x305002 x6).f1)), x305002, x305003, 0)) else (none)) else (none)) else (none)))
def spec_l10Revert.f (k : Nat) (l0_0 : List Int) (l0_1 : List Int) (l0_2 : List (S66)) (l0_3 : List Int) (a1 : ByteArray) : Option (List Int × List Int × (List (S66)) × List Int × Int) := (spec_l10Own.f k l0_0 l0_1 l0_2 l0_3).bind fun bt306 => ((spec_l10Find.f k bt306.1 bt306.2.1 bt306.2.2.1 bt306.2.2.2 a1).bind fun t318 => (if t318 < 0 then (some (bt306.1, bt306.2.1, bt306.2.2.1, bt306.2.2.2, 5)) else (if 0 ≤ t318 then (if t318 < (bt306.2.2.1.length : Int) then ((spec_l10Raise.f k bt306.1 bt306.2.1 bt306.2.2.1 bt306.2.2.2 ((rd_T66 bt306.2.2.1 t318).f1)).bind fun bt320 => (spec_l10Revert.l0 k t318 0 bt320.1 bt320.2.1 bt320.2.2.1 bt320.2.2.2)) else (none)) else (none))))
theorem spec_l10Revert.mono_l : ∀ k, (∀ y0 y1 y2 y3 y4 y5, LeO (spec_l10Revert.l0 k y0 y1 y2 y3 y4 y5) (spec_l10Revert.l0 (k + 1) y0 y1 y2 y3 y4 y5))
  | 0 => fun _ _ _ _ _ _ r h => by simp [spec_l10Revert.l0] at h
  | k + 1 => by
    have ih0 := spec_l10Revert.mono_l k
    · intro y0 y1 y2 y3 y4 y5
      unfold spec_l10Revert.l0
      repeat' first| (with_reducible first | exact ih0 _ _ _ _ _ _ | exact spec_l10Find.mono _ _ _ _ _ _ | exact spec_l10Own.mono _ _ _ _ _ | exact spec_l10Raise.mono _ _ _ _ _ _ | exact LeO.refl _ | exact LeO.none _ | refine LeO.ite ?_ ?_ | refine LeO.bind ?_ (fun _ => ?_)) | exact ih0 _ _ _ _ _ _ | exact LeO.none _ | refine LeO.ite ?_ ?_ | refine LeO.bind ?_ (fun _ => ?_)
theorem spec_l10Revert.mono : ∀ a0 a1 a2 a3 a4 k, LeO (spec_l10Revert.f k a0 a1 a2 a3 a4) (spec_l10Revert.f (k + 1) a0 a1 a2 a3 a4) := by
  intro a0 a1 a2 a3 a4 k
  have ih0 := spec_l10Revert.mono_l k
  unfold spec_l10Revert.f
  repeat' first| (with_reducible first | exact ih0 _ _ _ _ _ _ | exact spec_l10Find.mono _ _ _ _ _ _ | exact spec_l10Own.mono _ _ _ _ _ | exact spec_l10Raise.mono _ _ _ _ _ _ | exact LeO.refl _ | exact LeO.none _ | refine LeO.ite ?_ ?_ | refine LeO.bind ?_ (fun _ => ?_)) | exact ih0 _ _ _ _ _ _ | exact LeO.none _ | refine LeO.ite ?_ ?_ | refine LeO.bind ?_ (fun _ => ?_)
def spec_l10Revert.T5 : Bool × List (List Nat × List Nat) := (true, [([], []), ([], []), ([1], [1]), ([], []), ([2, 3], [2, 3]), ([4], [4]), ([5], [5]), ([0, 6], [0, 6]), ([7, 7, 0, 1, 2, 3, 4, 5, 6, 7], [7])])
def spec_l10Revert.B5 : List Nat := [0, 0, 2, 0, 14, 30, 62, 127, 255]
theorem spec_l10Revert.tab5 : rtab .any (opsOf Tryz.f26 5) = spec_l10Revert.T5 := by kernel_rfl
theorem spec_l10Revert.bits5 : waitsOk spec_l10Revert.T5.2 spec_l10Revert.B5 = true := by kernel_rfl
def spec_l10Revert.T9 : Bool × List (List Nat × List Nat) := (true, [([], []), ([], []), ([1], [1]), ([], []), ([2, 3], [2, 3]), ([4], [4]), ([0, 5], [0, 5]), ([6, 6, 0, 1, 2, 3, 4, 5, 6], [6])])
def spec_l10Revert.B9 : List Nat := [0, 0, 2, 0, 14, 30, 63, 127]
theorem spec_l10Revert.tab9 : rtab .any (opsOf Tryz.f26 9) = spec_l10Revert.T9 := by kernel_rfl
theorem spec_l10Revert.bits9 : waitsOk spec_l10Revert.T9.2 spec_l10Revert.B9 = true := by kernel_rfl
set_option maxHeartbeats 8000000 in
set_option maxRecDepth 100000 in
theorem spec_l10Revert.calls (k : Nat) (V : Option Addr) (X : Nat) (M : List Int) (Y : Option Addr) (Z : Nat) (O : List Int) (a5 : Option Addr) (a6 : Nat) (T : List (S66)) (a7 : Option Addr) (a8 : Nat) (U : List Int) (a1 : ByteArray) (r1 : List Int) (r2 : List Int) (r3 : List (S66)) (r4 : List Int) (r5 : Int) (w : World) (j5 : Kd.C (Kd.int .i64) w V M.length M) (j6 : M.length ≤ X) (j7 : Kd.C (Kd.int .i64) w Y O.length O) (j8 : O.length ≤ Z) (j9 : Kd.C k66 w a5 T.length T) (k0 : T.length ≤ a6) (k2 : Kd.C (Kd.int .i64) w a7 U.length U) (k3 : U.length ≤ a8) (h : spec_l10Revert.f k M O T U a1 = some (r1, r2, r3, r4, r5)) :
    Calls Tryz.prog 26 #[.agg #[.slice V M.length X, .slice Y O.length Z, .slice a5 T.length a6, .slice a7 U.length a8], .string a1] w fun e w' => ∃ h0 h1 n6 h2 : Value, e = .returned (.tuple #[.agg #[h0, h1, n6, h2], .int .i64 r5]) ∧ Kd.R (Kd.int .i64) 3 w' w.heap.size (fun k_ => some k_ ≠ (h1 : Value).ownBlock ∧ some k_ ≠ (h2 : Value).ownBlock) h0 r1 ∧ Kd.R (Kd.int .i64) 3 w' w.heap.size (fun k_ => some k_ ≠ (h0 : Value).ownBlock ∧ some k_ ≠ (h2 : Value).ownBlock) h1 r2 ∧ Kd.S k66 66 w' w.heap.size (fun k_ => some k_ ≠ (h0 : Value).ownBlock ∧ some k_ ≠ (h1 : Value).ownBlock ∧ some k_ ≠ (h2 : Value).ownBlock) n6 r3 ∧ Kd.R (Kd.int .i64) 3 w' w.heap.size (fun k_ => some k_ ≠ (h0 : Value).ownBlock ∧ some k_ ≠ (h1 : Value).ownBlock) h2 r4 ∧ Below w.heap.size w w' := by
 have hu26 := Tryz.underlying26; have Zu := zm j5; have Zv := zm j6; clear j5 j6; have Zw := zm j7; have Zx := zm j8; clear j7 j8; have Zy := zm j9; have Zz := zm k0; clear j9 k0; have ZA := zm k2; have ZB := zm k3; clear k2 k3; have HB := zm (Below.refl w.heap.size w); have H := h
 unfold spec_l10Revert.f at H
 clear h; replace H := Option.bind_eq_some_iff.mp H
 obtain ⟨⟨D, F, I, G⟩, n7, H⟩ := H
 try dsimp only at H
 have A3 := zm n7; clear n7; replace H := Option.bind_eq_some_iff.mp H
 obtain ⟨y, n8, H⟩ := H
 try dsimp only at H
 have A4 := zm n8; clear n8
 by_cases c5 : y < 0
 ·rw [if_pos c5] at H
  have l7 := decide_eq_true c5; clear c5
  simp only [Option.some.injEq, Prod.mk.injEq] at H
  obtain ⟨rfl, rfl, rfl, rfl, rfl⟩ := H
  go_enter Tryz.func26, Tryz.ntmps26
  go_wp2_with (first | ((with_reducible refine gate_dst (N := 2) rfl ?_); refine box_event ?hg (N := 2) ?hd (cs := #[.slice V M.length X, .slice Y O.length Z, .slice a5 T.length a6, .slice a7 U.length a8]) (t := 26) ?hr ?_; (case hd => rfl); (case hg => rfl); (case hr => first | (go_simp; done) | (go_simp; rfl)); intro a hg w6 hbox hb; have q := zm (below_step (zg_1 HB.out) hb); have s := zm (hbox); have u := zm ((by rw [hg]; exact (below_size (zg_1 HB.out)) : w.heap.size ≤ a)); have x := zm ((by rw [hg]; exact (below_size (zg_1 HB.out)) : w.heap.size ≤ a)); replace HB := q; have Za := s; have ZL := u; have Zi := x; clear q s u x; clear hb hbox hg) | ((with_reducible refine gate_dst (N := 4) rfl ?_); refine box_event ?hg (N := 4) ?hd (cs := #[.slice none 0 0, .slice none 0 0, .slice none 0 0, .slice none 0 0]) (t := 26) ?hr ?_; (case hd => rfl); (case hg => rfl); (case hr => first | (go_simp; done) | (go_simp; rfl)); intro l hg w7 hbox hb; have q := zm (blk_below (g := a) (o := .cells #[.slice V M.length X, .slice Y O.length Z, .slice a5 T.length a6, .slice a7 U.length a8] 26 (0, 0)) (zg_3 Za.out) hb); have s := zm (below_step (zg_2 HB.out Zi.out) hb); have u := zm (hbox); have x := zm ((by rw [hg]; exact (below_size (zg_2 HB.out Zi.out)) : w.heap.size ≤ l)); have z := zm ((by rw [hg]; exact (below_size (zg_2 HB.out Zi.out)) : w.heap.size ≤ l)); have A := zm ((by rw [hg]; exact Nat.ne_of_lt (blk_lt (g := a) (o := .cells #[.slice V M.length X, .slice Y O.length Z, .slice a5 T.length a6, .slice a7 U.length a8] 26 (0, 0)) (zg_3 Za.out)) : a ≠ l)); have B := zm ((by rw [hg]; exact Nat.ne_of_gt (blk_lt (g := a) (o := .cells #[.slice V M.length X, .slice Y O.length Z, .slice a5 T.length a6, .slice a7 U.length a8] 26 (0, 0)) (zg_3 Za.out)) : l ≠ a)); replace Za := q; replace HB := s; have Zb := u; have ZM := x; have Zn := z; have Zh := A; have Zc := B; clear q s u x z A B; clear hb hbox hg; have z0 := Zh.out; have z1 := Zc.out; obtain ⟨_, _, _, _, _, _, _, _⟩ := zb4 Za.out) | ((with_reducible refine gate_callee (f := 31) rfl ?_); refine goesL_ (some 9) rfl rfl Tryz.func31 (by kernel_rfl) rfl #[.agg #[.slice V M.length X, .slice Y O.length Z, .slice a5 T.length a6, .slice a7 U.length a8]] rfl zq ?_; (with_reducible refine (spec_l10Own.calls k _ _ M _ _ O _ _ T _ _ U D F I G _ ?side1 ?side2 ?side3 ?side4 ?side5 ?side6 ?side7 ?side8 A3.out).mono ?_); (case side1 => exact zC (Kd.C_below Zu.out HB.out)); (case side2 => exact Zv.out); (case side3 => exact zC (Kd.C_below Zw.out HB.out)); (case side4 => exact Zx.out); (case side5 => exact zC (Kd.C_below Zy.out HB.out)); (case side6 => exact Zz.out); (case side7 => exact zC (Kd.C_below ZA.out HB.out)); (case side8 => exact ZB.out); rintro e v1 ⟨o1, o2, o3, o4, rfl, d6, d7, d8, d9, hb⟩; refine ⟨_, rfl, ?_⟩; have q := zm (Kd.R_lower d6 (below_size (zg_5 HB.out Zi.out Zn.out))); have s := zm (Kd.R_lower d7 (below_size (zg_5 HB.out Zi.out Zn.out))); have u := zm (Kd.S_lower d8 (below_size (zg_5 HB.out Zi.out Zn.out))); have x := zm (Kd.R_lower d9 (below_size (zg_5 HB.out Zi.out Zn.out))); have z := zm (blk_below (g := a) (o := .cells #[.slice V M.length X, .slice Y O.length Z, .slice a5 T.length a6, .slice a7 U.length a8] 26 (0, 0)) (zg_3 Za.out) hb); have A := zm (blk_below (g := l) (o := .cells #[.slice none 0 0, .slice none 0 0, .slice none 0 0, .slice none 0 0] 26 (0, 0)) (zg_3 Zb.out) hb); have B := zm (below_step (zg_5 HB.out Zi.out Zn.out) hb); have Zj := q; have Zk := s; have Zm := u; have Zl := x; replace Za := z; replace Zb := A; replace HB := B; clear q s u x z A B; (try clear hb); (try clear hb2); (try clear hk); (try clear hi); (try clear d6); (try clear d7); (try clear d8); (try clear d9); obtain ⟨c1, c6, o5⟩ := Kd.R_slice Zj.out; subst o5; obtain ⟨_, _, _, _, _, _, _, _⟩ := zb4 Za.out; obtain ⟨c7, c9, o6⟩ := Kd.R_slice Zk.out; subst o6; obtain ⟨e6, e7, o7⟩ := Kd.S_slice Zm.out; subst o7; obtain ⟨d0, d1, o8⟩ := Kd.R_slice Zl.out; subst o8) | ((with_reducible refine gate_store (t := 26) (p := 2) rfl ?_); refine store_event (t := 26) (p := 2) (v := ?vo_w16) (w1 := ((((v1.setCell ⟨a, 0, none⟩ (.slice c1 D.length c6)).setCell ⟨a, 1, none⟩ (.slice c7 F.length c9)).setCell ⟨a, 2, none⟩ (.slice e6 I.length e7)).setCell ⟨a, 3, none⟩ (.slice d0 G.length d1))) ?hg ?ho ?hn ?hr ?_; (case ho => rfl); (case hg => rfl); (case hn => rfl); (case hr => first | (go_simp; done) | (go_simp; rfl)); intro f5 hw; have q : Aside0 (Kd.R (Kd.int .i64) 3 f5 w.heap.size (fun k_ => some k_ ≠ (.slice c7 F.length c9 : Value).ownBlock ∧ some k_ ≠ (.slice d0 G.length d1 : Value).ownBlock) (.slice c1 D.length c6) D) := ⟨(by rw [hw]; exact (Kd.R_mono (zR4 (Kd.R_types Zj.out Za.out (by decide))) (fun _ hk => ⟨hk.1.1, hk.1.2⟩)))⟩; have s : Aside0 (Kd.R (Kd.int .i64) 3 f5 w.heap.size (fun k_ => some k_ ≠ (.slice c1 D.length c6 : Value).ownBlock ∧ some k_ ≠ (.slice d0 G.length d1 : Value).ownBlock) (.slice c7 F.length c9) F) := ⟨(by rw [hw]; exact (Kd.R_mono (zR4 (Kd.R_types Zk.out Za.out (by decide))) (fun _ hk => ⟨hk.1.1, hk.1.2⟩)))⟩; have u : Aside0 (Kd.S k66 66 f5 w.heap.size (fun k_ => some k_ ≠ (.slice c1 D.length c6 : Value).ownBlock ∧ some k_ ≠ (.slice c7 F.length c9 : Value).ownBlock ∧ some k_ ≠ (.slice d0 G.length d1 : Value).ownBlock) (.slice e6 I.length e7) I) := ⟨(by rw [hw]; exact (Kd.S_mono (zS4 (Kd.S_types Zm.out Za.out (by decide))) (fun _ hk => ⟨hk.1.1, ⟨hk.1.2.1, hk.1.2.2⟩⟩)))⟩; have x : Aside0 (Kd.R (Kd.int .i64) 3 f5 w.heap.size (fun k_ => some k_ ≠ (.slice c1 D.length c6 : Value).ownBlock ∧ some k_ ≠ (.slice c7 F.length c9 : Value).ownBlock) (.slice d0 G.length d1) G) := ⟨(by rw [hw]; exact (Kd.R_mono (zR4 (Kd.R_types Zl.out Za.out (by decide))) (fun _ hk => ⟨hk.1.1, hk.1.2⟩)))⟩; have z : Aside0 (f5.heap[a]? = some (.cells #[.slice c1 D.length c6, .slice c7 F.length c9, .slice e6 I.length e7, .slice d0 G.length d1] 26 (0, 0))) := ⟨(by rw [hw]; exact (by exact zput4 Za.out))⟩; have A : Aside0 (f5.heap[l]? = some (.cells #[.slice none 0 0, .slice none 0 0, .slice none 0 0, .slice none 0 0] 26 (0, 0))) := ⟨(by rw [hw]; exact (by exact zfar4 Zb.out Zc.out))⟩; have B : Aside0 (Below w.heap.size w f5) := ⟨(by rw [hw]; exact (zg_5 HB.out Zi.out Zn.out))⟩; clear hw; replace Zj := q; replace Zk := s; replace Zm := u; replace Zl := x; replace Za := z; replace Zb := A; replace HB := B; clear q s u x z A B; obtain ⟨_, _, _, _, _, _, _, _⟩ := zb4 Za.out) | ((with_reducible refine gate_callee (f := 45) rfl ?_); refine goesL_ (some 12) rfl rfl Tryz.func45 (by kernel_rfl) rfl #[.agg #[.slice c1 D.length c6, .slice c7 F.length c9, .slice e6 I.length e7, .slice d0 G.length d1], .string a1] rfl zq ?_; (with_reducible refine (spec_l10Find.calls k _ _ D _ _ F _ _ I _ _ G a1 y _ ?side1 ?side2 ?side3 ?side4 ?side5 ?side6 ?side7 ?side8 A4.out).mono ?_); (case side1 => exact zC ((Kd.R_reads' Zj.out).2.2)); (case side2 => exact (Kd.R_reads' Zj.out).2.1); (case side3 => exact zC ((Kd.R_reads' Zk.out).2.2)); (case side4 => exact (Kd.R_reads' Zk.out).2.1); (case side5 => exact zC ((Kd.S_reads' Zm.out).2.2)); (case side6 => exact (Kd.S_reads' Zm.out).2.1); (case side7 => exact zC ((Kd.R_reads' Zl.out).2.2)); (case side8 => exact (Kd.R_reads' Zl.out).2.1); rintro e A8 ⟨rfl, hb⟩; refine ⟨_, rfl, ?_⟩; have q := zm (Kd.R_below (zg_6 Zj.out) hb); have s := zm (Kd.R_below (zg_6 Zk.out) hb); have u := zm (Kd.S_below (zg_11 Zm.out) hb); have x := zm (Kd.R_below (zg_6 Zl.out) hb); have z := zm (blk_below (g := a) (o := .cells #[.slice c1 D.length c6, .slice c7 F.length c9, .slice e6 I.length e7, .slice d0 G.length d1] 26 (0, 0)) (zg_3 Za.out) hb); have A := zm (blk_below (g := l) (o := .cells #[.slice none 0 0, .slice none 0 0, .slice none 0 0, .slice none 0 0] 26 (0, 0)) (zg_3 Zb.out) hb); have B := zm (below_step (zg_5 HB.out Zi.out Zn.out) hb); replace Zj := q; replace Zk := s; replace Zm := u; replace Zl := x; replace Za := z; replace Zb := A; replace HB := B; clear q s u x z A B; (try clear hb); (try clear hb2); (try clear hk); (try clear hi); obtain ⟨_, _, _, _, _, _, _, _⟩ := zb4 Za.out; obtain ⟨_, _, _, _, _, _, _, _⟩ := zb4 Zb.out))
  refine bodyPost_ret (results_ct rfl _ _ l 26 #[.slice c1 D.length c6, .slice c7 F.length c9, .slice e6 I.length e7, .slice d0 G.length d1] (0, 0) _ rfl (by exact zput4 Zb.out) Tryz.underlying26 rfl (by kernel_rfl)) rfl ?_
  exact ⟨_, _, _, _, ze, Kd.R_mono (zR4 (Kd.R_types Zj.out Zb.out (by decide))) (fun _ hk => ⟨hk.1.1, hk.1.2⟩), Kd.R_mono (zR4 (Kd.R_types Zk.out Zb.out (by decide))) (fun _ hk => ⟨hk.1.1, hk.1.2⟩), Kd.S_mono (zS4 (Kd.S_types Zm.out Zb.out (by decide))) (fun _ hk => ⟨hk.1.1, ⟨hk.1.2.1, hk.1.2.2⟩⟩), Kd.R_mono (zR4 (Kd.R_types Zl.out Zb.out (by decide))) (fun _ hk => ⟨hk.1.1, hk.1.2⟩), zg_5 HB.out Zi.out Zn.out⟩
 rw [if_neg c5] at H; have l7 := decide_eq_false c5; clear c5
 by_cases h3 : 0 ≤ y
 rotate_left
 ·rw [if_neg h3] at H
  exact absurd H (by simp)
 rw [if_pos h3] at H; have n1 := decide_eq_true h3; clear h3
 by_cases h4 : y < (I.length : Int)
 rotate_left
 ·rw [if_neg h4] at H
  exact absurd H (by simp)
 rw [if_pos h4] at H; have n2 := decide_eq_true h4; clear h4; replace H := Option.bind_eq_some_iff.mp H
 obtain ⟨⟨h9, i0, i1, i2⟩, l8, H⟩ := H
 try dsimp only at H
 have v2 := zm l8; clear l8
 have H' := zm H
 clear H
 go_enter Tryz.func26, Tryz.ntmps26
 try go_wp2_with (first | ((with_reducible refine gate_dst (N := 2) rfl ?_); refine box_event ?hg (N := 2) ?hd (cs := #[.slice V M.length X, .slice Y O.length Z, .slice a5 T.length a6, .slice a7 U.length a8]) (t := 26) ?hr ?_; (case hd => rfl); (case hg => rfl); (case hr => first | (go_simp; done) | (go_simp; rfl)); intro a hg A9 hbox hb; have q := zm (below_step (zg_1 HB.out) hb); have s := zm (hbox); have u := zm ((by rw [hg]; exact (below_size (zg_1 HB.out)) : w.heap.size ≤ a)); have x := zm ((by rw [hg]; exact (below_size (zg_1 HB.out)) : w.heap.size ≤ a)); replace HB := q; have Za := s; have ZL := u; have Zi := x; clear q s u x; clear hb hbox hg) | ((with_reducible refine gate_dst (N := 4) rfl ?_); refine box_event ?hg (N := 4) ?hd (cs := #[.slice none 0 0, .slice none 0 0, .slice none 0 0, .slice none 0 0]) (t := 26) ?hr ?_; (case hd => rfl); (case hg => rfl); (case hr => first | (go_simp; done) | (go_simp; rfl)); intro l hg B0 hbox hb; have q := zm (blk_below (g := a) (o := .cells #[.slice V M.length X, .slice Y O.length Z, .slice a5 T.length a6, .slice a7 U.length a8] 26 (0, 0)) (zg_3 Za.out) hb); have s := zm (below_step (zg_2 HB.out Zi.out) hb); have u := zm (hbox); have x := zm ((by rw [hg]; exact (below_size (zg_2 HB.out Zi.out)) : w.heap.size ≤ l)); have z := zm ((by rw [hg]; exact (below_size (zg_2 HB.out Zi.out)) : w.heap.size ≤ l)); have A := zm ((by rw [hg]; exact Nat.ne_of_lt (blk_lt (g := a) (o := .cells #[.slice V M.length X, .slice Y O.length Z, .slice a5 T.length a6, .slice a7 U.length a8] 26 (0, 0)) (zg_3 Za.out)) : a ≠ l)); have B := zm ((by rw [hg]; exact Nat.ne_of_gt (blk_lt (g := a) (o := .cells #[.slice V M.length X, .slice Y O.length Z, .slice a5 T.length a6, .slice a7 U.length a8] 26 (0, 0)) (zg_3 Za.out)) : l ≠ a)); replace Za := q; replace HB := s; have Zb := u; have ZM := x; have Zn := z; have Zh := A; have Zc := B; clear q s u x z A B; clear hb hbox hg; have w3 := Zh.out; have w4 := Zc.out; obtain ⟨_, _, _, _, _, _, _, _⟩ := zb4 Za.out) | ((with_reducible refine gate_callee (f := 31) rfl ?_); refine goesL_ (some 9) rfl rfl Tryz.func31 (by kernel_rfl) rfl #[.agg #[.slice V M.length X, .slice Y O.length Z, .slice a5 T.length a6, .slice a7 U.length a8]] rfl zq ?_; (with_reducible refine (spec_l10Own.calls k _ _ M _ _ O _ _ T _ _ U D F I G _ ?side1 ?side2 ?side3 ?side4 ?side5 ?side6 ?side7 ?side8 A3.out).mono ?_); (case side1 => exact zC (Kd.C_below Zu.out HB.out)); (case side2 => exact Zv.out); (case side3 => exact zC (Kd.C_below Zw.out HB.out)); (case side4 => exact Zx.out); (case side5 => exact zC (Kd.C_below Zy.out HB.out)); (case side6 => exact Zz.out); (case side7 => exact zC (Kd.C_below ZA.out HB.out)); (case side8 => exact ZB.out); rintro e v3 ⟨o1, o2, o3, o4, rfl, d6, d7, d8, d9, hb⟩; refine ⟨_, rfl, ?_⟩; have q := zm (Kd.R_lower d6 (below_size (zg_5 HB.out Zi.out Zn.out))); have s := zm (Kd.R_lower d7 (below_size (zg_5 HB.out Zi.out Zn.out))); have u := zm (Kd.S_lower d8 (below_size (zg_5 HB.out Zi.out Zn.out))); have x := zm (Kd.R_lower d9 (below_size (zg_5 HB.out Zi.out Zn.out))); have z := zm (blk_below (g := a) (o := .cells #[.slice V M.length X, .slice Y O.length Z, .slice a5 T.length a6, .slice a7 U.length a8] 26 (0, 0)) (zg_3 Za.out) hb); have A := zm (blk_below (g := l) (o := .cells #[.slice none 0 0, .slice none 0 0, .slice none 0 0, .slice none 0 0] 26 (0, 0)) (zg_3 Zb.out) hb); have B := zm (below_step (zg_5 HB.out Zi.out Zn.out) hb); have Zj := q; have Zk := s; have Zm := u; have Zl := x; replace Za := z; replace Zb := A; replace HB := B; clear q s u x z A B; (try clear hb); (try clear hb2); (try clear hk); (try clear hi); (try clear d6); (try clear d7); (try clear d8); (try clear d9); obtain ⟨a9, b0, o9⟩ := Kd.R_slice Zj.out; subst o9; obtain ⟨_, _, _, _, _, _, _, _⟩ := zb4 Za.out; obtain ⟨b1, b2, p0⟩ := Kd.R_slice Zk.out; subst p0; obtain ⟨f6, d2, p1⟩ := Kd.S_slice Zm.out; subst p1; obtain ⟨b3, b4, p4⟩ := Kd.R_slice Zl.out; subst p4) | ((with_reducible refine gate_store (t := 26) (p := 2) rfl ?_); refine store_event (t := 26) (p := 2) (v := ?vo_w34) (w1 := ((((v3.setCell ⟨a, 0, none⟩ (.slice a9 D.length b0)).setCell ⟨a, 1, none⟩ (.slice b1 F.length b2)).setCell ⟨a, 2, none⟩ (.slice f6 I.length d2)).setCell ⟨a, 3, none⟩ (.slice b3 G.length b4))) ?hg ?ho ?hn ?hr ?_; (case ho => rfl); (case hg => rfl); (case hn => rfl); (case hr => first | (go_simp; done) | (go_simp; rfl)); intro f7 hw; have q : Aside0 (Kd.R (Kd.int .i64) 3 f7 w.heap.size (fun k_ => some k_ ≠ (.slice b1 F.length b2 : Value).ownBlock ∧ some k_ ≠ (.slice b3 G.length b4 : Value).ownBlock) (.slice a9 D.length b0) D) := ⟨(by rw [hw]; exact (Kd.R_mono (zR4 (Kd.R_types Zj.out Za.out (by decide))) (fun _ hk => ⟨hk.1.1, hk.1.2⟩)))⟩; have s : Aside0 (Kd.R (Kd.int .i64) 3 f7 w.heap.size (fun k_ => some k_ ≠ (.slice a9 D.length b0 : Value).ownBlock ∧ some k_ ≠ (.slice b3 G.length b4 : Value).ownBlock) (.slice b1 F.length b2) F) := ⟨(by rw [hw]; exact (Kd.R_mono (zR4 (Kd.R_types Zk.out Za.out (by decide))) (fun _ hk => ⟨hk.1.1, hk.1.2⟩)))⟩; have u : Aside0 (Kd.S k66 66 f7 w.heap.size (fun k_ => some k_ ≠ (.slice a9 D.length b0 : Value).ownBlock ∧ some k_ ≠ (.slice b1 F.length b2 : Value).ownBlock ∧ some k_ ≠ (.slice b3 G.length b4 : Value).ownBlock) (.slice f6 I.length d2) I) := ⟨(by rw [hw]; exact (Kd.S_mono (zS4 (Kd.S_types Zm.out Za.out (by decide))) (fun _ hk => ⟨hk.1.1, ⟨hk.1.2.1, hk.1.2.2⟩⟩)))⟩; have x : Aside0 (Kd.R (Kd.int .i64) 3 f7 w.heap.size (fun k_ => some k_ ≠ (.slice a9 D.length b0 : Value).ownBlock ∧ some k_ ≠ (.slice b1 F.length b2 : Value).ownBlock) (.slice b3 G.length b4) G) := ⟨(by rw [hw]; exact (Kd.R_mono (zR4 (Kd.R_types Zl.out Za.out (by decide))) (fun _ hk => ⟨hk.1.1, hk.1.2⟩)))⟩; have z : Aside0 (f7.heap[a]? = some (.cells #[.slice a9 D.length b0, .slice b1 F.length b2, .slice f6 I.length d2, .slice b3 G.length b4] 26 (0, 0))) := ⟨(by rw [hw]; exact (by exact zput4 Za.out))⟩; have A : Aside0 (f7.heap[l]? = some (.cells #[.slice none 0 0, .slice none 0 0, .slice none 0 0, .slice none 0 0] 26 (0, 0))) := ⟨(by rw [hw]; exact (by exact zfar4 Zb.out Zc.out))⟩; have B : Aside0 (Below w.heap.size w f7) := ⟨(by rw [hw]; exact (zg_5 HB.out Zi.out Zn.out))⟩; clear hw; replace Zj := q; replace Zk := s; replace Zm := u; replace Zl := x; replace Za := z; replace Zb := A; replace HB := B; clear q s u x z A B; obtain ⟨_, _, _, _, _, _, _, _⟩ := zb4 Za.out) | ((with_reducible refine gate_callee (f := 45) rfl ?_); refine goesL_ (some 12) rfl rfl Tryz.func45 (by kernel_rfl) rfl #[.agg #[.slice a9 D.length b0, .slice b1 F.length b2, .slice f6 I.length d2, .slice b3 G.length b4], .string a1] rfl zq ?_; (with_reducible refine (spec_l10Find.calls k _ _ D _ _ F _ _ I _ _ G a1 y _ ?side1 ?side2 ?side3 ?side4 ?side5 ?side6 ?side7 ?side8 A4.out).mono ?_); (case side1 => exact zC ((Kd.R_reads' Zj.out).2.2)); (case side2 => exact (Kd.R_reads' Zj.out).2.1); (case side3 => exact zC ((Kd.R_reads' Zk.out).2.2)); (case side4 => exact (Kd.R_reads' Zk.out).2.1); (case side5 => exact zC ((Kd.S_reads' Zm.out).2.2)); (case side6 => exact (Kd.S_reads' Zm.out).2.1); (case side7 => exact zC ((Kd.R_reads' Zl.out).2.2)); (case side8 => exact (Kd.R_reads' Zl.out).2.1); rintro e v4 ⟨rfl, hb⟩; refine ⟨_, rfl, ?_⟩; have q := zm (Kd.R_below (zg_6 Zj.out) hb); have s := zm (Kd.R_below (zg_6 Zk.out) hb); have u := zm (Kd.S_below (zg_11 Zm.out) hb); have x := zm (Kd.R_below (zg_6 Zl.out) hb); have z := zm (blk_below (g := a) (o := .cells #[.slice a9 D.length b0, .slice b1 F.length b2, .slice f6 I.length d2, .slice b3 G.length b4] 26 (0, 0)) (zg_3 Za.out) hb); have A := zm (blk_below (g := l) (o := .cells #[.slice none 0 0, .slice none 0 0, .slice none 0 0, .slice none 0 0] 26 (0, 0)) (zg_3 Zb.out) hb); have B := zm (below_step (zg_5 HB.out Zi.out Zn.out) hb); replace Zj := q; replace Zk := s; replace Zm := u; replace Zl := x; replace Za := z; replace Zb := A; replace HB := B; clear q s u x z A B; (try clear hb); (try clear hb2); (try clear hk); (try clear hi)))
 have q := zm (Kd.R_drew Zj.out); have s := zm (Kd.R_drew Zk.out); have u := zm (Kd.S_drew Zm.out); have x := zm (Kd.R_drew Zl.out); have z := zm (blk_drew Za.out); have A := zm (blk_drew Zb.out); have B := zm (below_drew1 HB.out); clear Zj; clear Zk; clear Zm; clear Zl; clear Za; clear Zb; clear HB; have Zj := q; have Zk := s; have Zm := u; have Zl := x; have Za := z; have Zb := A; have HB := B; clear q s u x z A B
 have f8 : 0 ≤ (y : Int) := zd
 have f9 : y < (I.length : Int) := zd
 obtain ⟨d3, h5, h6, p5, hx319_0, hx319_1, hl319_1, hi319_1⟩ := at_T66 (Kd.S_reads' Zm.out).2.2 y f8 f9
 cases p5
 obtain ⟨ce319, hce319, hMe319, hcc319⟩ := Kd.S_get Zm.out z66 y f8 (by first | exact f9 | exact zd | (have e_ := (Kd.S_reads' Zm.out).1; omega))
 obtain ⟨ve319_1, rfl, ge319_1⟩ := k66_openM hMe319
 have hv319_1 := hcc319 1 _ rfl
 rw [add_field _ _ 1 (by omega)] at hv319_1
 replace hv319_1 := Option.some.inj (hv319_1.symm.trans hx319_1)
 rw [hv319_1] at ge319_1
 have Zq := zm (show Kd.R (Kd.int .i64) 3 _ _ _ _ ((rd_T66 I y).f1) from ge319_1); clear hv319_1 ge319_1; clear hcc319 hce319; have Zo := zm hi319_1; have Zt := zm hl319_1; clear hi319_1 hl319_1; replace f8 := eq_true f8; replace f9 := eq_true f9
 refine start_ (n := 9) (S := fun w' => w'.cell? ⟨a, 0, none⟩ = some (.slice a9 D.length b0) ∧ w'.cell? ⟨a, 1, none⟩ = some (.slice b1 F.length b2) ∧ w'.cell? ⟨a, 2, none⟩ = some (.slice (some d3) I.length d2) ∧ w'.cell? ⟨a, 3, none⟩ = some (.slice b3 G.length b4) ∧ w'.cell? (d3.add ((y).toNat * 2)) = some (.string ((rd_T66 I y).f0)) ∧ w'.cell? ⟨(d3.add ((y).toNat * 2)).block, (d3.add ((y).toNat * 2)).off + 1, none⟩ = some (.slice h5 ((rd_T66 I y).f1).length h6)) (ds := [7, 8]) #[ff, ff, ff, ff, ff, ff, ff, ff, ff] (by kernel_rfl) rfl rfl ⟨(blk_cell Za.out 0).trans rfl, (blk_cell Za.out 1).trans rfl, (blk_cell Za.out 2).trans rfl, (blk_cell Za.out 3).trans rfl, hx319_0, hx319_1⟩ (fun hHeld => ?_); refine with_tabW spec_l10Revert.tab5 spec_l10Revert.bits5 (fun HT_ HW_ => ?_)
 generalize v4.drew = v5 at Zj Zk Zm Zl Za Zb HB Zq Zo hx319_0 hx319_1 hHeld ⊢
 refine pure_ (i := 1) (N := some 17) (v := ?_) (a' := ?_) #[ff, tt, ff, ff, ff, ff, ff, ff, ff] rfl rfl (any_of HT_.out (by kernel_rfl)) (fun _ _ _ h => h) (Or.inl ⟨by rfl, ?_⟩) ?_ ?_
 rotate_left
 ·intro w'
  go_simp
  with_reducible rfl
 rotate_left
 ·simp only [Act.put, zs, zz, zt, i64_w, i32_w]
  rfl
 refine pure_ (i := 3) (N := some 19) (v := ?_) (a' := ?_) #[ff, tt, ff, tt, ff, ff, ff, ff, ff] rfl rfl (any_of HT_.out (by kernel_rfl)) (fun _ _ _ h => h) (Or.inl ⟨by rfl, ?_⟩) ?_ ?_
 rotate_left
 ·intro w'
  go_simp
  with_reducible rfl
 rotate_left
 ·simp only [Act.put, zs, zz, zt, i64_w, i32_w]
  rfl
 refine take_ (i := 0) (N := some 16) (v := ?_) (a' := ?_) #[tt, tt, ff, tt, ff, ff, ff, ff, ff] rfl rfl (take_ofW HT_.out HW_.out (by kernel_rfl)) (fun _ _ _ h => h) (Or.inl ⟨by rfl, ?_⟩) hHeld ?_ ?_
 rotate_left
 ·rintro w' ⟨s0, s1, s2, s3, s4, s5⟩
  go_simp
  with_reducible rfl
 rotate_left
 ·simp only [Act.put, zs, zz, zt, i64_w, i32_w]
  rfl
 refine take_ (i := 2) (N := some 18) (v := ?_) (a' := ?_) #[tt, tt, tt, tt, ff, ff, ff, ff, ff] rfl rfl (take_ofW HT_.out HW_.out (by kernel_rfl)) (fun _ _ _ h => h) (Or.inl ⟨by rfl, ?_⟩) hHeld ?_ ?_
 rotate_left
 ·rintro w' ⟨s0, s1, s2, s3, s4, s5⟩
  go_simp
  with_reducible rfl
 rotate_left
 ·simp only [Act.put, zs, zz, zt, i64_w, i32_w]
  rfl
 refine pure_ (i := 4) (N := some 20) (v := ?_) (a' := ?_) #[tt, tt, tt, tt, tt, ff, ff, ff, ff] rfl rfl (any_of HT_.out (by kernel_rfl)) (fun _ _ _ h => h) (Or.inl ⟨by rfl, ?_⟩) ?_ ?_
 rotate_left
 ·intro w'
  go_simp
  with_reducible rfl
 rotate_left
 ·simp only [Act.put, zs, zz, zt, i64_w, i32_w]
  rfl
 refine pure_ (i := 5) (N := some 21) (v := ?_) (a' := ?_) #[tt, tt, tt, tt, tt, tt, ff, ff, ff] rfl rfl (any_of HT_.out (by kernel_rfl)) (fun _ _ _ h => h) (Or.inl ⟨by rfl, ?_⟩) ?_ ?_
 rotate_left
 ·intro w'
  go_simp
  with_reducible rfl
 rotate_left
 ·simp only [Act.put, zs, zz, zt, i64_w, i32_w]
  rfl
 refine take_ (i := 6) (N := some 22) (v := ?_) (a' := ?_) #[tt, tt, tt, tt, tt, tt, tt, ff, ff] rfl rfl (take_ofW HT_.out HW_.out (by kernel_rfl)) (fun _ _ _ h => h) (Or.inl ⟨by rfl, ?_⟩) hHeld ?_ ?_
 rotate_left
 ·rintro w' ⟨s0, s1, s2, s3, s4, s5⟩
  go_simp
  with_reducible rfl
 rotate_left
 ·simp only [Act.put, zs, zz, zt, i64_w, i32_w]
  rfl
 refine last_ (i := 7) (N := some 23) #[tt, tt, tt, tt, tt, tt, tt, tt, ff] rfl rfl (one_of HT_.out (by kernel_rfl)) (by decide) (fun K hK => ?_)
 refine goes_ Tryz.func46 (by kernel_rfl) rfl #[.agg #[.slice a9 D.length b0, .slice b1 F.length b2, .slice (some d3) I.length d2, .slice b3 G.length b4], .slice h5 ((rd_T66 I y).f1).length h6] (by rfl) rfl rfl zq ?_
 with_reducible refine (spec_l10Raise.calls k (fun k_ => some k_ = (.slice a9 D.length b0 : Value).ownBlock) (.slice a9 D.length b0) D (fun k_ => some k_ = (.slice b1 F.length b2 : Value).ownBlock) (.slice b1 F.length b2) F (fun k_ => ((some k_ ≠ (.slice a9 D.length b0 : Value).ownBlock ∧ (some k_ ≠ (.slice b1 F.length b2 : Value).ownBlock ∧ some k_ ≠ (.slice b3 G.length b4 : Value).ownBlock))) ∧ ∃ q_, q_ ∈ (66 :: (k66).E) ∧ ∃ cs_, v5.heap[k_]? = some (.cells cs_ q_ (0, 0))) (.slice (some d3) I.length d2) I (fun k_ => some k_ = (.slice b3 G.length b4 : Value).ownBlock) (.slice b3 G.length b4) G _ _ ((rd_T66 I y).f1) h9 i0 i1 i2 w _ ?side1 ?side2 ?side3 ?side4 ?side5 ?side6 ?side7 ?side8 ?side9 ?side10 ?side11 ?side12 ?side13 ?side14 ?side15 ?side16 ?side17 ?side18 ?side19 v2.out).mono ?_
 (case side1 => exact (zg_5 HB.out Zi.out Zn.out))
 (case side2 => exact Kd.R_tight rfl Zj.out)
 (case side3 => exact fun k_ e_ => (Zj.out.1 k_ e_.symm).1)
 (case side4 => exact fun k_ e_ hP_ => (hP_.1.1) e_)
 (case side5 => exact fun k_ e_ => (Zj.out.1 k_ e_.symm).2)
 (case side6 => exact Kd.R_tight rfl Zk.out)
 (case side7 => exact fun k_ e_ => (Zk.out.1 k_ e_.symm).1)
 (case side8 => exact fun k_ e_ hP_ => (hP_.1.2.1) e_)
 (case side9 => exact fun k_ e_ => (Zk.out.1 k_ e_.symm).2)
 (case side10 => exact Kd.S_mono (Kd.S_bound (Zm.out)) (fun k_ h_ => ⟨h_.1, h_.2.2.2⟩))
 (case side11 => exact fun k_ hP_ e_ => (hP_.1.1) e_)
 (case side12 => exact fun k_ hP_ e_ => (hP_.1.2.1) e_)
 (case side13 => exact fun k_ hP_ e_ => (hP_.1.2.2) e_)
 (case side14 => exact Kd.R_tight rfl Zl.out)
 (case side15 => exact fun k_ e_ => (Zl.out.1 k_ e_.symm).1)
 (case side16 => exact fun k_ e_ => (Zl.out.1 k_ e_.symm).2)
 (case side17 => exact fun k_ e_ hP_ => (hP_.1.2.2) e_)
 (case side18 => refine Kd.C_entry (Kd.heap_int .i64) ?_; repeat (first | exact (by repeat (first | (with_reducible exact Zo.out) | (with_reducible refine Kd.C_alloc ?_ _) | (with_reducible refine Kd.C_drewN ?_ _) | (with_reducible refine Kd.C_drew ?_) | exact Zo.out)) | (with_reducible refine Kd.C_alloc ?_ _) | (with_reducible refine Kd.C_drewN ?_ _) | (with_reducible refine Kd.C_drew ?_)))
 (case side19 => exact Zt.out)
 rintro e k4 ⟨i3, i4, z2, i5, rfl, d6, d7, d8, d9, hb, hkp⟩
 refine ⟨_, rfl, ?_⟩
 have q := zm (blk_kept (zg_3 Za.out) hkp (fun hs_ => Or.elim hs_ (fun e_ => (fun e_ => (Kd.R_ne Zj.out Za.out (by decide)) e_) e_) (fun e_ => Or.elim e_ (fun e_ => (fun e_ => (Kd.R_ne Zk.out Za.out (by decide)) e_) e_) (fun e_ => Or.elim e_ (fun e_ => (fun hP_ => (by obtain ⟨_, q_, hq_, cs_, hc_⟩ := hP_; have hb_ := Za.out; rw [hb_] at hc_; injection hc_ with hc_; injection hc_ with _ h2_; rw [← h2_] at hq_; exact absurd hq_ (by decide))) e_) (fun e_ => (fun e_ => (Kd.R_ne Zl.out Za.out (by decide)) e_) e_))))); have s := zm (blk_kept (zg_3 Zb.out) hkp (fun hs_ => Or.elim hs_ (fun e_ => (fun e_ => (Kd.R_ne Zj.out Zb.out (by decide)) e_) e_) (fun e_ => Or.elim e_ (fun e_ => (fun e_ => (Kd.R_ne Zk.out Zb.out (by decide)) e_) e_) (fun e_ => Or.elim e_ (fun e_ => (fun hP_ => (by obtain ⟨_, q_, hq_, cs_, hc_⟩ := hP_; have hb_ := Zb.out; rw [hb_] at hc_; injection hc_ with hc_; injection hc_ with _ h2_; rw [← h2_] at hq_; exact absurd hq_ (by decide))) e_) (fun e_ => (fun e_ => (Kd.R_ne Zl.out Zb.out (by decide)) e_) e_))))); have u := zm (Kd.R_mono (ok' := fun k_ => some k_ ≠ (i4 : Value).ownBlock ∧ some k_ ≠ (i5 : Value).ownBlock) d6 (fun k_ hk_ => ⟨hk_.2.1, hk_.2.2⟩)); have x := zm (Kd.R_mono (ok' := fun k_ => some k_ ≠ (i3 : Value).ownBlock ∧ some k_ ≠ (i5 : Value).ownBlock) d7 (fun k_ hk_ => ⟨hk_.2.1, hk_.2.2⟩)); have z := zm (Kd.S_mono (ok' := fun k_ => some k_ ≠ (i3 : Value).ownBlock ∧ some k_ ≠ (i4 : Value).ownBlock ∧ some k_ ≠ (i5 : Value).ownBlock) d8 (fun k_ hk_ => ⟨hk_.2.1, hk_.2.2.1, hk_.2.2.2⟩)); have A := zm (Kd.R_mono (ok' := fun k_ => some k_ ≠ (i3 : Value).ownBlock ∧ some k_ ≠ (i4 : Value).ownBlock) d9 (fun k_ hk_ => ⟨hk_.2.1, hk_.2.2⟩)); have B := zm (hb); clear Za; clear Zb; clear HB; clear Zj; clear Zk; clear Zm; clear Zl; clear Zq; have Za := q; have Zb := s; have ZC := u; have ZD := x; have ZE := z; have ZF := A; have HB := B; clear q s u x z A B
 (try clear hb)
 (try clear hkp)
 (try clear d6)
 (try clear d7)
 (try clear d8)
 (try clear d9)
 obtain ⟨p6, p7, l9⟩ := Kd.R_slice ZC.out
 (first | subst l9 | (injection l9 with f1_ f2_ f3_; have f4_ := f1_.symm; have f5_ := f3_.symm; clear f1_ f2_ f3_; subst f4_; subst f5_))
 obtain ⟨p8, p9, m0⟩ := Kd.R_slice ZD.out
 (first | subst m0 | (injection m0 with f1_ f2_ f3_; have f4_ := f1_.symm; have f5_ := f3_.symm; clear f1_ f2_ f3_; subst f4_; subst f5_))
 obtain ⟨q0, q1, m1⟩ := Kd.S_slice ZE.out
 (first | subst m1 | (injection m1 with f1_ f2_ f3_; have f4_ := f1_.symm; have f5_ := f3_.symm; clear f1_ f2_ f3_; subst f4_; subst f5_))
 obtain ⟨q2, q4, m2⟩ := Kd.R_slice ZF.out
 (first | subst m2 | (injection m2 with f1_ f2_ f3_; have f4_ := f1_.symm; have f5_ := f3_.symm; clear f1_ f2_ f3_; subst f4_; subst f5_))
 refine hK.out _ _ ?_
 clear hK K
 refine norm_ (a' := ?_) ?_ ?_
 rotate_left
 ·show Act.put _ (some 23) _ = _
  simp only [Act.put, zs, zz, zt, i64_w, i32_w]
  rfl
 refine last_ (i := 8) (N := none) #[tt, tt, tt, tt, tt, tt, tt, tt, tt] rfl rfl (one_of HT_.out (by kernel_rfl)) (by decide) (fun K hK => ?_)
 have z3 : k4.cell? ⟨a, 0, none⟩ = some (.slice a9 D.length b0) := (blk_cell Za.out 0).trans rfl
 have w5 := blk_frozen Za.out 0; have t3 := Zc.out; have t4 := Zh.out
 have z4 : k4.cell? ⟨a, 1, none⟩ = some (.slice b1 F.length b2) := (blk_cell Za.out 1).trans rfl
 have w8 := blk_frozen Za.out 1; have t5 := Zc.out; have t6 := Zh.out
 have z5 : k4.cell? ⟨a, 2, none⟩ = some (.slice (some d3) I.length d2) := (blk_cell Za.out 2).trans rfl
 have w9 := blk_frozen Za.out 2; have t7 := Zc.out; have t8 := Zh.out
 have z6 : k4.cell? ⟨a, 3, none⟩ = some (.slice b3 G.length b4) := (blk_cell Za.out 3).trans rfl
 have x0 := blk_frozen Za.out 3; have t9 := Zc.out; have u0 := Zh.out
 refine skip_ (w1 := ?_) (by rfl) rfl ?_ ?_
 rotate_left
 ·go_simp
  rfl
 refine hK.out _ _ ?_
 clear hK K
 refine done_ (done_of HT_.out (by kernel_rfl)) ?_
 try go_wp2
 go_loopg [7] k (fun kq v7 w' => ∃ (b5 : Int) (j : List Int) (d : List Int) (c : List (S66)) (m : List Int) (J : Value) (b7 : Value) (e3 : Value) (L : Value), v7 = .int .i64 b5 ∧ Aside0 (spec_l10Revert.l0 kq y b5 j d c m = some (r1, r2, r3, r4, r5)) ∧ Aside0 (kq ≤ k) ∧ Aside0 (Kd.R (Kd.int .i64) 3 w' w.heap.size (fun k_ => some k_ ≠ (b7 : Value).ownBlock ∧ some k_ ≠ (L : Value).ownBlock) J j) ∧ Aside0 (Kd.R (Kd.int .i64) 3 w' w.heap.size (fun k_ => some k_ ≠ (J : Value).ownBlock ∧ some k_ ≠ (L : Value).ownBlock) b7 d) ∧ Aside0 (Kd.S k66 66 w' w.heap.size (fun k_ => some k_ ≠ (J : Value).ownBlock ∧ some k_ ≠ (b7 : Value).ownBlock ∧ some k_ ≠ (L : Value).ownBlock) e3 c) ∧ Aside0 (Kd.R (Kd.int .i64) 3 w' w.heap.size (fun k_ => some k_ ≠ (J : Value).ownBlock ∧ some k_ ≠ (b7 : Value).ownBlock) L m) ∧ Aside0 (w'.heap[a]? = some (.cells #[J, b7, e3, L] 26 (0, 0))) ∧ Aside0 (w'.heap[l]? = some (.cells #[(.slice none 0 0), (.slice none 0 0), (.slice none 0 0), (.slice none 0 0)] 26 (0, 0))) ∧ Aside0 (Below w.heap.size w w'))
 case atStart => exact ⟨(0), (h9), (i0), (i1), (i2), (.slice p6 h9.length p7), (.slice p8 i0.length p9), (.slice q0 i1.length q1), (.slice q2 i2.length q4), zr, H', ⟨Nat.le_refl _⟩, ⟨Kd.R_mono (zR4 (Kd.R_types ZC.out Za.out (by decide))) (fun _ hk => ⟨hk.1.1, hk.1.2⟩)⟩, ⟨Kd.R_mono (zR4 (Kd.R_types ZD.out Za.out (by decide))) (fun _ hk => ⟨hk.1.1, hk.1.2⟩)⟩, ⟨Kd.S_mono (zS4 (Kd.S_types ZE.out Za.out (by decide))) (fun _ hk => ⟨hk.1.1, ⟨hk.1.2.1, hk.1.2.2⟩⟩)⟩, ⟨Kd.R_mono (zR4 (Kd.R_types ZF.out Za.out (by decide))) (fun _ hk => ⟨hk.1.1, hk.1.2⟩)⟩, ⟨by exact zput4 Za.out⟩, ⟨by exact zfar4 Zb.out Zc.out⟩, ⟨zg_5 HB.out Zi.out Zn.out⟩⟩
 case round =>
  clear H'
  try clear c2
  try clear p2
  try clear c3
  try clear p3
  try clear q3
  try clear hx3
  try clear c4
  try clear c5
  try clear l7
  try clear c8
  try clear h3
  try clear n1
  try clear h4
  try clear n2
  try clear B1
  try clear B2
  try clear B3
  try clear B4
  try clear hx31
  try clear B6
  try clear B7
  try clear hx319_0
  try clear hx319_1
  try clear f8
  try clear f9
  obtain ⟨b5, j, d, c, m, J, b7, e3, L, rfl, HA, n9, Zd, Ze, Zg, Zf, Za, Zb, HB⟩ := hrel
  cases gk with
  | zero => exact absurd HA.out (by simp [spec_l10Revert.l0])
  | succ k1 =>
   have H := HA.out; clear HA
   simp only [spec_l10Revert.l0] at H
   by_cases g3 : b5 < (d.length : Int)
   rotate_left
   ·rw [if_neg g3] at H
    have n3 := decide_eq_false g3; clear g3
    obtain ⟨g0, g4⟩ : ∃ y_ : List Int, y_ = (([] : List Int)) := ⟨_, rfl⟩
    replace H : (if 0 ≤ y then (if y < (c.length : Int) then (if g0.length + ((rd_T66 c y).f1).length < 17592186044416 then (some (j, (g0 ++ ((rd_T66 c y).f1)), c, m, 0)) else (none)) else (none)) else (none)) = some (r1, r2, r3, r4, r5) := zy H g4
    have k5 := zm g4; clear g4
    by_cases k6 : 0 ≤ y
    rotate_left
    ·rw [if_neg k6] at H
     exact absurd H (by simp)
    rw [if_pos k6] at H; have x1 := decide_eq_true k6; clear k6
    by_cases k7 : y < (c.length : Int)
    rotate_left
    ·rw [if_neg k7] at H
     exact absurd H (by simp)
    rw [if_pos k7] at H; have x2 := decide_eq_true k7; clear k7
    by_cases k8 : g0.length + ((rd_T66 c y).f1).length < 17592186044416
    rotate_left
    ·rw [if_neg k8] at H
     exact absurd H (by simp)
    rw [if_pos k8] at H; have n4 := zm k8; clear k8
    obtain ⟨b6, g5⟩ : ∃ y_ : List Int, y_ = (g0 ++ ((rd_T66 c y).f1)) := ⟨_, rfl⟩
    replace H : (some (j, b6, c, m, 0)) = some (r1, r2, r3, r4, r5) := zy H g5
    have n5 := zm g5; clear g5
    simp only [Option.some.injEq, Prod.mk.injEq] at H
    obtain ⟨rfl, rfl, rfl, rfl, rfl⟩ := H
    have x3 := Zh.out; have x4 := Zc.out
    obtain ⟨_, _, _, _, _, _, _, _⟩ := zb4 Za.out
    obtain ⟨e4, e5, q5⟩ := Kd.R_slice Ze.out
    subst q5
    go_wp2_with (first | ((with_reducible refine gate_dst (N := 38) rfl ?_); refine Kd.R_lit (Kd.int .i64) _ 3 ?hg (N := 38) ?hd (xs := ([] : List Int)) (inner := []) (ok := fun _ => True) (okp := fun _ => True) ?hr ?hp (fun _ hk => hk) trivial (Below.refl _ _) (Nat.le_refl _) (by simp) ?_; (case hd => rfl); (case hg => rfl); (case hr => first | (go_simp; done) | (go_simp; rfl)); (case hp => exact (Reps.none _ _)); intro q6 B8 d4 hb hg_ hnew_; clear hg_ hnew_; (first | rw [← k5.out] at d4 | (simp only [Int.reduceToNat] at d4; rw [← k5.out] at d4)); have q := zm (Kd.R_elder' (zg_6 Zd.out) (Kd.R_base d4) hb); have s := zm (Kd.R_elder' (zg_6 Ze.out) (Kd.R_base d4) hb); have u := zm (Kd.S_elder' (zg_11 Zg.out) (Kd.R_base d4) hb); have x := zm (Kd.R_elder' (zg_6 Zf.out) (Kd.R_base d4) hb); have z := zm (Kd.R_lower (Kd.R_new' (Kd.R_new' (Kd.R_new' d4 (Kd.R_lt (zg_6 Zd.out))) (Kd.R_lt (zg_6 Ze.out))) (Kd.R_lt (zg_6 Zf.out))) (below_size (zg_5 HB.out Zi.out Zn.out))); have A := zm (blk_below (g := a) (o := .cells #[J, .slice e4 d.length e5, e3, L] 26 (0, 0)) (zg_3 Za.out) hb); have B := zm (blk_below (g := l) (o := .cells #[.slice none 0 0, .slice none 0 0, .slice none 0 0, .slice none 0 0] 26 (0, 0)) (zg_3 Zb.out) hb); have h7 := zm (below_step (zg_5 HB.out Zi.out Zn.out) hb); replace Zd := q; replace Ze := s; replace Zg := u; replace Zf := x; have Zr := z; replace Za := A; replace Zb := B; replace HB := h7; clear q s u x z A B h7; clear hb d4; obtain ⟨_, _, _, _, _, _, _, _⟩ := zb4 Za.out; obtain ⟨z8, e0, q7⟩ := Kd.S_slice Zg.out; subst q7; have g6 : 0 ≤ (y : Int) := zd; have g7 : y < (c.length : Int) := zd; obtain ⟨c0, v6, v8, q8, hx348_0, hx348_1, hl348_1, hi348_1⟩ := at_T66 (Kd.S_reads' Zg.out).2.2 y g6 g7; cases q8; obtain ⟨ce348, hce348, hMe348, hcc348⟩ := Kd.S_get Zg.out z66 y g6 (by first | exact g7 | exact zd | (have e_ := (Kd.S_reads' Zg.out).1; omega)); obtain ⟨ve348_1, rfl, ge348_1⟩ := k66_openM hMe348; have hv348_1 := hcc348 1 _ rfl; rw [add_field _ _ 1 (by omega)] at hv348_1; replace hv348_1 := Option.some.inj (hv348_1.symm.trans hx348_1); rw [hv348_1] at ge348_1; have Zp := zm (show Kd.R (Kd.int .i64) 3 _ _ _ _ ((rd_T66 c y).f1) from ge348_1); clear hv348_1 ge348_1; clear hcc348 hce348; have Zs := zm hi348_1; have ZN := zm hl348_1; clear hi348_1 hl348_1; replace g6 := eq_true g6; replace g7 := eq_true g7) | ((with_reducible refine gate_builtin (b := .append) (xs := #[.tmp 38, .tmp 44]) rfl ?_); at_builtin; refine Kd.R_append_rows (Kd.int .i64) (w0 := w) w.heap.size rfl (.tmp 38) (.tmp 44) 23 3 (.int .i64 0) 8 rfl Tryz.underlying23 info3 rfl (by decide) (by omega) q6 g0 ((rd_T66 c y).f1) _ _ _ (fun k_ => some k_ ≠ (J : Value).ownBlock ∧ some k_ ≠ (.slice e4 d.length e5 : Value).ownBlock ∧ some k_ ≠ (L : Value).ownBlock) (fun _ => False) rfl rfl ?aO ?aR (fun _ _ h => h) (fun _ h => h.elim) ?aF ?aB ?aS ?aL ?_; (case aR => repeat (first | exact (by repeat (first | (with_reducible exact Zs.out) | (with_reducible refine Kd.C_alloc ?_ _) | (with_reducible refine Kd.C_drewN ?_ _) | (with_reducible refine Kd.C_drew ?_) | exact Zs.out)) | (with_reducible refine Kd.C_alloc ?_ _) | (with_reducible refine Kd.C_drewN ?_ _) | (with_reducible refine Kd.C_drew ?_))); (case aB => exact (zg_5 HB.out Zi.out Zn.out)); (case aF => exact (fun k_ hk => ⟨Kd.fresh' (Kd.R_lt (zg_6 Zd.out)) k_ hk, Kd.fresh' (Kd.R_lt (zg_6 Ze.out)) k_ hk, Kd.fresh' (Kd.R_lt (zg_6 Zf.out)) k_ hk⟩)); (case aO => exact (by (with_reducible repeat (first | apply Kd.R_alloc | apply Kd.R_drewN | apply Kd.R_drew)); exact Kd.R_mono Zr.out (fun _ hk => ⟨hk.1.1.2, ⟨hk.1.2, hk.2⟩⟩))); (case aS => exact (below_size (zg_5 HB.out Zi.out Zn.out))); (case aL => have := n4.out; omega); intro z9 C0 ho hb hg hat; rw [← n5.out] at ho; have q := zm (Kd.R_after (ok := (fun k_ => some k_ ≠ (.slice e4 d.length e5 : Value).ownBlock ∧ some k_ ≠ (L : Value).ownBlock)) (zg_6 Zd.out) hg hat); have s := zm (Kd.R_after (ok := (fun k_ => some k_ ≠ (J : Value).ownBlock ∧ some k_ ≠ (L : Value).ownBlock)) (zg_6 Ze.out) hg hat); have u := zm (Kd.S_after (ok := (fun k_ => some k_ ≠ (J : Value).ownBlock ∧ some k_ ≠ (.slice e4 d.length e5 : Value).ownBlock ∧ some k_ ≠ (L : Value).ownBlock)) (zg_11 Zg.out) hg hat); have x := zm (Kd.R_after (ok := (fun k_ => some k_ ≠ (J : Value).ownBlock ∧ some k_ ≠ (.slice e4 d.length e5 : Value).ownBlock)) (zg_6 Zf.out) hg hat); have z := zm (blk_grown (g := a) (o := .cells #[J, .slice e4 d.length e5, .slice (some c0) c.length e0, L] 26 (0, 0)) (zg_3 Za.out) hg (Kd.R_ne Zr.out Za.out (by decide))); have A := zm (blk_grown (g := l) (o := .cells #[.slice none 0 0, .slice none 0 0, .slice none 0 0, .slice none 0 0] 26 (0, 0)) (zg_3 Zb.out) hg (Kd.R_ne Zr.out Zb.out (by decide))); have B := zm (Kd.R_after (ok := (fun k_ => some k_ ≠ (J : Value).ownBlock ∧ some k_ ≠ (.slice e4 d.length e5 : Value).ownBlock ∧ some k_ ≠ (.slice (some c0) c.length e0 : Value).ownBlock ∧ some k_ ≠ (L : Value).ownBlock)) (by (with_reducible repeat (first | apply Kd.R_alloc | apply Kd.R_drewN | apply Kd.R_drew)); exact Kd.R_mono Zp.out (fun _ hk => ⟨⟨hk.1.1.1, ⟨hk.1.1.2.1, ⟨hk.2, hk.1.1.2.2⟩⟩⟩, hk.1.2⟩)) hg hat); have h7 := zm (hb); have o0 := zm (ho); clear Zr; replace Zd := q; replace Ze := s; replace Zg := u; replace Zf := x; replace Za := z; replace Zb := A; replace Zp := B; replace HB := h7; have ZK := o0; clear q s u x z A B h7 o0; clear ho hb hg hat; obtain ⟨b8, b9, q9⟩ := Kd.R_slice ZK.out; subst q9; obtain ⟨_, _, _, _, _, _, _, _⟩ := zb4 Za.out; obtain ⟨e1, e2, r0⟩ := Kd.R_slice Zd.out; subst r0; obtain ⟨_, _, _, _, _, _, _, _⟩ := zb4 Zb.out; obtain ⟨g1, g2, r6⟩ := Kd.R_slice Zf.out; subst r6))
    refine bodyPost_ret (results_ct rfl _ _ l 26 #[.slice e1 j.length e2, .slice b8 b6.length b9, .slice (some c0) c.length e0, .slice g1 m.length g2] (0, 0) _ rfl (by (with_reducible repeat (first | refine blk_drewN ?_ _ | refine blk_drew ?_ | refine blk_alloc ?_ _)); refine blk_put (cs := #[.slice e1 j.length e2, .slice b8 b6.length b9, .slice (some c0) c.length e0, .slice none 0 0]) ?_ 3 _ rfl; (with_reducible repeat (first | refine blk_drewN ?_ _ | refine blk_drew ?_ | refine blk_alloc ?_ _)); refine blk_put (cs := #[.slice e1 j.length e2, .slice b8 b6.length b9, .slice none 0 0, .slice none 0 0]) ?_ 2 _ rfl; (with_reducible repeat (first | refine blk_drewN ?_ _ | refine blk_drew ?_ | refine blk_alloc ?_ _)); refine blk_put (cs := #[.slice e1 j.length e2, .slice none 0 0, .slice none 0 0, .slice none 0 0]) ?_ 1 _ rfl; (with_reducible repeat (first | refine blk_drewN ?_ _ | refine blk_drew ?_ | refine blk_alloc ?_ _)); refine blk_put (cs := #[.slice none 0 0, .slice none 0 0, .slice none 0 0, .slice none 0 0]) ?_ 0 _ rfl; (with_reducible repeat (first | refine blk_drewN ?_ _ | refine blk_drew ?_ | refine blk_alloc ?_ _)); refine blk_far ?_ Zc.out _; (with_reducible repeat (first | refine blk_drewN ?_ _ | refine blk_drew ?_ | refine blk_alloc ?_ _)); exact Zb.out) Tryz.underlying26 rfl (by kernel_rfl)) rfl ?_
    exact ⟨_, _, _, _, ze, by (with_reducible repeat (first | apply Kd.R_alloc | apply Kd.R_drewN | apply Kd.R_drew)); exact Kd.R_mono (Kd.R_far (p := ⟨l, 3, none⟩) (Kd.R_far (p := ⟨l, 2, none⟩) (Kd.R_far (p := ⟨l, 1, none⟩) (Kd.R_far (p := ⟨l, 0, none⟩) (Kd.R_far (p := ⟨a, 1, none⟩) (Kd.R_types (Kd.R_types Zd.out Za.out (by decide)) Zb.out (by decide)) (fun _ hk => hk.1.2) (.slice b8 b6.length b9)) (fun _ hk => hk.2) (.slice e1 j.length e2)) (fun _ hk => hk.2) (.slice b8 b6.length b9)) (fun _ hk => hk.2) (.slice (some c0) c.length e0)) (fun _ hk => hk.2) (.slice g1 m.length g2)) (fun _ hk => ⟨hk.1.1.2, hk.1.1.1.2⟩), by (with_reducible repeat (first | apply Kd.R_alloc | apply Kd.R_drewN | apply Kd.R_drew)); exact Kd.R_mono (Kd.R_far (p := ⟨l, 3, none⟩) (Kd.R_far (p := ⟨l, 2, none⟩) (Kd.R_far (p := ⟨l, 1, none⟩) (Kd.R_far (p := ⟨l, 0, none⟩) (Kd.R_far (p := ⟨a, 1, none⟩) (Kd.R_types (Kd.R_types ZK.out Za.out (by decide)) Zb.out (by decide)) (fun _ hk => hk.1.2) (.slice b8 b6.length b9)) (fun _ hk => hk.2) (.slice e1 j.length e2)) (fun _ hk => hk.2) (.slice b8 b6.length b9)) (fun _ hk => hk.2) (.slice (some c0) c.length e0)) (fun _ hk => hk.2) (.slice g1 m.length g2)) (fun _ hk => ⟨hk.1.1.1, hk.1.1.2.2⟩), by (with_reducible repeat (first | apply Kd.S_alloc | apply Kd.S_drewN | apply Kd.S_drew)); exact Kd.S_mono (Kd.S_far (p := ⟨l, 3, none⟩) (Kd.S_far (p := ⟨l, 2, none⟩) (Kd.S_far (p := ⟨l, 1, none⟩) (Kd.S_far (p := ⟨l, 0, none⟩) (Kd.S_far (p := ⟨a, 1, none⟩) (Kd.S_types (Kd.S_types Zg.out Za.out (by decide)) Zb.out (by decide)) (fun _ hk => hk.1.2) (.slice b8 b6.length b9)) (fun _ hk => hk.2) (.slice e1 j.length e2)) (fun _ hk => hk.2) (.slice b8 b6.length b9)) (fun _ hk => hk.2) (.slice (some c0) c.length e0)) (fun _ hk => hk.2) (.slice g1 m.length g2)) (fun _ hk => ⟨hk.1.1.1.1, ⟨hk.1.1.2, hk.1.1.1.2.2⟩⟩), by (with_reducible repeat (first | apply Kd.R_alloc | apply Kd.R_drewN | apply Kd.R_drew)); exact Kd.R_mono (Kd.R_far (p := ⟨l, 3, none⟩) (Kd.R_far (p := ⟨l, 2, none⟩) (Kd.R_far (p := ⟨l, 1, none⟩) (Kd.R_far (p := ⟨l, 0, none⟩) (Kd.R_far (p := ⟨a, 1, none⟩) (Kd.R_types (Kd.R_types Zf.out Za.out (by decide)) Zb.out (by decide)) (fun _ hk => hk.1.2) (.slice b8 b6.length b9)) (fun _ hk => hk.2) (.slice e1 j.length e2)) (fun _ hk => hk.2) (.slice b8 b6.length b9)) (fun _ hk => hk.2) (.slice (some c0) c.length e0)) (fun _ hk => hk.2) (.slice g1 m.length g2)) (fun _ hk => ⟨hk.1.1.1.1, hk.1.1.2⟩), zg_5 HB.out Zi.out Zn.out⟩
   rw [if_pos g3] at H; have n3 := decide_eq_true g3; clear g3
   by_cases k9 : 0 ≤ b5
   rotate_left
   ·rw [if_neg k9] at H
    exact absurd H (by simp)
   rw [if_pos k9] at H; have x5 := decide_eq_true k9; clear k9; replace H := Option.bind_eq_some_iff.mp H
   obtain ⟨⟨i6, i7, i8, i9⟩, m3, H⟩ := H
   try dsimp only at H
   have v9 := zm m3; clear m3
   have H' := zm H
   clear H; have x8 := Zh.out; have x9 := Zc.out
   obtain ⟨_, _, _, _, _, _, _, _⟩ := zb4 Za.out
   obtain ⟨A0, e8, r7⟩ := Kd.R_slice Ze.out
   subst r7
   try go_wp2
   have q := zm (Kd.R_drew Zd.out); have s := zm (Kd.R_drew Ze.out); have u := zm (Kd.S_drew Zg.out); have x := zm (Kd.R_drew Zf.out); have z := zm (blk_drew Za.out); have A := zm (blk_drew Zb.out); have B := zm (below_drew1 HB.out); clear Zd; clear Ze; clear Zg; clear Zf; clear Za; clear Zb; clear HB; have Zd := q; have Ze := s; have Zg := u; have Zf := x; have Za := z; have Zb := A; have HB := B; clear q s u x z A B
   have j0 : 0 ≤ (b5 : Int) := zd
   have j1 : b5 < (d.length : Int) := zd
   obtain ⟨d5, r8, hx332_0⟩ := Kd.at_int (Kd.R_reads' Ze.out).2.2 b5 j0 j1
   cases r8; replace j0 := eq_true j0; replace j1 := eq_true j1
   obtain ⟨e9, f2, m4⟩ := Kd.R_slice Zd.out
   (first | subst m4 | (injection m4 with f1_ f2_ f3_; have f4_ := f1_.symm; have f5_ := f3_.symm; clear f1_ f2_ f3_; subst f4_; subst f5_))
   obtain ⟨g8, g9, m5⟩ := Kd.S_slice Zg.out
   (first | subst m5 | (injection m5 with f1_ f2_ f3_; have f4_ := f1_.symm; have f5_ := f3_.symm; clear f1_ f2_ f3_; subst f4_; subst f5_))
   obtain ⟨f3, f4, m6⟩ := Kd.R_slice Zf.out
   (first | subst m6 | (injection m6 with f1_ f2_ f3_; have f4_ := f1_.symm; have f5_ := f3_.symm; clear f1_ f2_ f3_; subst f4_; subst f5_))
   refine start_ (n := 8) (S := fun w' => w'.cell? ⟨a, 0, none⟩ = some (.slice e9 j.length f2) ∧ w'.cell? ⟨a, 1, none⟩ = some (.slice (some d5) d.length e8) ∧ w'.cell? ⟨a, 2, none⟩ = some (.slice g8 c.length g9) ∧ w'.cell? ⟨a, 3, none⟩ = some (.slice f3 m.length f4) ∧ w'.cell? (d5.add (b5).toNat) = some (.int .i64 (rd d b5))) (ds := [6, 7]) #[ff, ff, ff, ff, ff, ff, ff, ff] (by kernel_rfl) rfl rfl ⟨(blk_cell Za.out 0).trans rfl, (blk_cell Za.out 1).trans rfl, (blk_cell Za.out 2).trans rfl, (blk_cell Za.out 3).trans rfl, hx332_0⟩ (fun hHeld => ?_); refine with_tabW spec_l10Revert.tab9 spec_l10Revert.bits9 (fun HT_ HW_ => ?_)
   generalize wr.drew = w2 at Zd Ze Zg Zf Za Zb HB hx332_0 hHeld ⊢
   refine pure_ (i := 1) (N := some 32) (v := ?_) (a' := ?_) #[ff, tt, ff, ff, ff, ff, ff, ff] rfl rfl (any_of HT_.out (by kernel_rfl)) (fun _ _ _ h => h) (Or.inl ⟨by rfl, ?_⟩) ?_ ?_
   rotate_left
   ·intro w'
    go_simp
    with_reducible rfl
   rotate_left
   ·simp only [Act.put, zs, zz, zt, i64_w, i32_w]
    rfl
   refine pure_ (i := 3) (N := some 34) (v := ?_) (a' := ?_) #[ff, tt, ff, tt, ff, ff, ff, ff] rfl rfl (any_of HT_.out (by kernel_rfl)) (fun _ _ _ h => h) (Or.inl ⟨by rfl, ?_⟩) ?_ ?_
   rotate_left
   ·intro w'
    go_simp
    with_reducible rfl
   rotate_left
   ·simp only [Act.put, zs, zz, zt, i64_w, i32_w]
    rfl
   refine take_ (i := 0) (N := some 31) (v := ?_) (a' := ?_) #[tt, tt, ff, tt, ff, ff, ff, ff] rfl rfl (take_ofW HT_.out HW_.out (by kernel_rfl)) (fun _ _ _ h => h) (Or.inl ⟨by rfl, ?_⟩) hHeld ?_ ?_
   rotate_left
   ·rintro w' ⟨s0, s1, s2, s3, s4⟩
    go_simp
    with_reducible rfl
   rotate_left
   ·simp only [Act.put, zs, zz, zt, i64_w, i32_w]
    rfl
   refine take_ (i := 2) (N := some 33) (v := ?_) (a' := ?_) #[tt, tt, tt, tt, ff, ff, ff, ff] rfl rfl (take_ofW HT_.out HW_.out (by kernel_rfl)) (fun _ _ _ h => h) (Or.inl ⟨by rfl, ?_⟩) hHeld ?_ ?_
   rotate_left
   ·rintro w' ⟨s0, s1, s2, s3, s4⟩
    go_simp
    with_reducible rfl
   rotate_left
   ·simp only [Act.put, zs, zz, zt, i64_w, i32_w]
    rfl
   refine pure_ (i := 4) (N := some 35) (v := ?_) (a' := ?_) #[tt, tt, tt, tt, tt, ff, ff, ff] rfl rfl (any_of HT_.out (by kernel_rfl)) (fun _ _ _ h => h) (Or.inl ⟨by rfl, ?_⟩) ?_ ?_
   rotate_left
   ·intro w'
    go_simp
    with_reducible rfl
   rotate_left
   ·simp only [Act.put, zs, zz, zt, i64_w, i32_w]
    rfl
   refine take_ (i := 5) (N := some 36) (v := ?_) (a' := ?_) #[tt, tt, tt, tt, tt, tt, ff, ff] rfl rfl (take_ofW HT_.out HW_.out (by kernel_rfl)) (fun _ _ _ h => h) (Or.inl ⟨by rfl, ?_⟩) hHeld ?_ ?_
   rotate_left
   ·rintro w' ⟨s0, s1, s2, s3, s4⟩
    go_simp
    with_reducible rfl
   rotate_left
   ·simp only [Act.put, zs, zz, zt, i64_w, i32_w]
    rfl
   refine last_ (i := 6) (N := some 37) #[tt, tt, tt, tt, tt, tt, tt, ff] rfl rfl (one_of HT_.out (by kernel_rfl)) (by decide) (fun K hK => ?_)
   refine goes_ Tryz.func48 (by kernel_rfl) rfl #[.agg #[.slice e9 j.length f2, .slice (some d5) d.length e8, .slice g8 c.length g9, .slice f3 m.length f4], .int .i64 (rd d b5)] (by rfl) rfl rfl zq ?_
   with_reducible refine (spec_l10Drop.calls (fun k_ => some k_ = (.slice e9 j.length f2 : Value).ownBlock) (.slice e9 j.length f2) j (fun k_ => some k_ = (.slice (some d5) d.length e8 : Value).ownBlock) (.slice (some d5) d.length e8) d (fun k_ => ((some k_ ≠ (.slice e9 j.length f2 : Value).ownBlock ∧ (some k_ ≠ (.slice (some d5) d.length e8 : Value).ownBlock ∧ some k_ ≠ (.slice f3 m.length f4 : Value).ownBlock))) ∧ ∃ q_, q_ ∈ (66 :: (k66).E) ∧ ∃ cs_, w2.heap[k_]? = some (.cells cs_ q_ (0, 0))) (.slice g8 c.length g9) c (fun k_ => some k_ = (.slice f3 m.length f4 : Value).ownBlock) (.slice f3 m.length f4) m (rd d b5) i6 i7 i8 i9 w _ ?side1 ?side2 ?side3 ?side4 ?side5 ?side6 ?side7 ?side8 ?side9 ?side10 ?side11 ?side12 ?side13 ?side14 ?side15 ?side16 ?side17 v9.out).mono ?_
   (case side1 => exact (zg_5 HB.out Zi.out Zn.out))
   (case side2 => exact Kd.R_tight rfl Zd.out)
   (case side3 => exact fun k_ e_ => (Zd.out.1 k_ e_.symm).1)
   (case side4 => exact fun k_ e_ hP_ => (hP_.1.1) e_)
   (case side5 => exact fun k_ e_ => (Zd.out.1 k_ e_.symm).2)
   (case side6 => exact Kd.R_tight rfl Ze.out)
   (case side7 => exact fun k_ e_ => (Ze.out.1 k_ e_.symm).1)
   (case side8 => exact fun k_ e_ hP_ => (hP_.1.2.1) e_)
   (case side9 => exact fun k_ e_ => (Ze.out.1 k_ e_.symm).2)
   (case side10 => exact Kd.S_mono (Kd.S_bound (Zg.out)) (fun k_ h_ => ⟨h_.1, h_.2.2.2⟩))
   (case side11 => exact fun k_ hP_ e_ => (hP_.1.1) e_)
   (case side12 => exact fun k_ hP_ e_ => (hP_.1.2.1) e_)
   (case side13 => exact fun k_ hP_ e_ => (hP_.1.2.2) e_)
   (case side14 => exact Kd.R_tight rfl Zf.out)
   (case side15 => exact fun k_ e_ => (Zf.out.1 k_ e_.symm).1)
   (case side16 => exact fun k_ e_ => (Zf.out.1 k_ e_.symm).2)
   (case side17 => exact fun k_ e_ hP_ => (hP_.1.2.2) e_)
   rintro e l1 ⟨j2, j3, A1, j4, rfl, d6, d7, d8, d9, hb, hkp⟩
   refine ⟨_, rfl, ?_⟩
   have q := zm (blk_kept (zg_3 Za.out) hkp (fun hs_ => Or.elim hs_ (fun e_ => (fun e_ => (Kd.R_ne Zd.out Za.out (by decide)) e_) e_) (fun e_ => Or.elim e_ (fun e_ => (fun e_ => (Kd.R_ne Ze.out Za.out (by decide)) e_) e_) (fun e_ => Or.elim e_ (fun e_ => (fun hP_ => (by obtain ⟨_, q_, hq_, cs_, hc_⟩ := hP_; have hb_ := Za.out; rw [hb_] at hc_; injection hc_ with hc_; injection hc_ with _ h2_; rw [← h2_] at hq_; exact absurd hq_ (by decide))) e_) (fun e_ => (fun e_ => (Kd.R_ne Zf.out Za.out (by decide)) e_) e_))))); have s := zm (blk_kept (zg_3 Zb.out) hkp (fun hs_ => Or.elim hs_ (fun e_ => (fun e_ => (Kd.R_ne Zd.out Zb.out (by decide)) e_) e_) (fun e_ => Or.elim e_ (fun e_ => (fun e_ => (Kd.R_ne Ze.out Zb.out (by decide)) e_) e_) (fun e_ => Or.elim e_ (fun e_ => (fun hP_ => (by obtain ⟨_, q_, hq_, cs_, hc_⟩ := hP_; have hb_ := Zb.out; rw [hb_] at hc_; injection hc_ with hc_; injection hc_ with _ h2_; rw [← h2_] at hq_; exact absurd hq_ (by decide))) e_) (fun e_ => (fun e_ => (Kd.R_ne Zf.out Zb.out (by decide)) e_) e_))))); have u := zm (Kd.R_mono (ok' := fun k_ => some k_ ≠ (j3 : Value).ownBlock ∧ some k_ ≠ (j4 : Value).ownBlock) d6 (fun k_ hk_ => ⟨hk_.2.1, hk_.2.2⟩)); have x := zm (Kd.R_mono (ok' := fun k_ => some k_ ≠ (j2 : Value).ownBlock ∧ some k_ ≠ (j4 : Value).ownBlock) d7 (fun k_ hk_ => ⟨hk_.2.1, hk_.2.2⟩)); have z := zm (Kd.S_mono (ok' := fun k_ => some k_ ≠ (j2 : Value).ownBlock ∧ some k_ ≠ (j3 : Value).ownBlock ∧ some k_ ≠ (j4 : Value).ownBlock) d8 (fun k_ hk_ => ⟨hk_.2.1, hk_.2.2.1, hk_.2.2.2⟩)); have A := zm (Kd.R_mono (ok' := fun k_ => some k_ ≠ (j2 : Value).ownBlock ∧ some k_ ≠ (j3 : Value).ownBlock) d9 (fun k_ hk_ => ⟨hk_.2.1, hk_.2.2⟩)); have B := zm (hb); clear Za; clear Zb; clear HB; clear Zd; clear Ze; clear Zg; clear Zf; have Za := q; have Zb := s; have ZG := u; have ZH := x; have ZI := z; have ZJ := A; have HB := B; clear q s u x z A B
   (try clear hb)
   (try clear hkp)
   (try clear d6)
   (try clear d7)
   (try clear d8)
   (try clear d9)
   obtain ⟨r9, s6, m7⟩ := Kd.R_slice ZG.out
   (first | subst m7 | (injection m7 with f1_ f2_ f3_; have f4_ := f1_.symm; have f5_ := f3_.symm; clear f1_ f2_ f3_; subst f4_; subst f5_))
   obtain ⟨s7, s8, m8⟩ := Kd.R_slice ZH.out
   (first | subst m8 | (injection m8 with f1_ f2_ f3_; have f4_ := f1_.symm; have f5_ := f3_.symm; clear f1_ f2_ f3_; subst f4_; subst f5_))
   obtain ⟨s9, t0, m9⟩ := Kd.S_slice ZI.out
   (first | subst m9 | (injection m9 with f1_ f2_ f3_; have f4_ := f1_.symm; have f5_ := f3_.symm; clear f1_ f2_ f3_; subst f4_; subst f5_))
   obtain ⟨t1, t2, n0⟩ := Kd.R_slice ZJ.out
   (first | subst n0 | (injection n0 with f1_ f2_ f3_; have f4_ := f1_.symm; have f5_ := f3_.symm; clear f1_ f2_ f3_; subst f4_; subst f5_))
   refine hK.out _ _ ?_
   clear hK K
   refine norm_ (a' := ?_) ?_ ?_
   rotate_left
   ·show Act.put _ (some 37) _ = _
    simp only [Act.put, zs, zz, zt, i64_w, i32_w]
    rfl
   refine last_ (i := 7) (N := none) #[tt, tt, tt, tt, tt, tt, tt, tt] rfl rfl (one_of HT_.out (by kernel_rfl)) (by decide) (fun K hK => ?_)
   have A2 : l1.cell? ⟨a, 0, none⟩ = some (.slice e9 j.length f2) := (blk_cell Za.out 0).trans rfl
   have y6 := blk_frozen Za.out 0; have u1 := Zc.out; have u2 := Zh.out
   have A5 : l1.cell? ⟨a, 1, none⟩ = some (.slice (some d5) d.length e8) := (blk_cell Za.out 1).trans rfl
   have y7 := blk_frozen Za.out 1; have u3 := Zc.out; have u4 := Zh.out
   have A6 : l1.cell? ⟨a, 2, none⟩ = some (.slice g8 c.length g9) := (blk_cell Za.out 2).trans rfl
   have y8 := blk_frozen Za.out 2; have u5 := Zc.out; have u6 := Zh.out
   have A7 : l1.cell? ⟨a, 3, none⟩ = some (.slice f3 m.length f4) := (blk_cell Za.out 3).trans rfl
   have y9 := blk_frozen Za.out 3; have u7 := Zc.out; have u8 := Zh.out
   refine skip_ (w1 := ?_) (by rfl) rfl ?_ ?_
   rotate_left
   ·go_simp
    rfl
   refine hK.out _ _ ?_
   clear hK K
   refine done_ (done_of HT_.out (by kernel_rfl)) ?_
   try go_wp2
   go_roundg k1
   case measure => have := n9.out; omega
   case rel => exact ⟨(wrap64 (b5 + 1)), (i6), (i7), (i8), (i9), (.slice r9 i6.length s6), (.slice s7 i7.length s8), (.slice s9 i8.length t0), (.slice t1 i9.length t2), zr, H', ⟨by have := n9.out; omega⟩, ⟨Kd.R_mono (zR4 (Kd.R_types ZG.out Za.out (by decide))) (fun _ hk => ⟨hk.1.1, hk.1.2⟩)⟩, ⟨Kd.R_mono (zR4 (Kd.R_types ZH.out Za.out (by decide))) (fun _ hk => ⟨hk.1.1, hk.1.2⟩)⟩, ⟨Kd.S_mono (zS4 (Kd.S_types ZI.out Za.out (by decide))) (fun _ hk => ⟨hk.1.1, ⟨hk.1.2.1, hk.1.2.2⟩⟩)⟩, ⟨Kd.R_mono (zR4 (Kd.R_types ZJ.out Za.out (by decide))) (fun _ hk => ⟨hk.1.1, hk.1.2⟩)⟩, ⟨by exact zput4 Za.out⟩, ⟨by exact zfar4 Zb.out Zc.out⟩, ⟨zg_5 HB.out Zi.out Zn.out⟩⟩
def spec_l08Free.l0 : Nat → List Int → Int → Option (Int)
  | 0, _, _ => none
  | k + 1, x0, x3 => if x3 < (x0.length : Int) then (if 0 ≤ x3 then (if (rd x0 x3) = 0 then (some x3) else (spec_l08Free.l0 k x0 (wrap64 (x3 + 1)))) else (none)) else (some (-1))
def spec_l08Free.f (k : Nat) (l0 : List Int) : Option (Int) := spec_l08Free.l0 k l0 0
theorem spec_l08Free.mono_l : ∀ k, (∀ y0 y1, LeO (spec_l08Free.l0 k y0 y1) (spec_l08Free.l0 (k + 1) y0 y1))
  | 0 => fun _ _ r h => by simp [spec_l08Free.l0] at h
  | k + 1 => by
    have ih0 := spec_l08Free.mono_l k
    · intro y0 y1
      unfold spec_l08Free.l0
      repeat' first| (with_reducible first | exact ih0 _ _ | exact LeO.refl _ | exact LeO.none _ | refine LeO.ite ?_ ?_ | refine LeO.bind ?_ (fun _ => ?_)) | exact ih0 _ _ | exact LeO.none _ | refine LeO.ite ?_ ?_ | refine LeO.bind ?_ (fun _ => ?_)
theorem spec_l08Free.mono : ∀ a0 k, LeO (spec_l08Free.f k a0) (spec_l08Free.f (k + 1) a0) := by
  intro a0 k
  have ih0 := spec_l08Free.mono_l k
  unfold spec_l08Free.f
  repeat' first| (with_reducible first | exact ih0 _ _ | exact LeO.refl _ | exact LeO.none _ | refine LeO.ite ?_ ?_ | refine LeO.bind ?_ (fun _ => ?_)) | exact ih0 _ _ | exact LeO.none _ | refine LeO.ite ?_ ?_ | refine LeO.bind ?_ (fun _ => ?_)
set_option maxHeartbeats 8000000 in
set_option maxRecDepth 100000 in
theorem spec_l08Free.calls (k : Nat) (v : Option Addr) (x : Nat) (b : List Int) (r : Int) (w : World) (n : Kd.C (Kd.int .i64) w v b.length b) (o : b.length ≤ x) (h : spec_l08Free.f k b = some r) :
    Calls Tryz.prog 50 #[.slice v b.length x] w fun e w' => e = .returned (.int .i64 r) ∧ Drawn0 w w' := by
 have p := zm n; have A := zm o; clear n o
 have H : (spec_l08Free.l0 k b 0) = some r := h
 clear h
 have H' := zm H
 clear H
 go_enter Tryz.func50, Tryz.ntmps50
 go_wp2
 go_loopg [3] k (fun kq y w' => ∃ (a : Int), y = .int .i64 a ∧ Aside0 (spec_l08Free.l0 kq b a = some r) ∧ Aside0 (kq ≤ k) ∧ Drawn0 w w')
 case atStart => exact ⟨(0), zr, H', ⟨Nat.le_refl _⟩, by repeat (first | exact Drawn0.refl _ | apply Drawn0.step)⟩
 case round =>
  clear H'
  obtain ⟨a, rfl, HA, q, ⟨m1, rfl⟩⟩ := hrel
  cases gk with
  | zero => exact absurd HA.out (by simp [spec_l08Free.l0])
  | succ k1 =>
   have H := HA.out; clear HA
   simp only [spec_l08Free.l0] at H
   by_cases j : a < (b.length : Int)
   rotate_left
   ·rw [if_neg j] at H
    have s := decide_eq_false j; clear j; obtain rfl := Option.some.inj H
    go_wp2
    go_ret
    exact ⟨zr, by repeat (first | exact Drawn0.refl _ | apply Drawn0.step)⟩
   rw [if_pos j] at H; have s := decide_eq_true j; clear j
   by_cases l : 0 ≤ a
   rotate_left
   ·rw [if_neg l] at H
    exact absurd H (by simp)
   rw [if_pos l] at H; have z := decide_eq_true l; clear l
   by_cases g : (rd b a) = 0
   ·rw [if_pos g] at H
    have t : ((rd b a) == 0) = true := beq_iff_eq.mpr g
    have u : ((rd b a) != 0) = false := bne_eq_false_iff_eq.mpr g
    clear g; obtain rfl := Option.some.inj H
    have c : 0 ≤ (a : Int) := zd
    have d : a < (b.length : Int) := zd
    obtain ⟨m, i, hx420_0⟩ := Kd.at_int p.out a c d
    cases i; replace c := eq_true c; replace d := eq_true d
    go_wp2
    go_ret
    exact ⟨zr, by repeat (first | exact Drawn0.refl _ | apply Drawn0.step)⟩
   rw [if_neg g] at H
   have t : ((rd b a) == 0) = false := beq_eq_false_iff_ne.mpr g
   have u : ((rd b a) != 0) = true := bne_iff_ne.mpr g
   have H' := zm H
   clear H
   have c : 0 ≤ (a : Int) := zd
   have d : a < (b.length : Int) := zd
   obtain ⟨m, i, hx420_0⟩ := Kd.at_int p.out a c d
   cases i; replace c := eq_true c; replace d := eq_true d
   go_wp2
   go_roundg k1
   case measure => have := q.out; omega
   case rel => exact ⟨(wrap64 (a + 1)), zr, H', ⟨by have := q.out; omega⟩, by repeat (first | exact Drawn0.refl _ | apply Drawn0.step)⟩
def spec_l10Write.j0 : Nat → Int → Int → Int → Bool → List Int → List Int → List (S66) → List Int → Option (List Int × List Int × (List (S66)) × List Int × Int)
  | 0, _, _, _, _, _, _, _, _ => none
  | k + 1, x1, x2, x8, x27, x422000, x422001, x422002, x422003 => if x27 = true then (if 0 ≤ (wrap64 (x8 - 2)) then (if (wrap64 (x8 - 2)) < (x422003.length : Int) then (some (x422000, x422001, x422002, (x422003.set ((wrap64 (x8 - 2)) : Int).toNat x2), 0)) else (none)) else (none)) else ((spec_l08Free.f k x422000).bind fun t438 => (if t438 < 0 then (some (x422000, x422001, x422002, x422003, 7)) else ((spec_l10Drop.f x422000 x422001 x422002 x422003 x8).bind fun bt439 => (if 0 ≤ t438 then (if t438 < (bt439.1.length : Int) then (if t438 < (bt439.2.2.2.length : Int) then (if 0 ≤ x1 then (if x1 < (bt439.2.1.length : Int) then (some ((bt439.1.set (t438 : Int).toNat 1), (bt439.2.1.set (x1 : Int).toNat (wrap64 (2 + t438))), bt439.2.2.1, (bt439.2.2.2.set (t438 : Int).toNat x2), 0)) else (none)) else (none)) else (none)) else (none)) else (none)))))
def spec_l10Write.f (k : Nat) (l0_0 : List Int) (l0_1 : List Int) (l0_2 : List (S66)) (l0_3 : List Int) (a1 : Int) (a2 : Int) : Option (List Int × List Int × (List (S66)) × List Int × Int) := (spec_l10Own.f k l0_0 l0_1 l0_2 l0_3).bind fun bt423 => (if 0 ≤ a1 then (if a1 < (bt423.2.1.length : Int) then (if (rd bt423.2.1 a1) ≥ 2 then (if 0 ≤ (wrap64 ((rd bt423.2.1 a1) - 2)) then (if (wrap64 ((rd bt423.2.1 a1) - 2)) < (bt423.1.length : Int) then (spec_l10Write.j0 k a1 a2 (rd bt423.2.1 a1) ((rd bt423.1 (wrap64 ((rd bt423.2.1 a1) - 2))) == 1) bt423.1 bt423.2.1 bt423.2.2.1 bt423.2.2.2) else (none)) else (none)) else (spec_l10Write.j0 k a1 a2 (rd bt423.2.1 a1) false bt423.1 bt423.2.1 bt423.2.2.1 bt423.2.2.2)) else (none)) else (none))
theorem spec_l10Write.mono_l : ∀ k, (∀ y0 y1 y2 y3 y4 y5 y6 y7, LeO (spec_l10Write.j0 k y0 y1 y2 y3 y4 y5 y6 y7) (spec_l10Write.j0 (k + 1) y0 y1 y2 y3 y4 y5 y6 y7))
  | 0 => fun _ _ _ _ _ _ _ _ r h => by simp [spec_l10Write.j0] at h
  | k + 1 => by
    have ih0 := spec_l10Write.mono_l k
    · intro y0 y1 y2 y3 y4 y5 y6 y7
      unfold spec_l10Write.j0
      repeat' first| (with_reducible first | exact ih0 _ _ _ _ _ _ _ _ | exact spec_l08Free.mono _ _ | exact spec_l10Own.mono _ _ _ _ _ | exact LeO.refl _ | exact LeO.none _ | refine LeO.ite ?_ ?_ | refine LeO.bind ?_ (fun _ => ?_)) | exact ih0 _ _ _ _ _ _ _ _ | exact LeO.none _ | refine LeO.ite ?_ ?_ | refine LeO.bind ?_ (fun _ => ?_)
theorem spec_l10Write.mono : ∀ a0 a1 a2 a3 a4 a5 k, LeO (spec_l10Write.f k a0 a1 a2 a3 a4 a5) (spec_l10Write.f (k + 1) a0 a1 a2 a3 a4 a5) := by
  intro a0 a1 a2 a3 a4 a5 k
  have ih0 := spec_l10Write.mono_l k
  unfold spec_l10Write.f
  repeat' first| (with_reducible first | exact ih0 _ _ _ _ _ _ _ _ | exact spec_l08Free.mono _ _ | exact spec_l10Own.mono _ _ _ _ _ | exact LeO.refl _ | exact LeO.none _ | refine LeO.ite ?_ ?_ | refine LeO.bind ?_ (fun _ => ?_)) | exact ih0 _ _ _ _ _ _ _ _ | exact LeO.none _ | refine LeO.ite ?_ ?_ | refine LeO.bind ?_ (fun _ => ?_)
set_option maxHeartbeats 8000000 in
set_option maxRecDepth 100000 in
theorem spec_l10Write.calls (k : Nat) (b5 : Option Addr) (b6 : Nat) (a6 : List Int) (b7 : Option Addr) (b8 : Nat) (a7 : List Int) (b9 : Option Addr) (c0 : Nat) (a8 : List (S66)) (c4 : Option Addr) (c7 : Nat) (a9 : List Int) (a1 : Int) (a2 : Int) (r1 : List Int) (r2 : List Int) (r3 : List (S66)) (r4 : List Int) (r5 : Int) (w : World) (g6 : Kd.C (Kd.int .i64) w b5 a6.length a6) (g7 : a6.length ≤ b6) (g8 : Kd.C (Kd.int .i64) w b7 a7.length a7) (g9 : a7.length ≤ b8) (h0 : Kd.C k66 w b9 a8.length a8) (h1 : a8.length ≤ c0) (h2 : Kd.C (Kd.int .i64) w c4 a9.length a9) (h3 : a9.length ≤ c7) (h : spec_l10Write.f k a6 a7 a8 a9 a1 a2 = some (r1, r2, r3, r4, r5)) :
    Calls Tryz.prog 29 #[.agg #[.slice b5 a6.length b6, .slice b7 a7.length b8, .slice b9 a8.length c0, .slice c4 a9.length c7], .int .i64 a1, .int .i64 a2] w fun e w' => ∃ f1 f2 l7 f3 : Value, e = .returned (.tuple #[.agg #[f1, f2, l7, f3], .int .i64 r5]) ∧ Kd.R (Kd.int .i64) 3 w' w.heap.size (fun k_ => some k_ ≠ (f2 : Value).ownBlock ∧ some k_ ≠ (f3 : Value).ownBlock) f1 r1 ∧ Kd.R (Kd.int .i64) 3 w' w.heap.size (fun k_ => some k_ ≠ (f1 : Value).ownBlock ∧ some k_ ≠ (f3 : Value).ownBlock) f2 r2 ∧ Kd.S k66 66 w' w.heap.size (fun k_ => some k_ ≠ (f1 : Value).ownBlock ∧ some k_ ≠ (f2 : Value).ownBlock ∧ some k_ ≠ (f3 : Value).ownBlock) l7 r3 ∧ Kd.R (Kd.int .i64) 3 w' w.heap.size (fun k_ => some k_ ≠ (f1 : Value).ownBlock ∧ some k_ ≠ (f2 : Value).ownBlock) f3 r4 ∧ Below w.heap.size w w' := by
 have hu26 := Tryz.underlying26; have Zw := zm g6; have Zx := zm g7; clear g6 g7; have Zy := zm g8; have Zz := zm g9; clear g8 g9; have ZA := zm h0; have ZB := zm h1; clear h0 h1; have ZC := zm h2; have ZD := zm h3; clear h2 h3; have HB := zm (Below.refl w.heap.size w); have H := h
 unfold spec_l10Write.f at H
 clear h; replace H := Option.bind_eq_some_iff.mp H
 obtain ⟨⟨b, a, y, c⟩, h4, H⟩ := H
 try dsimp only at H
 have A4 := zm h4; clear h4
 by_cases c5 : 0 ≤ a1
 rotate_left
 ·rw [if_neg c5] at H
  exact absurd H (by simp)
 rw [if_pos c5] at H; have l9 := decide_eq_true c5; clear c5
 by_cases c6 : a1 < (a.length : Int)
 rotate_left
 ·rw [if_neg c6] at H
  exact absurd H (by simp)
 rw [if_pos c6] at H; have m0 := decide_eq_true c6; clear c6; have i5 := zm H; clear H
 go_enter Tryz.func29, Tryz.ntmps29
 go_upto_region 3 with (first | ((with_reducible refine gate_dst (N := 3) rfl ?_); refine box_event ?hg (N := 3) ?hd (cs := #[.slice b5 a6.length b6, .slice b7 a7.length b8, .slice b9 a8.length c0, .slice c4 a9.length c7]) (t := 26) ?hr ?_; (case hd => rfl); (case hg => rfl); (case hr => first | (go_simp; done) | (go_simp; rfl)); intro d hg w8 hbox hb; have z := zm (below_step (zg_1 HB.out) hb); have A := zm (hbox); have B := zm ((by rw [hg]; exact (below_size (zg_1 HB.out)) : w.heap.size ≤ d)); have D := zm ((by rw [hg]; exact (below_size (zg_1 HB.out)) : w.heap.size ≤ d)); replace HB := z; have Za := A; have ZE := B; have Zk := D; clear z A B D; clear hb hbox hg) | ((with_reducible refine gate_dst (N := 6) rfl ?_); refine box_event ?hg (N := 6) ?hd (cs := #[.slice none 0 0, .slice none 0 0, .slice none 0 0, .slice none 0 0]) (t := 26) ?hr ?_; (case hd => rfl); (case hg => rfl); (case hr => first | (go_simp; done) | (go_simp; rfl)); intro T hg w9 hbox hb; have z := zm (blk_below (g := d) (o := .cells #[.slice b5 a6.length b6, .slice b7 a7.length b8, .slice b9 a8.length c0, .slice c4 a9.length c7] 26 (0, 0)) (zg_3 Za.out) hb); have A := zm (below_step (zg_2 HB.out Zk.out) hb); have B := zm (hbox); have D := zm ((by rw [hg]; exact (below_size (zg_2 HB.out Zk.out)) : w.heap.size ≤ T)); have L := zm ((by rw [hg]; exact (below_size (zg_2 HB.out Zk.out)) : w.heap.size ≤ T)); have M := zm ((by rw [hg]; exact Nat.ne_of_lt (blk_lt (g := d) (o := .cells #[.slice b5 a6.length b6, .slice b7 a7.length b8, .slice b9 a8.length c0, .slice c4 a9.length c7] 26 (0, 0)) (zg_3 Za.out)) : d ≠ T)); have O := zm ((by rw [hg]; exact Nat.ne_of_gt (blk_lt (g := d) (o := .cells #[.slice b5 a6.length b6, .slice b7 a7.length b8, .slice b9 a8.length c0, .slice c4 a9.length c7] 26 (0, 0)) (zg_3 Za.out)) : T ≠ d)); replace Za := z; replace HB := A; have Zb := B; have ZF := D; have Zn := L; have Zp := M; have Ze := O; clear z A B D L M O; clear hb hbox hg; have n3 := Zp.out; have n4 := Ze.out; obtain ⟨_, _, _, _, _, _, _, _⟩ := zb4 Za.out) | ((with_reducible refine gate_callee (f := 31) rfl ?_); refine goesL_ (some 11) rfl rfl Tryz.func31 (by kernel_rfl) rfl #[.agg #[.slice b5 a6.length b6, .slice b7 a7.length b8, .slice b9 a8.length c0, .slice c4 a9.length c7]] rfl zq ?_; (with_reducible refine (spec_l10Own.calls k _ _ a6 _ _ a7 _ _ a8 _ _ a9 b a y c _ ?side1 ?side2 ?side3 ?side4 ?side5 ?side6 ?side7 ?side8 A4.out).mono ?_); (case side1 => exact zC (Kd.C_below Zw.out HB.out)); (case side2 => exact Zx.out); (case side3 => exact zC (Kd.C_below Zy.out HB.out)); (case side4 => exact Zz.out); (case side5 => exact zC (Kd.C_below ZA.out HB.out)); (case side6 => exact ZB.out); (case side7 => exact zC (Kd.C_below ZC.out HB.out)); (case side8 => exact ZD.out); rintro e q5 ⟨p1, p3, p5, p7, rfl, f4, f5, f6, f7, hb⟩; refine ⟨_, rfl, ?_⟩; have z := zm (Kd.R_lower f4 (below_size (zg_5 HB.out Zk.out Zn.out))); have A := zm (Kd.R_lower f5 (below_size (zg_5 HB.out Zk.out Zn.out))); have B := zm (Kd.S_lower f6 (below_size (zg_5 HB.out Zk.out Zn.out))); have D := zm (Kd.R_lower f7 (below_size (zg_5 HB.out Zk.out Zn.out))); have L := zm (blk_below (g := d) (o := .cells #[.slice b5 a6.length b6, .slice b7 a7.length b8, .slice b9 a8.length c0, .slice c4 a9.length c7] 26 (0, 0)) (zg_3 Za.out) hb); have M := zm (blk_below (g := T) (o := .cells #[.slice none 0 0, .slice none 0 0, .slice none 0 0, .slice none 0 0] 26 (0, 0)) (zg_3 Zb.out) hb); have O := zm (below_step (zg_5 HB.out Zk.out Zn.out) hb); have Zl := z; have Zm := A; have Zq := B; have Zr := D; replace Za := L; replace Zb := M; replace HB := O; clear z A B D L M O; (try clear hb); (try clear hb2); (try clear hk); (try clear hi); (try clear f4); (try clear f5); (try clear f6); (try clear f7); obtain ⟨s, q, m1⟩ := Kd.R_slice Zl.out; subst m1; obtain ⟨_, _, _, _, _, _, _, _⟩ := zb4 Za.out; obtain ⟨p8, x, m2⟩ := Kd.R_slice Zm.out; subst m2; obtain ⟨Y, Z, m3⟩ := Kd.S_slice Zq.out; subst m3; obtain ⟨J, m, m4⟩ := Kd.R_slice Zr.out; subst m4; have e2 : 0 ≤ (a1 : Int) := zd; have e3 : a1 < (a.length : Int) := zd; obtain ⟨i, m5, hx435_0⟩ := Kd.at_int (Kd.R_reads' Zm.out).2.2 a1 e2 e3; cases m5; have hn435_0 : i.block ≠ d := (by first | exact Kd.own_blk (Kd.R_ne Zm.out Za.out (by decide)) | exact (Zm.out.1 _ rfl).2 | exact (Zm.out.1 _ rfl).1.2); have hn435_1 : i.block ≠ d := (by first | exact Kd.own_blk (Kd.R_ne Zm.out Za.out (by decide)) | exact (Zm.out.1 _ rfl).2 | exact (Zm.out.1 _ rfl).1.2); have hn435_2 : i.block ≠ d := (by first | exact Kd.own_blk (Kd.R_ne Zm.out Za.out (by decide)) | exact (Zm.out.1 _ rfl).2 | exact (Zm.out.1 _ rfl).1.2); have hn435_3 : i.block ≠ d := (by first | exact Kd.own_blk (Kd.R_ne Zm.out Za.out (by decide)) | exact (Zm.out.1 _ rfl).2 | exact (Zm.out.1 _ rfl).1.2); replace hx435_0 := (cell_far (p := ⟨d, 0, none⟩) (by first | (rw [add_block]; exact hn435_0) | (show (Addr.add _ _).block ≠ _; rw [add_block]; exact hn435_0) | exact hn435_0) (.slice s b.length q)).trans hx435_0; replace hx435_0 := (cell_far (p := ⟨d, 1, none⟩) (by first | (rw [add_block]; exact hn435_1) | (show (Addr.add _ _).block ≠ _; rw [add_block]; exact hn435_1) | exact hn435_1) (.slice (some i) a.length x)).trans hx435_0; replace hx435_0 := (cell_far (p := ⟨d, 2, none⟩) (by first | (rw [add_block]; exact hn435_2) | (show (Addr.add _ _).block ≠ _; rw [add_block]; exact hn435_2) | exact hn435_2) (.slice Y y.length Z)).trans hx435_0; replace hx435_0 := (cell_far (p := ⟨d, 3, none⟩) (by first | (rw [add_block]; exact hn435_3) | (show (Addr.add _ _).block ≠ _; rw [add_block]; exact hn435_3) | exact hn435_3) (.slice J c.length m)).trans hx435_0; clear hn435_0; clear hn435_1; clear hn435_2; clear hn435_3; replace e2 := eq_true e2; replace e3 := eq_true e3))
 (try simp only [Act.put, zs, zz, zt])
 go_cut [27] (fun n1 wc => ∃ (kq : Nat) (d4 : Bool), n1 = .bool d4 ∧ Aside0 (spec_l10Write.j0 kq a1 a2 (rd a a1) d4 b a y c = some (r1, r2, r3, r4, r5)) ∧ Aside0 (kq ≤ k) ∧ Aside0 (Kd.R (Kd.int .i64) 3 wc w.heap.size (fun k_ => some k_ ≠ ((.slice (some i) a.length x) : Value).ownBlock ∧ some k_ ≠ ((.slice J c.length m) : Value).ownBlock) (.slice s b.length q) b) ∧ Aside0 (Kd.R (Kd.int .i64) 3 wc w.heap.size (fun k_ => some k_ ≠ ((.slice s b.length q) : Value).ownBlock ∧ some k_ ≠ ((.slice J c.length m) : Value).ownBlock) (.slice (some i) a.length x) a) ∧ Aside0 (Kd.S k66 66 wc w.heap.size (fun k_ => some k_ ≠ ((.slice s b.length q) : Value).ownBlock ∧ some k_ ≠ ((.slice (some i) a.length x) : Value).ownBlock ∧ some k_ ≠ ((.slice J c.length m) : Value).ownBlock) (.slice Y y.length Z) y) ∧ Aside0 (Kd.R (Kd.int .i64) 3 wc w.heap.size (fun k_ => some k_ ≠ ((.slice s b.length q) : Value).ownBlock ∧ some k_ ≠ ((.slice (some i) a.length x) : Value).ownBlock) (.slice J c.length m) c) ∧ Aside0 (wc.heap[d]? = some (.cells #[(.slice s b.length q), (.slice (some i) a.length x), (.slice Y y.length Z), (.slice J c.length m)] 26 (0, 0))) ∧ Aside0 (wc.heap[T]? = some (.cells #[(.slice none 0 0), (.slice none 0 0), (.slice none 0 0), (.slice none 0 0)] 26 (0, 0))) ∧ Aside0 (Below w.heap.size w wc))
 case first =>
  have H := i5.out; clear i5
  by_cases e0 : (rd a a1) ≥ 2
  rotate_left
  ·rw [if_neg e0] at H
   have c8 := decide_eq_false e0; clear e0
   (first | rw [c8] | (simp only [i64_w, i32_w]; rw [c8]) | skip)
   have H' := zm H
   clear H
   go_wp2
   go_meet
   case rel => exact ⟨_, (false), zr, H', ⟨by first | omega | exact Nat.le_refl _⟩, ⟨Kd.R_mono (zR4 (Kd.R_types Zl.out Za.out (by decide))) (fun _ hk => ⟨hk.1.1, hk.1.2⟩)⟩, ⟨Kd.R_mono (zR4 (Kd.R_types Zm.out Za.out (by decide))) (fun _ hk => ⟨hk.1.1, hk.1.2⟩)⟩, ⟨Kd.S_mono (zS4 (Kd.S_types Zq.out Za.out (by decide))) (fun _ hk => ⟨hk.1.1, ⟨hk.1.2.1, hk.1.2.2⟩⟩)⟩, ⟨Kd.R_mono (zR4 (Kd.R_types Zr.out Za.out (by decide))) (fun _ hk => ⟨hk.1.1, hk.1.2⟩)⟩, ⟨by exact zput4 Za.out⟩, ⟨by exact zfar4 Zb.out Ze.out⟩, ⟨zg_5 HB.out Zk.out Zn.out⟩⟩
  rw [if_pos e0] at H; have c8 := decide_eq_true e0; clear e0
  (first | rw [c8] | (simp only [i64_w, i32_w]; rw [c8]) | skip)
  obtain ⟨ji19, hji19⟩ : ∃ j_ : Int, (wrap64 ((rd a a1) - 2)) = j_ := ⟨_, rfl⟩
  replace H : (if 0 ≤ (ji19) then (if (ji19) < (b.length : Int) then (spec_l10Write.j0 k a1 a2 (rd a a1) ((rd b (ji19)) == 1) b a y c) else (none)) else (none)) = some (r1, r2, r3, r4, r5) := by first | (rw [hji19] at H; exact H) | (simp only [hji19] at H ⊢; exact H)
  have hji19w : (IntKind.i64.wrap ((rd a a1) - 2)) = ji19 := (i64_w _).trans hji19
  by_cases f8 : 0 ≤ (ji19)
  rotate_left
  ·rw [if_neg f8] at H
   exact absurd H (by simp)
  rw [if_pos f8] at H; have l0 := decide_eq_true f8; clear f8
  by_cases f9 : (ji19) < (b.length : Int)
  rotate_left
  ·rw [if_neg f9] at H
   exact absurd H (by simp)
  rw [if_pos f9] at H; have l1 := decide_eq_true f9; clear f9
  have H' := zm H
  clear H; have n5 := Zp.out; have n6 := Ze.out
  obtain ⟨_, _, _, _, _, _, _, _⟩ := zb4 Za.out
  have e4 : 0 ≤ ((ji19) : Int) := zd
  have e5 : (ji19) < (b.length : Int) := zd
  obtain ⟨d1, m6, hx436_0⟩ := Kd.at_int (Kd.R_reads' Zl.out).2.2 (ji19) e4 e5
  cases m6
  have hn436_0 : d1.block ≠ d := (by first | exact Kd.own_blk (Kd.R_ne Zl.out Za.out (by decide)) | exact (Zl.out.1 _ rfl).2 | exact (Zl.out.1 _ rfl).1.2)
  have hn436_1 : d1.block ≠ d := (by first | exact Kd.own_blk (Kd.R_ne Zl.out Za.out (by decide)) | exact (Zl.out.1 _ rfl).2 | exact (Zl.out.1 _ rfl).1.2)
  have hn436_2 : d1.block ≠ d := (by first | exact Kd.own_blk (Kd.R_ne Zl.out Za.out (by decide)) | exact (Zl.out.1 _ rfl).2 | exact (Zl.out.1 _ rfl).1.2)
  have hn436_3 : d1.block ≠ d := (by first | exact Kd.own_blk (Kd.R_ne Zl.out Za.out (by decide)) | exact (Zl.out.1 _ rfl).2 | exact (Zl.out.1 _ rfl).1.2)
  replace hx436_0 := (cell_far (p := ⟨d, 0, none⟩) (by first | (rw [add_block]; exact hn436_0) | (show (Addr.add _ _).block ≠ _; rw [add_block]; exact hn436_0) | exact hn436_0) (.slice (some d1) b.length q)).trans hx436_0; replace hx436_0 := (cell_far (p := ⟨d, 1, none⟩) (by first | (rw [add_block]; exact hn436_1) | (show (Addr.add _ _).block ≠ _; rw [add_block]; exact hn436_1) | exact hn436_1) (.slice (some i) a.length x)).trans hx436_0; replace hx436_0 := (cell_far (p := ⟨d, 2, none⟩) (by first | (rw [add_block]; exact hn436_2) | (show (Addr.add _ _).block ≠ _; rw [add_block]; exact hn436_2) | exact hn436_2) (.slice Y y.length Z)).trans hx436_0; replace hx436_0 := (cell_far (p := ⟨d, 3, none⟩) (by first | (rw [add_block]; exact hn436_3) | (show (Addr.add _ _).block ≠ _; rw [add_block]; exact hn436_3) | exact hn436_3) (.slice J c.length m)).trans hx436_0; clear hn436_0; clear hn436_1; clear hn436_2; clear hn436_3; replace e4 := eq_true e4; replace e5 := eq_true e5
  go_wp2
  go_meet
  case rel => exact ⟨_, (((rd b (ji19)) == 1)), (by first | rfl | (simp; done) | (simp only [← hji19] <;> (first | rfl | simp)) | (simp [*]; done)), H', ⟨by first | omega | exact Nat.le_refl _⟩, ⟨Kd.R_mono (zR4 (Kd.R_types Zl.out Za.out (by decide))) (fun _ hk => ⟨hk.1.1, hk.1.2⟩)⟩, ⟨Kd.R_mono (zR4 (Kd.R_types Zm.out Za.out (by decide))) (fun _ hk => ⟨hk.1.1, hk.1.2⟩)⟩, ⟨Kd.S_mono (zS4 (Kd.S_types Zq.out Za.out (by decide))) (fun _ hk => ⟨hk.1.1, ⟨hk.1.2.1, hk.1.2.2⟩⟩)⟩, ⟨Kd.R_mono (zR4 (Kd.R_types Zr.out Za.out (by decide))) (fun _ hk => ⟨hk.1.1, hk.1.2⟩)⟩, ⟨by exact zput4 Za.out⟩, ⟨by exact zfar4 Zb.out Ze.out⟩, ⟨zg_5 HB.out Zk.out Zn.out⟩⟩
 case rest =>
  clear i5
  try clear c1
  try clear c2
  try clear p2
  try clear c3
  try clear p4
  try clear q4
  try clear hx4
  try clear c5
  try clear l9
  try clear c6
  try clear m0
  try clear p6
  try clear q6
  try clear e0
  try clear c8
  try clear f8
  try clear l0
  try clear f9
  try clear l1
  try clear q7
  try clear hx435_0
  try clear hx436_0
  try clear e2
  try clear e4
  try clear e3
  try clear e5
  obtain ⟨kq, d4, rfl, HA, HJ6, Zc, Zf, Zg, Zd, Za, Zb, HB⟩ := hcut
  cases kq with
  | zero => exact absurd HA.out (by simp [spec_l10Write.j0])
  | succ i6 =>
   have H := HA.out; clear HA
   simp only [spec_l10Write.j0] at H
   by_cases h5 : d4 = true
   ·subst h5
    replace H : (if 0 ≤ (wrap64 ((rd a a1) - 2)) then (if (wrap64 ((rd a a1) - 2)) < (c.length : Int) then (some (b, a, y, (c.set ((wrap64 ((rd a a1) - 2)) : Int).toNat a2), 0)) else (none)) else (none)) = some (r1, r2, r3, r4, r5) := by rw [if_pos rfl] at H; exact H
    obtain ⟨ji25, hji25⟩ : ∃ j_ : Int, (wrap64 ((rd a a1) - 2)) = j_ := ⟨_, rfl⟩
    replace H : (if 0 ≤ (ji25) then (if (ji25) < (c.length : Int) then (some (b, a, y, (c.set ((ji25) : Int).toNat a2), 0)) else (none)) else (none)) = some (r1, r2, r3, r4, r5) := by first | (rw [hji25] at H; exact H) | (simp only [hji25] at H ⊢; exact H)
    have hji25w : (IntKind.i64.wrap ((rd a a1) - 2)) = ji25 := (i64_w _).trans hji25
    by_cases h6 : 0 ≤ (ji25)
    rotate_left
    ·rw [if_neg h6] at H
     exact absurd H (by simp)
    rw [if_pos h6] at H; have n7 := decide_eq_true h6; clear h6
    by_cases h7 : (ji25) < (c.length : Int)
    rotate_left
    ·rw [if_neg h7] at H
     exact absurd H (by simp)
    rw [if_pos h7] at H; have n8 := decide_eq_true h7; clear h7
    obtain ⟨i7, e6⟩ : ∃ y_ : List Int, y_ = (c.set ((ji25) : Int).toNat a2) := ⟨_, rfl⟩
    replace H : (some (b, a, y, i7, 0)) = some (r1, r2, r3, r4, r5) := zy H e6
    have l2 := zm e6; clear e6
    simp only [Option.some.injEq, Prod.mk.injEq] at H
    obtain ⟨rfl, rfl, rfl, rfl, rfl⟩ := H
    have n9 := Zp.out; have o0 := Ze.out
    obtain ⟨_, _, _, _, _, _, _, _⟩ := zb4 Za.out
    have i8 : 0 ≤ ((ji25) : Int) := zd
    have i9 : ((ji25) : Int) < ((c.length : Int) : Int) := zd
    obtain ⟨b1, p9, j1, j2, gl28, cl28, HG28⟩ := Kd.R_form Zd.out (by omega)
    (first | cases j1 | (injection j1 with ea_ en_ ec_; (first | subst ea_ | (injection ea_ with ea_; subst ea_)); subst ec_; clear en_))
    have GB28 := zm j2; have ZG := zm HG28; clear j2 gl28 HG28
    obtain ⟨hx28_0, hf28_0⟩ := Kd.R_celln 0 Zd.out ((ji25) : Int) i8 i9
    replace i8 := eq_true i8; replace i9 := eq_true i9; have Zs := Kd.R_putg Zd.out ((ji25) : Int) a2
    go_wp2_with (first | ((with_reducible refine gate_store (t := 3) (p := 33) rfl ?_); refine store_event (t := 3) (p := 33) (v := ?vo_w32) (w1 := (wc.setCell ⟨b1, ((ji25) : Int).toNat, none⟩ (.int .i64 a2))) ?hg ?ho ?hn ?hr ?_; (case ho => rfl); (case hg => rfl); (case hn => rfl); (case hr => first | (go_simp; done) | (go_simp; rfl)); intro j3 hw; have hg : wc.grownBy j3 (some b1) := (by rw [hw]; exact Zs.2); have hp_ : Kd.R (Kd.int .i64) 3 j3 w.heap.size (fun k_ => some k_ ≠ (.slice s b.length q : Value).ownBlock ∧ some k_ ≠ (.slice (some i) a.length x : Value).ownBlock) (.slice (some ⟨b1, 0, none⟩) c.length m) i7 := (by rw [hw, l2.out]; exact Zs.1); clear Zs; have z := zm (Kd.R_after (v := (.slice (some ⟨b1, 0, none⟩) c.length m)) (v1 := (.slice (some ⟨b1, 0, none⟩) c.length m)) (ok := (fun k_ => some k_ ≠ (.slice (some i) a.length x : Value).ownBlock)) (zg_6 Zc.out) hg (.inl rfl)); have A := zm (Kd.R_after (v := (.slice (some ⟨b1, 0, none⟩) c.length m)) (v1 := (.slice (some ⟨b1, 0, none⟩) c.length m)) (ok := (fun k_ => some k_ ≠ (.slice s b.length q : Value).ownBlock)) (zg_6 Zf.out) hg (.inl rfl)); have B := zm (Kd.S_after (v := (.slice (some ⟨b1, 0, none⟩) c.length m)) (v1 := (.slice (some ⟨b1, 0, none⟩) c.length m)) (ok := (fun k_ => some k_ ≠ (.slice s b.length q : Value).ownBlock ∧ some k_ ≠ (.slice (some i) a.length x : Value).ownBlock)) (by (with_reducible repeat (first | apply Kd.S_alloc | apply Kd.S_drewN | apply Kd.S_drew)); exact Kd.S_mono Zg.out (fun _ hk => ⟨⟨hk.1, hk.2.1⟩, hk.2.2⟩)) hg (.inl rfl)); have D := zm (hp_); have L := zm (blk_grown (g := d) (o := .cells #[.slice s b.length q, .slice (some i) a.length x, .slice Y y.length Z, .slice (some ⟨b1, 0, none⟩) c.length m] 26 (0, 0)) (zg_3 Za.out) hg (Kd.R_ne Zd.out Za.out (by decide))); have M := zm (blk_grown (g := T) (o := .cells #[.slice none 0 0, .slice none 0 0, .slice none 0 0, .slice none 0 0] 26 (0, 0)) (zg_3 Zb.out) hg (Kd.R_ne Zd.out Zb.out (by decide))); have O := zm ((by rw [hw]; exact below_set (HB.out) GB28.out : Below w.heap.size w j3)); replace Zc := z; replace Zf := A; replace Zg := B; replace Zd := D; replace Za := L; replace Zb := M; replace HB := O; clear z A B D L M O; clear hg hw hp_; obtain ⟨_, _, _, _, _, _, _, _⟩ := zb4 Za.out; obtain ⟨_, _, _, _, _, _, _, _⟩ := zb4 Zb.out))
    refine bodyPost_ret (results_ct rfl _ _ T 26 #[.slice s b.length q, .slice (some i) a.length x, .slice Y y.length Z, .slice (some ⟨b1, 0, none⟩) c.length m] (0, 0) _ rfl (by exact zput4 Zb.out) Tryz.underlying26 rfl (by kernel_rfl)) rfl ?_
    exact ⟨_, _, _, _, by first | rfl | (simp [errW_none, errW_some] <;> rfl) | (simp only [← hji25]; first | rfl | (simp [errW_none, errW_some] <;> rfl)) | (simp [*, errW_none, errW_some] <;> rfl), Kd.R_mono (zR4 (Kd.R_types Zc.out Zb.out (by decide))) (fun _ hk => ⟨hk.1.1, hk.1.2⟩), Kd.R_mono (zR4 (Kd.R_types Zf.out Zb.out (by decide))) (fun _ hk => ⟨hk.1.1, hk.1.2⟩), Kd.S_mono (zS4 (Kd.S_types Zg.out Zb.out (by decide))) (fun _ hk => ⟨hk.1.1.1, ⟨hk.1.1.2, hk.1.2⟩⟩), Kd.R_mono (zR4 (Kd.R_types Zd.out Zb.out (by decide))) (fun _ hk => ⟨hk.1.1, hk.1.2⟩), zg_5 HB.out Zk.out Zn.out⟩
   replace h5 := Bool.eq_false_iff.mpr h5; subst h5
   replace H : ((spec_l08Free.f i6 b).bind fun j => (if j < 0 then (some (b, a, y, c, 7)) else ((spec_l10Drop.f b a y c (rd a a1)).bind fun b4 => (if 0 ≤ j then (if j < (b4.1.length : Int) then (if j < (b4.2.2.2.length : Int) then (if 0 ≤ a1 then (if a1 < (b4.2.1.length : Int) then (some ((b4.1.set (j : Int).toNat 1), (b4.2.1.set (a1 : Int).toNat (wrap64 (2 + j))), b4.2.2.1, (b4.2.2.2.set (j : Int).toNat a2), 0)) else (none)) else (none)) else (none)) else (none)) else (none))))) = some (r1, r2, r3, r4, r5) := by rw [if_neg (show ¬ (false = true) by decide)] at H; exact H
   replace H := Option.bind_eq_some_iff.mp H
   obtain ⟨j, j4, H⟩ := H
   try dsimp only at H
   have l8 := zm j4; clear j4
   by_cases e1 : j < 0
   ·rw [if_pos e1] at H
    have l3 := decide_eq_true e1; clear e1
    simp only [Option.some.injEq, Prod.mk.injEq] at H
    obtain ⟨rfl, rfl, rfl, rfl, rfl⟩ := H
    have o1 := Zp.out; have o2 := Ze.out
    obtain ⟨_, _, _, _, _, _, _, _⟩ := zb4 Za.out
    go_wp2_with (first | ((with_reducible refine gate_callee (f := 50) rfl ?_); refine goesL_ (some 37) rfl rfl Tryz.func50 (by kernel_rfl) rfl #[.slice s b.length q] rfl zq ?_; (with_reducible refine (spec_l08Free.calls i6 _ _ b j _ ?side1 ?side2 l8.out).mono ?_); (case side1 => exact zC ((Kd.R_reads' Zc.out).2.2)); (case side2 => exact (Kd.R_reads' Zc.out).2.1); rintro e w' ⟨rfl, ⟨nd, rfl⟩⟩; refine ⟨_, rfl, ?_⟩; (try (rw [drewN_self wc]; generalize hq_ : World.drewN wc _ = wc; have z : Aside0 (Kd.R (Kd.int .i64) 3 wc w.heap.size (fun k_ => some k_ ≠ (.slice (some i) a.length x : Value).ownBlock ∧ some k_ ≠ (.slice J c.length m : Value).ownBlock) (.slice s b.length q) b) := ⟨by rw [← hq_]; exact (zg_6 Zc.out)⟩; have A : Aside0 (Kd.R (Kd.int .i64) 3 wc w.heap.size (fun k_ => some k_ ≠ (.slice s b.length q : Value).ownBlock ∧ some k_ ≠ (.slice J c.length m : Value).ownBlock) (.slice (some i) a.length x) a) := ⟨by rw [← hq_]; exact (zg_6 Zf.out)⟩; have B : Aside0 (Kd.S k66 66 wc w.heap.size (fun k_ => some k_ ≠ (.slice s b.length q : Value).ownBlock ∧ some k_ ≠ (.slice (some i) a.length x : Value).ownBlock ∧ some k_ ≠ (.slice J c.length m : Value).ownBlock) (.slice Y y.length Z) y) := ⟨by rw [← hq_]; exact (zg_11 Zg.out)⟩; have D : Aside0 (Kd.R (Kd.int .i64) 3 wc w.heap.size (fun k_ => some k_ ≠ (.slice s b.length q : Value).ownBlock ∧ some k_ ≠ (.slice (some i) a.length x : Value).ownBlock) (.slice J c.length m) c) := ⟨by rw [← hq_]; exact (zg_6 Zd.out)⟩; have L : Aside0 (wc.heap[d]? = some (.cells #[.slice s b.length q, .slice (some i) a.length x, .slice Y y.length Z, .slice J c.length m] 26 (0, 0))) := ⟨by rw [← hq_]; exact (zg_3 Za.out)⟩; have M : Aside0 (wc.heap[T]? = some (.cells #[.slice none 0 0, .slice none 0 0, .slice none 0 0, .slice none 0 0] 26 (0, 0))) := ⟨by rw [← hq_]; exact (zg_3 Zb.out)⟩; have O : Aside0 (Below w.heap.size w wc) := ⟨by rw [← hq_]; exact (zg_5 HB.out Zk.out Zn.out)⟩; clear Zc Zf Zg Zd Za Zb HB hq_; have Zc := z; have Zf := A; have Zg := B; have Zd := D; have Za := L; have Zb := M; have HB := O; clear z A B D L M O)); obtain ⟨_, _, _, _, _, _, _, _⟩ := zb4 Za.out; obtain ⟨_, _, _, _, _, _, _, _⟩ := zb4 Zb.out))
    refine bodyPost_ret (results_ct rfl _ _ T 26 #[.slice s b.length q, .slice (some i) a.length x, .slice Y y.length Z, .slice J c.length m] (0, 0) _ rfl (by exact zput4 Zb.out) Tryz.underlying26 rfl (by kernel_rfl)) rfl ?_
    exact ⟨_, _, _, _, ze, Kd.R_mono (zR4 (Kd.R_types Zc.out Zb.out (by decide))) (fun _ hk => ⟨hk.1.1, hk.1.2⟩), Kd.R_mono (zR4 (Kd.R_types Zf.out Zb.out (by decide))) (fun _ hk => ⟨hk.1.1, hk.1.2⟩), Kd.S_mono (zS4 (Kd.S_types Zg.out Zb.out (by decide))) (fun _ hk => ⟨hk.1.1, ⟨hk.1.2.1, hk.1.2.2⟩⟩), Kd.R_mono (zR4 (Kd.R_types Zd.out Zb.out (by decide))) (fun _ hk => ⟨hk.1.1, hk.1.2⟩), zg_5 HB.out Zk.out Zn.out⟩
   rw [if_neg e1] at H; have l3 := decide_eq_false e1; clear e1; replace H := Option.bind_eq_some_iff.mp H
   obtain ⟨⟨u, l, b0, n⟩, j5, H⟩ := H
   try dsimp only at H
   have h4 := zm j5; clear j5
   by_cases h8 : 0 ≤ j
   rotate_left
   ·rw [if_neg h8] at H
    exact absurd H (by simp)
   rw [if_pos h8] at H; have o3 := decide_eq_true h8; clear h8
   by_cases h9 : j < (u.length : Int)
   rotate_left
   ·rw [if_neg h9] at H
    exact absurd H (by simp)
   rw [if_pos h9] at H; have o4 := decide_eq_true h9; clear h9
   obtain ⟨e7, e8⟩ : ∃ y_ : List Int, y_ = (u.set (j : Int).toNat 1) := ⟨_, rfl⟩
   replace H : (if j < (n.length : Int) then (if 0 ≤ a1 then (if a1 < (l.length : Int) then (some (e7, (l.set (a1 : Int).toNat (wrap64 (2 + j))), b0, (n.set (j : Int).toNat a2), 0)) else (none)) else (none)) else (none)) = some (r1, r2, r3, r4, r5) := zy H e8
   have l4 := zm e8; clear e8
   by_cases i0 : j < (n.length : Int)
   rotate_left
   ·rw [if_neg i0] at H
    exact absurd H (by simp)
   rw [if_pos i0] at H; have o5 := decide_eq_true i0; clear i0
   obtain ⟨g2, e9⟩ : ∃ y_ : List Int, y_ = (n.set (j : Int).toNat a2) := ⟨_, rfl⟩
   replace H : (if 0 ≤ a1 then (if a1 < (l.length : Int) then (some (e7, (l.set (a1 : Int).toNat (wrap64 (2 + j))), b0, g2, 0)) else (none)) else (none)) = some (r1, r2, r3, r4, r5) := zy H e9
   have l5 := zm e9; clear e9
   by_cases i1 : 0 ≤ a1
   rotate_left
   ·rw [if_neg i1] at H
    exact absurd H (by simp)
   rw [if_pos i1] at H; have o6 := decide_eq_true i1; clear i1
   by_cases i2 : a1 < (l.length : Int)
   rotate_left
   ·rw [if_neg i2] at H
    exact absurd H (by simp)
   rw [if_pos i2] at H; have o7 := decide_eq_true i2; clear i2
   obtain ⟨j6, f0⟩ : ∃ y_ : List Int, y_ = (l.set (a1 : Int).toNat (wrap64 (2 + j))) := ⟨_, rfl⟩
   replace H : (some (e7, j6, b0, g2, 0)) = some (r1, r2, r3, r4, r5) := zy H f0
   have l6 := zm f0; clear f0
   simp only [Option.some.injEq, Prod.mk.injEq] at H
   obtain ⟨rfl, rfl, rfl, rfl, rfl⟩ := H
   have o8 := Zp.out; have o9 := Ze.out
   obtain ⟨_, _, _, _, _, _, _, _⟩ := zb4 Za.out
   go_wp2_with (first | ((with_reducible refine gate_callee (f := 50) rfl ?_); refine goesL_ (some 37) rfl rfl Tryz.func50 (by kernel_rfl) rfl #[.slice s b.length q] rfl zq ?_; (with_reducible refine (spec_l08Free.calls i6 _ _ b j _ ?side1 ?side2 l8.out).mono ?_); (case side1 => exact zC ((Kd.R_reads' Zc.out).2.2)); (case side2 => exact (Kd.R_reads' Zc.out).2.1); rintro e w' ⟨rfl, ⟨nd, rfl⟩⟩; refine ⟨_, rfl, ?_⟩; (try (rw [drewN_self wc]; generalize hq_ : World.drewN wc _ = wc; have z : Aside0 (Kd.R (Kd.int .i64) 3 wc w.heap.size (fun k_ => some k_ ≠ (.slice (some i) a.length x : Value).ownBlock ∧ some k_ ≠ (.slice J c.length m : Value).ownBlock) (.slice s b.length q) b) := ⟨by rw [← hq_]; exact (zg_6 Zc.out)⟩; have A : Aside0 (Kd.R (Kd.int .i64) 3 wc w.heap.size (fun k_ => some k_ ≠ (.slice s b.length q : Value).ownBlock ∧ some k_ ≠ (.slice J c.length m : Value).ownBlock) (.slice (some i) a.length x) a) := ⟨by rw [← hq_]; exact (zg_6 Zf.out)⟩; have B : Aside0 (Kd.S k66 66 wc w.heap.size (fun k_ => some k_ ≠ (.slice s b.length q : Value).ownBlock ∧ some k_ ≠ (.slice (some i) a.length x : Value).ownBlock ∧ some k_ ≠ (.slice J c.length m : Value).ownBlock) (.slice Y y.length Z) y) := ⟨by rw [← hq_]; exact (zg_11 Zg.out)⟩; have D : Aside0 (Kd.R (Kd.int .i64) 3 wc w.heap.size (fun k_ => some k_ ≠ (.slice s b.length q : Value).ownBlock ∧ some k_ ≠ (.slice (some i) a.length x : Value).ownBlock) (.slice J c.length m) c) := ⟨by rw [← hq_]; exact (zg_6 Zd.out)⟩; have L : Aside0 (wc.heap[d]? = some (.cells #[.slice s b.length q, .slice (some i) a.length x, .slice Y y.length Z, .slice J c.length m] 26 (0, 0))) := ⟨by rw [← hq_]; exact (zg_3 Za.out)⟩; have M : Aside0 (wc.heap[T]? = some (.cells #[.slice none 0 0, .slice none 0 0, .slice none 0 0, .slice none 0 0] 26 (0, 0))) := ⟨by rw [← hq_]; exact (zg_3 Zb.out)⟩; have O : Aside0 (Below w.heap.size w wc) := ⟨by rw [← hq_]; exact (zg_5 HB.out Zk.out Zn.out)⟩; clear Zc Zf Zg Zd Za Zb HB hq_; have Zc := z; have Zf := A; have Zg := B; have Zd := D; have Za := L; have Zb := M; have HB := O; clear z A B D L M O)); obtain ⟨_, _, _, _, _, _, _, _⟩ := zb4 Za.out) | ((with_reducible refine gate_callee (f := 48) rfl ?_); refine goesL_ (some 43) rfl rfl Tryz.func48 (by kernel_rfl) rfl #[.agg #[.slice s b.length q, .slice (some i) a.length x, .slice Y y.length Z, .slice J c.length m], .int .i64 (rd a a1)] rfl zq ?_; (with_reducible refine (spec_l10Drop.calls (fun k_ => some k_ = (.slice s b.length q : Value).ownBlock) (.slice s b.length q) b (fun k_ => some k_ = (.slice (some i) a.length x : Value).ownBlock) (.slice (some i) a.length x) a (fun k_ => ((some k_ ≠ (.slice s b.length q : Value).ownBlock ∧ (some k_ ≠ (.slice (some i) a.length x : Value).ownBlock ∧ some k_ ≠ (.slice J c.length m : Value).ownBlock))) ∧ ∃ q_, q_ ∈ (66 :: (k66).E) ∧ ∃ cs_, wc.heap[k_]? = some (.cells cs_ q_ (0, 0))) (.slice Y y.length Z) y (fun k_ => some k_ = (.slice J c.length m : Value).ownBlock) (.slice J c.length m) c (rd a a1) u l b0 n w _ ?side1 ?side2 ?side3 ?side4 ?side5 ?side6 ?side7 ?side8 ?side9 ?side10 ?side11 ?side12 ?side13 ?side14 ?side15 ?side16 ?side17 h4.out).mono ?_); (case side1 => exact (zg_5 HB.out Zk.out Zn.out)); (case side2 => exact Kd.R_tight rfl Zc.out); (case side3 => exact fun k_ e_ => (Zc.out.1 k_ e_.symm).1); (case side4 => exact fun k_ e_ hP_ => (hP_.1.1) e_); (case side5 => exact fun k_ e_ => (Zc.out.1 k_ e_.symm).2); (case side6 => exact Kd.R_tight rfl Zf.out); (case side7 => exact fun k_ e_ => (Zf.out.1 k_ e_.symm).1); (case side8 => exact fun k_ e_ hP_ => (hP_.1.2.1) e_); (case side9 => exact fun k_ e_ => (Zf.out.1 k_ e_.symm).2); (case side10 => exact Kd.S_mono (Kd.S_bound (Zg.out)) (fun k_ h_ => ⟨h_.1, h_.2.2.2⟩)); (case side11 => exact fun k_ hP_ e_ => (hP_.1.1) e_); (case side12 => exact fun k_ hP_ e_ => (hP_.1.2.1) e_); (case side13 => exact fun k_ hP_ e_ => (hP_.1.2.2) e_); (case side14 => exact Kd.R_tight rfl Zd.out); (case side15 => exact fun k_ e_ => (Zd.out.1 k_ e_.symm).1); (case side16 => exact fun k_ e_ => (Zd.out.1 k_ e_.symm).2); (case side17 => exact fun k_ e_ hP_ => (hP_.1.2.2) e_); rintro e n2 ⟨g3, g4, q0, g5, rfl, f4, f5, f6, f7, hb, hkp⟩; refine ⟨_, rfl, ?_⟩; have z := zm (blk_kept (zg_3 Za.out) hkp (fun hs_ => Or.elim hs_ (fun e_ => (fun e_ => (Kd.R_ne Zc.out Za.out (by decide)) e_) e_) (fun e_ => Or.elim e_ (fun e_ => (fun e_ => (Kd.R_ne Zf.out Za.out (by decide)) e_) e_) (fun e_ => Or.elim e_ (fun e_ => (fun hP_ => (by obtain ⟨_, q_, hq_, cs_, hc_⟩ := hP_; have hb_ := Za.out; rw [hb_] at hc_; injection hc_ with hc_; injection hc_ with _ h2_; rw [← h2_] at hq_; exact absurd hq_ (by decide))) e_) (fun e_ => (fun e_ => (Kd.R_ne Zd.out Za.out (by decide)) e_) e_))))); have A := zm (blk_kept (zg_3 Zb.out) hkp (fun hs_ => Or.elim hs_ (fun e_ => (fun e_ => (Kd.R_ne Zc.out Zb.out (by decide)) e_) e_) (fun e_ => Or.elim e_ (fun e_ => (fun e_ => (Kd.R_ne Zf.out Zb.out (by decide)) e_) e_) (fun e_ => Or.elim e_ (fun e_ => (fun hP_ => (by obtain ⟨_, q_, hq_, cs_, hc_⟩ := hP_; have hb_ := Zb.out; rw [hb_] at hc_; injection hc_ with hc_; injection hc_ with _ h2_; rw [← h2_] at hq_; exact absurd hq_ (by decide))) e_) (fun e_ => (fun e_ => (Kd.R_ne Zd.out Zb.out (by decide)) e_) e_))))); have B := zm (Kd.R_mono (ok' := fun k_ => some k_ ≠ (g4 : Value).ownBlock ∧ some k_ ≠ (g5 : Value).ownBlock) f4 (fun k_ hk_ => ⟨hk_.2.1, hk_.2.2⟩)); have D := zm (Kd.R_mono (ok' := fun k_ => some k_ ≠ (g3 : Value).ownBlock ∧ some k_ ≠ (g5 : Value).ownBlock) f5 (fun k_ hk_ => ⟨hk_.2.1, hk_.2.2⟩)); have L := zm (Kd.S_mono (ok' := fun k_ => some k_ ≠ (g3 : Value).ownBlock ∧ some k_ ≠ (g4 : Value).ownBlock ∧ some k_ ≠ (g5 : Value).ownBlock) f6 (fun k_ hk_ => ⟨hk_.2.1, hk_.2.2.1, hk_.2.2.2⟩)); have M := zm (Kd.R_mono (ok' := fun k_ => some k_ ≠ (g3 : Value).ownBlock ∧ some k_ ≠ (g4 : Value).ownBlock) f7 (fun k_ hk_ => ⟨hk_.2.1, hk_.2.2⟩)); have O := zm (hb); clear Zc Zf Zg Zd; replace Za := z; replace Zb := A; have Zh := B; have Zi := D; have Zo := L; have Zj := M; replace HB := O; clear z A B D L M O; (try clear hb); (try clear hkp); (try clear f4); (try clear f5); (try clear f6); (try clear f7); obtain ⟨d3, F, m7⟩ := Kd.R_slice Zh.out; subst m7; obtain ⟨_, _, _, _, _, _, _, _⟩ := zb4 Za.out; obtain ⟨X, G, m8⟩ := Kd.R_slice Zi.out; subst m8; obtain ⟨c9, d0, m9⟩ := Kd.S_slice Zo.out; subst m9; obtain ⟨b3, I, n0⟩ := Kd.R_slice Zj.out; subst n0) | ((with_reducible refine gate_store (t := 26) (p := 3) rfl ?_); refine store_event (t := 26) (p := 3) (v := ?vo_w57) (w1 := ((((n2.setCell ⟨d, 0, none⟩ (.slice d3 u.length F)).setCell ⟨d, 1, none⟩ (.slice X l.length G)).setCell ⟨d, 2, none⟩ (.slice c9 b0.length d0)).setCell ⟨d, 3, none⟩ (.slice b3 n.length I))) ?hg ?ho ?hn ?hr ?_; (case ho => rfl); (case hg => rfl); (case hn => rfl); (case hr => first | (go_simp; done) | (go_simp; rfl)); intro d2 hw; have z : Aside0 (Kd.R (Kd.int .i64) 3 d2 w.heap.size (fun k_ => some k_ ≠ (.slice X l.length G : Value).ownBlock ∧ some k_ ≠ (.slice b3 n.length I : Value).ownBlock) (.slice d3 u.length F) u) := ⟨(by rw [hw]; exact (Kd.R_mono (zR4 (Kd.R_types Zh.out Za.out (by decide))) (fun _ hk => ⟨hk.1.1, hk.1.2⟩)))⟩; have A : Aside0 (Kd.R (Kd.int .i64) 3 d2 w.heap.size (fun k_ => some k_ ≠ (.slice d3 u.length F : Value).ownBlock ∧ some k_ ≠ (.slice b3 n.length I : Value).ownBlock) (.slice X l.length G) l) := ⟨(by rw [hw]; exact (Kd.R_mono (zR4 (Kd.R_types Zi.out Za.out (by decide))) (fun _ hk => ⟨hk.1.1, hk.1.2⟩)))⟩; have B : Aside0 (Kd.S k66 66 d2 w.heap.size (fun k_ => some k_ ≠ (.slice d3 u.length F : Value).ownBlock ∧ some k_ ≠ (.slice X l.length G : Value).ownBlock ∧ some k_ ≠ (.slice b3 n.length I : Value).ownBlock) (.slice c9 b0.length d0) b0) := ⟨(by rw [hw]; exact (Kd.S_mono (zS4 (Kd.S_types Zo.out Za.out (by decide))) (fun _ hk => ⟨hk.1.1, ⟨hk.1.2.1, hk.1.2.2⟩⟩)))⟩; have D : Aside0 (Kd.R (Kd.int .i64) 3 d2 w.heap.size (fun k_ => some k_ ≠ (.slice d3 u.length F : Value).ownBlock ∧ some k_ ≠ (.slice X l.length G : Value).ownBlock) (.slice b3 n.length I) n) := ⟨(by rw [hw]; exact (Kd.R_mono (zR4 (Kd.R_types Zj.out Za.out (by decide))) (fun _ hk => ⟨hk.1.1, hk.1.2⟩)))⟩; have L : Aside0 (d2.heap[d]? = some (.cells #[.slice d3 u.length F, .slice X l.length G, .slice c9 b0.length d0, .slice b3 n.length I] 26 (0, 0))) := ⟨(by rw [hw]; exact (by exact zput4 Za.out))⟩; have M : Aside0 (d2.heap[T]? = some (.cells #[.slice none 0 0, .slice none 0 0, .slice none 0 0, .slice none 0 0] 26 (0, 0))) := ⟨(by rw [hw]; exact (by exact zfar4 Zb.out Ze.out))⟩; have O : Aside0 (Below w.heap.size w d2) := ⟨(by rw [hw]; exact (zg_5 HB.out Zk.out Zn.out))⟩; clear hw; replace Zh := z; replace Zi := A; replace Zo := B; replace Zj := D; replace Za := L; replace Zb := M; replace HB := O; clear z A B D L M O; obtain ⟨_, _, _, _, _, _, _, _⟩ := zb4 Za.out; have j7 : 0 ≤ (j : Int) := zd; have j8 : (j : Int) < ((u.length : Int) : Int) := zd; obtain ⟨U, q1, j9, k0, gl43, cl43, HG43⟩ := Kd.R_form Zh.out (by omega); (first | cases j9 | (injection j9 with ea_ en_ ec_; (first | subst ea_ | (injection ea_ with ea_; subst ea_)); subst ec_; clear en_)); have GB43 := zm k0; have ZH := zm HG43; clear k0 gl43 HG43; obtain ⟨hx43_0, hf43_0⟩ := Kd.R_celln 0 Zh.out (j : Int) j7 j8; replace j7 := eq_true j7; replace j8 := eq_true j8; obtain ⟨hy59_, hz59_⟩ := Kd.R_celln 0 Zh.out (j : Int) (zd) (zd); have Zt := Kd.R_putg Zh.out (j : Int) 1) | ((with_reducible refine gate_store (t := 3) (p := 47) rfl ?_); refine store_event (t := 3) (p := 47) (v := ?vo_w60) (w1 := (d2.setCell ⟨U, (j : Int).toNat, none⟩ (.int .i64 1))) ?hg ?ho ?hn ?hr ?_; (case ho => rfl); (case hg => rfl); (case hn => rfl); (case hr => first | (go_simp; done) | (go_simp; rfl)); intro g0 hw; have hg : d2.grownBy g0 (some U) := (by rw [hw]; exact Zt.2); have hp_ : Kd.R (Kd.int .i64) 3 g0 w.heap.size (fun k_ => some k_ ≠ (.slice X l.length G : Value).ownBlock ∧ some k_ ≠ (.slice b3 n.length I : Value).ownBlock) (.slice (some ⟨U, 0, none⟩) u.length F) e7 := (by rw [hw, l4.out]; exact Zt.1); clear Zt; have z := zm (blk_grown (g := d) (o := .cells #[.slice (some ⟨U, 0, none⟩) u.length F, .slice X l.length G, .slice c9 b0.length d0, .slice b3 n.length I] 26 (0, 0)) (zg_3 Za.out) hg (Kd.R_ne Zh.out Za.out (by decide))); have A := zm (blk_grown (g := T) (o := .cells #[.slice none 0 0, .slice none 0 0, .slice none 0 0, .slice none 0 0] 26 (0, 0)) (zg_3 Zb.out) hg (Kd.R_ne Zh.out Zb.out (by decide))); have B := zm (hp_); have D := zm (Kd.R_after (v := (.slice (some ⟨U, 0, none⟩) u.length F)) (v1 := (.slice (some ⟨U, 0, none⟩) u.length F)) (ok := (fun k_ => some k_ ≠ (.slice b3 n.length I : Value).ownBlock)) (by (with_reducible repeat (first | apply Kd.R_alloc | apply Kd.R_drewN | apply Kd.R_drew)); exact Kd.R_mono Zi.out (fun _ hk => ⟨hk.2, hk.1⟩)) hg (.inl rfl)); have L := zm (Kd.S_after (v := (.slice (some ⟨U, 0, none⟩) u.length F)) (v1 := (.slice (some ⟨U, 0, none⟩) u.length F)) (ok := (fun k_ => some k_ ≠ (.slice X l.length G : Value).ownBlock ∧ some k_ ≠ (.slice b3 n.length I : Value).ownBlock)) (by (with_reducible repeat (first | apply Kd.S_alloc | apply Kd.S_drewN | apply Kd.S_drew)); exact Kd.S_mono Zo.out (fun _ hk => ⟨⟨hk.2.1, hk.2.2⟩, hk.1⟩)) hg (.inl rfl)); have M := zm (Kd.R_after (v := (.slice (some ⟨U, 0, none⟩) u.length F)) (v1 := (.slice (some ⟨U, 0, none⟩) u.length F)) (ok := (fun k_ => some k_ ≠ (.slice X l.length G : Value).ownBlock)) (by (with_reducible repeat (first | apply Kd.R_alloc | apply Kd.R_drewN | apply Kd.R_drew)); exact Kd.R_mono Zj.out (fun _ hk => ⟨hk.2, hk.1⟩)) hg (.inl rfl)); have O := zm ((by rw [hw]; exact below_set (HB.out) GB43.out : Below w.heap.size w g0)); replace Za := z; replace Zb := A; replace Zh := B; replace Zi := D; replace Zo := L; replace Zj := M; replace HB := O; clear z A B D L M O; clear hg hw hp_; obtain ⟨_, _, _, _, _, _, _, _⟩ := zb4 Za.out; have k1 : 0 ≤ (j : Int) := zd; have k2 : (j : Int) < ((n.length : Int) : Int) := zd; obtain ⟨V, q2, k3, k4, gl45, cl45, HG45⟩ := Kd.R_form Zj.out (by omega); (first | cases k3 | (injection k3 with ea_ en_ ec_; (first | subst ea_ | (injection ea_ with ea_; subst ea_)); subst ec_; clear en_)); have GB45 := zm k4; have ZI := zm HG45; clear k4 gl45 HG45; obtain ⟨hx45_0, hf45_0⟩ := Kd.R_celln 0 Zj.out (j : Int) k1 k2; replace k1 := eq_true k1; replace k2 := eq_true k2; obtain ⟨hy62_, hz62_⟩ := Kd.R_celln 0 Zj.out (j : Int) (zd) (zd); have Zu := Kd.R_putg Zj.out (j : Int) a2) | ((with_reducible refine gate_store (t := 3) (p := 52) rfl ?_); refine store_event (t := 3) (p := 52) (v := ?vo_w63) (w1 := (g0.setCell ⟨V, (j : Int).toNat, none⟩ (.int .i64 a2))) ?hg ?ho ?hn ?hr ?_; (case ho => rfl); (case hg => rfl); (case hn => rfl); (case hr => first | (go_simp; done) | (go_simp; rfl)); intro g1 hw; have hg : g0.grownBy g1 (some V) := (by rw [hw]; exact Zu.2); have hp_ : Kd.R (Kd.int .i64) 3 g1 w.heap.size (fun k_ => some k_ ≠ (.slice X l.length G : Value).ownBlock ∧ some k_ ≠ (.slice (some ⟨U, 0, none⟩) u.length F : Value).ownBlock) (.slice (some ⟨V, 0, none⟩) n.length I) g2 := (by rw [hw, l5.out]; exact Zu.1); clear Zu; have z := zm (blk_grown (g := d) (o := .cells #[.slice (some ⟨U, 0, none⟩) u.length F, .slice X l.length G, .slice c9 b0.length d0, .slice (some ⟨V, 0, none⟩) n.length I] 26 (0, 0)) (zg_3 Za.out) hg (Kd.R_ne Zj.out Za.out (by decide))); have A := zm (blk_grown (g := T) (o := .cells #[.slice none 0 0, .slice none 0 0, .slice none 0 0, .slice none 0 0] 26 (0, 0)) (zg_3 Zb.out) hg (Kd.R_ne Zj.out Zb.out (by decide))); have B := zm (Kd.R_after (v := (.slice (some ⟨V, 0, none⟩) n.length I)) (v1 := (.slice (some ⟨V, 0, none⟩) n.length I)) (ok := (fun k_ => some k_ ≠ (.slice X l.length G : Value).ownBlock)) (zg_6 Zh.out) hg (.inl rfl)); have D := zm (Kd.R_after (v := (.slice (some ⟨V, 0, none⟩) n.length I)) (v1 := (.slice (some ⟨V, 0, none⟩) n.length I)) (ok := (fun k_ => some k_ ≠ (.slice (some ⟨U, 0, none⟩) u.length F : Value).ownBlock)) (by (with_reducible repeat (first | apply Kd.R_alloc | apply Kd.R_drewN | apply Kd.R_drew)); exact Kd.R_mono Zi.out (fun _ hk => ⟨hk.2, hk.1⟩)) hg (.inl rfl)); have L := zm (Kd.S_after (v := (.slice (some ⟨V, 0, none⟩) n.length I)) (v1 := (.slice (some ⟨V, 0, none⟩) n.length I)) (ok := (fun k_ => some k_ ≠ (.slice (some ⟨U, 0, none⟩) u.length F : Value).ownBlock ∧ some k_ ≠ (.slice X l.length G : Value).ownBlock)) (by (with_reducible repeat (first | apply Kd.S_alloc | apply Kd.S_drewN | apply Kd.S_drew)); exact Kd.S_mono Zo.out (fun _ hk => ⟨⟨hk.2, hk.1.1⟩, hk.1.2⟩)) hg (.inl rfl)); have M := zm (hp_); have O := zm ((by rw [hw]; exact below_set (HB.out) GB45.out : Below w.heap.size w g1)); replace Za := z; replace Zb := A; replace Zh := B; replace Zi := D; replace Zo := L; replace Zj := M; replace HB := O; clear z A B D L M O; clear hg hw hp_; obtain ⟨_, _, _, _, _, _, _, _⟩ := zb4 Za.out; have k5 : 0 ≤ (a1 : Int) := zd; have k6 : (a1 : Int) < ((l.length : Int) : Int) := zd; obtain ⟨b2, q3, k7, k8, gl48, cl48, HG48⟩ := Kd.R_form Zi.out (by omega); (first | cases k7 | (injection k7 with ea_ en_ ec_; (first | subst ea_ | (injection ea_ with ea_; subst ea_)); subst ec_; clear en_)); have GB48 := zm k8; have ZJ := zm HG48; clear k8 gl48 HG48; obtain ⟨hx48_0, hf48_0⟩ := Kd.R_celln 0 Zi.out (a1 : Int) k5 k6; replace k5 := eq_true k5; replace k6 := eq_true k6; obtain ⟨hy65_, hz65_⟩ := Kd.R_celln 0 Zi.out (a1 : Int) (zd) (zd); have Zv := Kd.R_putg Zi.out (a1 : Int) (wrap64 (2 + j))) | ((with_reducible refine gate_store (t := 3) (p := 58) rfl ?_); refine store_event (t := 3) (p := 58) (v := ?vo_w66) (w1 := (g1.setCell ⟨b2, (a1 : Int).toNat, none⟩ (.int .i64 (wrap64 (2 + j))))) ?hg ?ho ?hn ?hr ?_; (case ho => rfl); (case hg => rfl); (case hn => rfl); (case hr => first | (go_simp; done) | (go_simp; rfl)); intro k9 hw; have hg : g1.grownBy k9 (some b2) := (by rw [hw]; exact Zv.2); have hp_ : Kd.R (Kd.int .i64) 3 k9 w.heap.size (fun k_ => some k_ ≠ (.slice (some ⟨U, 0, none⟩) u.length F : Value).ownBlock ∧ some k_ ≠ (.slice (some ⟨V, 0, none⟩) n.length I : Value).ownBlock) (.slice (some ⟨b2, 0, none⟩) l.length G) j6 := (by rw [hw, l6.out]; exact Zv.1); clear Zv; have z := zm (blk_grown (g := d) (o := .cells #[.slice (some ⟨U, 0, none⟩) u.length F, .slice (some ⟨b2, 0, none⟩) l.length G, .slice c9 b0.length d0, .slice (some ⟨V, 0, none⟩) n.length I] 26 (0, 0)) (zg_3 Za.out) hg (Kd.R_ne Zi.out Za.out (by decide))); have A := zm (blk_grown (g := T) (o := .cells #[.slice none 0 0, .slice none 0 0, .slice none 0 0, .slice none 0 0] 26 (0, 0)) (zg_3 Zb.out) hg (Kd.R_ne Zi.out Zb.out (by decide))); have B := zm (Kd.R_after (v := (.slice (some ⟨b2, 0, none⟩) l.length G)) (v1 := (.slice (some ⟨b2, 0, none⟩) l.length G)) (ok := (fun k_ => some k_ ≠ (.slice (some ⟨V, 0, none⟩) n.length I : Value).ownBlock)) (by (with_reducible repeat (first | apply Kd.R_alloc | apply Kd.R_drewN | apply Kd.R_drew)); exact Kd.R_mono Zh.out (fun _ hk => ⟨hk.2, hk.1⟩)) hg (.inl rfl)); have D := zm (hp_); have L := zm (Kd.S_after (v := (.slice (some ⟨b2, 0, none⟩) l.length G)) (v1 := (.slice (some ⟨b2, 0, none⟩) l.length G)) (ok := (fun k_ => some k_ ≠ (.slice (some ⟨U, 0, none⟩) u.length F : Value).ownBlock ∧ some k_ ≠ (.slice (some ⟨V, 0, none⟩) n.length I : Value).ownBlock)) (by (with_reducible repeat (first | apply Kd.S_alloc | apply Kd.S_drewN | apply Kd.S_drew)); exact Kd.S_mono Zo.out (fun _ hk => ⟨⟨hk.1.1, hk.2⟩, hk.1.2⟩)) hg (.inl rfl)); have M := zm (Kd.R_after (v := (.slice (some ⟨b2, 0, none⟩) l.length G)) (v1 := (.slice (some ⟨b2, 0, none⟩) l.length G)) (ok := (fun k_ => some k_ ≠ (.slice (some ⟨U, 0, none⟩) u.length F : Value).ownBlock)) (by (with_reducible repeat (first | apply Kd.R_alloc | apply Kd.R_drewN | apply Kd.R_drew)); exact Kd.R_mono Zj.out (fun _ hk => ⟨hk.2, hk.1⟩)) hg (.inl rfl)); have O := zm ((by rw [hw]; exact below_set (HB.out) GB48.out : Below w.heap.size w k9)); replace Za := z; replace Zb := A; replace Zh := B; replace Zi := D; replace Zo := L; replace Zj := M; replace HB := O; clear z A B D L M O; clear hg hw hp_; obtain ⟨_, _, _, _, _, _, _, _⟩ := zb4 Za.out; obtain ⟨_, _, _, _, _, _, _, _⟩ := zb4 Zb.out))
   refine bodyPost_ret (results_ct rfl _ _ T 26 #[.slice (some ⟨U, 0, none⟩) u.length F, .slice (some ⟨b2, 0, none⟩) l.length G, .slice c9 b0.length d0, .slice (some ⟨V, 0, none⟩) n.length I] (0, 0) _ rfl (by exact zput4 Zb.out) Tryz.underlying26 rfl (by kernel_rfl)) rfl ?_
   exact ⟨_, _, _, _, ze, Kd.R_mono (zR4 (Kd.R_types Zh.out Zb.out (by decide))) (fun _ hk => ⟨hk.1.2, hk.1.1⟩), Kd.R_mono (zR4 (Kd.R_types Zi.out Zb.out (by decide))) (fun _ hk => ⟨hk.1.1, hk.1.2⟩), Kd.S_mono (zS4 (Kd.S_types Zo.out Zb.out (by decide))) (fun _ hk => ⟨hk.1.1.1, ⟨hk.1.2, hk.1.1.2⟩⟩), Kd.R_mono (zR4 (Kd.R_types Zj.out Zb.out (by decide))) (fun _ hk => ⟨hk.1.1, hk.1.2⟩), zg_5 HB.out Zk.out Zn.out⟩
end Go.Proofs.YtnibgibjfpbagaaGreat.Q
