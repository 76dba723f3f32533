/- What laws.FnCheck reaches, part 5: the functions as Lean functions, the proofs that the program's functions answer so, and plain laws about them. -/
import Derived.Test.YtnibgibjfpbagaaGreatKFnCheck1
import Derived.Test.YtnibgibjfpbagaaGreatKFnCheck3
import Derived.Test.YtnibgibjfpbagaaGreatKFnCheck4
namespace Go.Proofs.YtnibgibjfpbagaaGreat.Q
open Go.RowKit Go.Proofs.YtnibgibjfpbagaaGreat.Ext Go.Proofs.YtnibgibjfpbagaaGreatW.PrintWords Go.Proofs.YtnibgibjfpbagaaGreatW.PrintLast Go.Proofs.YtnibgibjfpbagaaGreatW.PrintMore
attribute [local go_sem] max2_int min2_int max_two min_two max_three min_three max_four min_four   -- for this text's walks alone
open Bool renaming true → tt, false → ff
set_option linter.unusedVariables false
set_option linter.unusedSimpArgs false

set_option linter.unusedVariables false
set_option linter.unusedSimpArgs false
def spec_l10Delete.l0 : Nat → Int → Int → List Int → List Int → List (S66) → List Int → Option (List Int × List Int × (List (S66)) × List Int × Int)
  | 0, _, _, _, _, _, _ => none
  | k + 1, x6, x7, x256000, x256001, x256002, x256003 => if 0 ≤ x6 then (if x6 < (x256002.length : Int) then (if x7 < (((rd_T66 x256002 x6).f1).length : Int) then (if 0 ≤ x7 then ((spec_l10Drop_v.f x256000 x256001 x256002 x256003 (rd ((rd_T66 x256002 x6).f1) x7)).bind fun bt273 => (spec_l10Delete.l0 k x6 (wrap64 (x7 + 1)) bt273.1 bt273.2.1 bt273.2.2.1 bt273.2.2.2)) else (none)) else ((some (([] : List (S66)) : List (S66))).bind fun y285 => (if x6 ≤ (x256002.length : Int) then ((some (x256002.take (x6 : Int).toNat : List (S66))).bind fun y288 => (if y285.length + y288.length < 3518437208883 then ((some (y285 ++ y288 : List (S66))).bind fun y293 => (if 0 ≤ (wrap64 (x6 + 1)) then (if (wrap64 (x6 + 1)) ≤ (x256002.length : Int) then ((some (x256002.drop ((wrap64 (x6 + 1)) : Int).toNat : List (S66))).bind fun y296 => (if y293.length + y296.length < 3518437208883 then (some (x256000, x256001, (y293 ++ y296), x256003, 0)) else (none))) else (none)) else (none))) else (none))) else (none)))) else (none)) else (none)
def spec_l10Delete.f (k : Nat) (l0_0 : List Int) (l0_1 : List Int) (l0_2 : List (S66)) (l0_3 : List Int) (a1 : ByteArray) : Option (List Int × List Int × (List (S66)) × List Int × Int) := (spec_l10Own.f k l0_0 l0_1 l0_2 l0_3).bind fun bt257 => ((spec_l10Find.f k bt257.1 bt257.2.1 bt257.2.2.1 bt257.2.2.2 a1).bind fun t269 => (if t269 < 0 then (some (bt257.1, bt257.2.1, bt257.2.2.1, bt257.2.2.2, 5)) else (spec_l10Delete.l0 k t269 0 bt257.1 bt257.2.1 bt257.2.2.1 bt257.2.2.2)))
theorem spec_l10Delete.mono_l : ∀ k, (∀ y0 y1 y2 y3 y4 y5, LeO (spec_l10Delete.l0 k y0 y1 y2 y3 y4 y5) (spec_l10Delete.l0 (k + 1) y0 y1 y2 y3 y4 y5))
  | 0 => fun _ _ _ _ _ _ r h => by simp [spec_l10Delete.l0] at h
  | k + 1 => by
    have ih0 := spec_l10Delete.mono_l k
    · intro y0 y1 y2 y3 y4 y5
      unfold spec_l10Delete.l0
      repeat' first| (with_reducible first | exact ih0 _ _ _ _ _ _ | exact spec_l10Find.mono _ _ _ _ _ _ | exact spec_l10Own.mono _ _ _ _ _ | exact LeO.refl _ | exact LeO.none _ | refine LeO.ite ?_ ?_ | refine LeO.bind ?_ (fun _ => ?_)) | exact ih0 _ _ _ _ _ _ | exact LeO.none _ | refine LeO.ite ?_ ?_ | refine LeO.bind ?_ (fun _ => ?_)
theorem spec_l10Delete.mono : ∀ a0 a1 a2 a3 a4 k, LeO (spec_l10Delete.f k a0 a1 a2 a3 a4) (spec_l10Delete.f (k + 1) a0 a1 a2 a3 a4) := by
  intro a0 a1 a2 a3 a4 k
  have ih0 := spec_l10Delete.mono_l k
  unfold spec_l10Delete.f
  repeat' first| (with_reducible first | exact ih0 _ _ _ _ _ _ | exact spec_l10Find.mono _ _ _ _ _ _ | exact spec_l10Own.mono _ _ _ _ _ | exact LeO.refl _ | exact LeO.none _ | refine LeO.ite ?_ ?_ | refine LeO.bind ?_ (fun _ => ?_)) | exact ih0 _ _ _ _ _ _ | exact LeO.none _ | refine LeO.ite ?_ ?_ | refine LeO.bind ?_ (fun _ => ?_)
def spec_l10Delete.T8 : Bool × List (List Nat × List Nat) := (true, [([], []), ([], []), ([1], [1]), ([], []), ([2, 3], [2, 3]), ([4], [4]), ([5], [5]), ([], []), ([6, 7], [6, 7]), ([8], [8]), ([0, 9], [0, 9]), ([10, 10, 0, 1, 2, 3, 4, 5, 6, 7, 8, 9, 10], [10])])
def spec_l10Delete.B8 : List Nat := [0, 0, 2, 0, 14, 30, 62, 0, 254, 510, 1023, 2047]
theorem spec_l10Delete.tab8 : rtab .any (opsOf Tryz.f25 8) = spec_l10Delete.T8 := by kernel_rfl
theorem spec_l10Delete.bits8 : waitsOk spec_l10Delete.T8.2 spec_l10Delete.B8 = true := by kernel_rfl
def spec_l10Delete.T9 : Bool × List (List Nat × List Nat) := (true, [([], []), ([], []), ([1], [1]), ([], []), ([2, 3], [2, 3]), ([0, 4], [0, 4]), ([], []), ([6], [6]), ([], []), ([8], [8]), ([7, 9], [7, 9]), ([5, 10, 5], [5, 10]), ([0, 1, 2, 3, 4, 5, 6, 7, 8, 9, 10, 11], []), ([12, 11, 11, 0, 1, 2, 3, 4, 5, 6, 7, 8, 9, 10, 11], [11, 12])])
def spec_l10Delete.B9 : List Nat := [0, 0, 2, 0, 14, 31, 0, 64, 0, 256, 960, 2047, 4095, 8191]
theorem spec_l10Delete.tab9 : rtab .any (opsOf Tryz.f25 9) = spec_l10Delete.T9 := by kernel_rfl
theorem spec_l10Delete.bits9 : waitsOk spec_l10Delete.T9.2 spec_l10Delete.B9 = true := by kernel_rfl
set_option maxHeartbeats 8000000 in
set_option maxRecDepth 100000 in
theorem spec_l10Delete.calls (k : Nat) (a8 : Option Addr) (a9 : Nat) (X : List Int) (b0 : Option Addr) (b1 : Nat) (Y : List Int) (b2 : Option Addr) (b3 : Nat) (Z : List (S66)) (b4 : Option Addr) (b5 : Nat) (a5 : List Int) (a1 : ByteArray) (r1 : List Int) (r2 : List Int) (r3 : List (S66)) (r4 : List Int) (r5 : Int) (w : World) (l6 : Kd.C (Kd.int .i64) w a8 X.length X) (l7 : X.length ≤ a9) (l8 : Kd.C (Kd.int .i64) w b0 Y.length Y) (l9 : Y.length ≤ b1) (m0 : Kd.C k66 w b2 Z.length Z) (m1 : Z.length ≤ b3) (m2 : Kd.C (Kd.int .i64) w b4 a5.length a5) (m3 : a5.length ≤ b5) (h : spec_l10Delete.f k X Y Z a5 a1 = some (r1, r2, r3, r4, r5)) :
    Calls Tryz.prog 25 #[.agg #[.slice a8 X.length a9, .slice b0 Y.length b1, .slice b2 Z.length b3, .slice b4 a5.length b5], .string a1] w fun e w' => ∃ j7 j8 q5 j9 : Value, e = .returned (.tuple #[.agg #[j7, j8, q5, j9], .int .i64 r5]) ∧ Kd.R (Kd.int .i64) 3 w' w.heap.size (fun k_ => (w.heap.size ≤ k_) ∧ some k_ ≠ (j8 : Value).ownBlock ∧ some k_ ≠ (j9 : Value).ownBlock) j7 r1 ∧ Kd.R (Kd.int .i64) 3 w' w.heap.size (fun k_ => (w.heap.size ≤ k_) ∧ some k_ ≠ (j7 : Value).ownBlock ∧ some k_ ≠ (j9 : Value).ownBlock) j8 r2 ∧ Kd.N k66 66 w' w.heap.size (fun k_ => (w.heap.size ≤ k_) ∧ some k_ ≠ (j7 : Value).ownBlock ∧ some k_ ≠ (j8 : Value).ownBlock ∧ some k_ ≠ (j9 : Value).ownBlock) q5 r3 ∧ Kd.R (Kd.int .i64) 3 w' w.heap.size (fun k_ => (w.heap.size ≤ k_) ∧ some k_ ≠ (j7 : Value).ownBlock ∧ some k_ ≠ (j8 : Value).ownBlock) j9 r4 ∧ Below w.heap.size w w' := by
 have hu26 := Tryz.underlying26; have Zx := zm l6; have Zy := zm l7; clear l6 l7; have Zz := zm l8; have ZA := zm l9; clear l8 l9; have ZB := zm m0; have ZC := zm m1; clear m0 m1; have ZD := zm m2; have ZE := zm m3; clear m2 m3; have HB := zm (Below.refl w.heap.size w); have H := h
 unfold spec_l10Delete.f at H
 clear h; replace H := Option.bind_eq_some_iff.mp H
 obtain ⟨⟨L, O, a6, T⟩, q6, H⟩ := H
 try dsimp only at H
 have A3 := zm q6; clear q6; replace H := Option.bind_eq_some_iff.mp H
 obtain ⟨x, q7, H⟩ := H
 try dsimp only at H
 have A4 := zm q7; clear q7
 by_cases c5 : x < 0
 ·rw [if_pos c5] at H
  have n4 := decide_eq_true c5; clear c5
  simp only [Option.some.injEq, Prod.mk.injEq] at H
  obtain ⟨rfl, rfl, rfl, rfl, rfl⟩ := H
  go_enter Tryz.func25, Tryz.ntmps25
  go_wp2_with (first | ((with_reducible refine gate_dst (N := 2) rfl ?_); refine box_event ?hg (N := 2) ?hd (cs := #[.slice a8 X.length a9, .slice b0 Y.length b1, .slice b2 Z.length b3, .slice b4 a5.length b5]) (t := 26) ?hr ?_; (case hd => rfl); (case hg => rfl); (case hr => first | (go_simp; done) | (go_simp; rfl)); intro b hg w6 hbox hb; have z := zm (below_step (zg_1 HB.out) hb); have A := zm (hbox); have B := zm ((by rw [hg]; exact (below_size (zg_1 HB.out)) : w.heap.size ≤ b)); have D := zm ((by rw [hg]; exact (below_size (zg_1 HB.out)) : w.heap.size ≤ b)); replace HB := z; have Za := A; have ZK := B; have Zh := D; clear z A B D; clear hb hbox hg) | ((with_reducible refine gate_dst (N := 4) rfl ?_); refine box_event ?hg (N := 4) ?hd (cs := #[.slice none 0 0, .slice none 0 0, .slice none 0 0, .slice none 0 0]) (t := 26) ?hr ?_; (case hd => rfl); (case hg => rfl); (case hr => first | (go_simp; done) | (go_simp; rfl)); intro d hg w7 hbox hb; have z := zm (blk_below (g := b) (o := .cells #[.slice a8 X.length a9, .slice b0 Y.length b1, .slice b2 Z.length b3, .slice b4 a5.length b5] 26 (0, 0)) (zg_3 Za.out) hb); have A := zm (below_step (zg_2 HB.out Zh.out) hb); have B := zm (hbox); have D := zm ((by rw [hg]; exact (below_size (zg_2 HB.out Zh.out)) : w.heap.size ≤ d)); have E := zm ((by rw [hg]; exact (below_size (zg_2 HB.out Zh.out)) : w.heap.size ≤ d)); have G := zm ((by rw [hg]; exact Nat.ne_of_lt (blk_lt (g := b) (o := .cells #[.slice a8 X.length a9, .slice b0 Y.length b1, .slice b2 Z.length b3, .slice b4 a5.length b5] 26 (0, 0)) (zg_3 Za.out)) : b ≠ d)); have I := zm ((by rw [hg]; exact Nat.ne_of_gt (blk_lt (g := b) (o := .cells #[.slice a8 X.length a9, .slice b0 Y.length b1, .slice b2 Z.length b3, .slice b4 a5.length b5] 26 (0, 0)) (zg_3 Za.out)) : d ≠ b)); replace Za := z; replace HB := A; have Zf := B; have ZL := D; have Zi := E; have Zk := G; have Zg := I; clear z A B D E G I; clear hb hbox hg; have z5 := Zk.out; have z6 := Zg.out; obtain ⟨_, _, _, _, _, _, _, _⟩ := zb4 Za.out) | ((with_reducible refine gate_callee (f := 31) rfl ?_); refine goesL_ (some 9) rfl rfl Tryz.func31 (by kernel_rfl) rfl #[.agg #[.slice a8 X.length a9, .slice b0 Y.length b1, .slice b2 Z.length b3, .slice b4 a5.length b5]] rfl zq ?_; (with_reducible refine (spec_l10Own.calls k _ _ X _ _ Y _ _ Z _ _ a5 L O a6 T _ ?side1 ?side2 ?side3 ?side4 ?side5 ?side6 ?side7 ?side8 A3.out).mono ?_); (case side1 => exact zC (Kd.C_below Zx.out HB.out)); (case side2 => exact Zy.out); (case side3 => exact zC (Kd.C_below Zz.out HB.out)); (case side4 => exact ZA.out); (case side5 => exact zC (Kd.C_below ZB.out HB.out)); (case side6 => exact ZC.out); (case side7 => exact zC (Kd.C_below ZD.out HB.out)); (case side8 => exact ZE.out); rintro e v5 ⟨k5, k6, r6, k7, rfl, f9, g0, g7, g1, hb⟩; refine ⟨_, rfl, ?_⟩; have z := zm (Kd.R_lower (Kd.R_newM (M := fun k_ => (w.heap.size ≤ k_)) f9 (below_size (zg_5 HB.out Zh.out Zi.out)) (fun k_ h_ => h_)) (below_size (zg_5 HB.out Zh.out Zi.out))); have A := zm (Kd.R_lower (Kd.R_newM (M := fun k_ => (w.heap.size ≤ k_)) g0 (below_size (zg_5 HB.out Zh.out Zi.out)) (fun k_ h_ => h_)) (below_size (zg_5 HB.out Zh.out Zi.out))); have B := zm (Kd.N_lower (Kd.N_mono (ok' := fun k_ => (w.heap.size ≤ k_) ∧ some k_ ≠ (k5 : Value).ownBlock ∧ some k_ ≠ (k6 : Value).ownBlock ∧ some k_ ≠ (k7 : Value).ownBlock ∧ k_ ≠ b ∧ k_ ≠ d) (Kd.S_N (Kd.S_bound g7)) (fun k_ hk_ => ⟨(Nat.le_trans (below_size (zg_5 HB.out Zh.out Zi.out)) hk_.2.1), hk_.1.1, hk_.1.2.1, hk_.1.2.2, (Kd.freshB (g := b) (o := .cells #[.slice a8 X.length a9, .slice b0 Y.length b1, .slice b2 Z.length b3, .slice b4 a5.length b5] 26 (0, 0)) (zg_3 Za.out) k_ hk_.2.1), (Kd.freshB (g := d) (o := .cells #[.slice none 0 0, .slice none 0 0, .slice none 0 0, .slice none 0 0] 26 (0, 0)) (zg_3 Zf.out) k_ hk_.2.1)⟩)) (below_size (zg_5 HB.out Zh.out Zi.out))); have D := zm (Kd.R_lower (Kd.R_newM (M := fun k_ => (w.heap.size ≤ k_)) g1 (below_size (zg_5 HB.out Zh.out Zi.out)) (fun k_ h_ => h_)) (below_size (zg_5 HB.out Zh.out Zi.out))); have E := zm (blk_below (g := b) (o := .cells #[.slice a8 X.length a9, .slice b0 Y.length b1, .slice b2 Z.length b3, .slice b4 a5.length b5] 26 (0, 0)) (zg_3 Za.out) hb); have G := zm (blk_below (g := d) (o := .cells #[.slice none 0 0, .slice none 0 0, .slice none 0 0, .slice none 0 0] 26 (0, 0)) (zg_3 Zf.out) hb); have I := zm (below_step (zg_5 HB.out Zh.out Zi.out) hb); have Zm := z; have Zn := A; have Zo := B; have Zp := D; replace Za := E; replace Zf := G; replace HB := I; clear z A B D E G I; (try clear hb); (try clear hb2); (try clear hk); (try clear hi); (try clear f9); (try clear g0); (try clear g7); (try clear g1); obtain ⟨d0, d1, r7⟩ := Kd.R_slice Zm.out; subst r7; obtain ⟨_, _, _, _, _, _, _, _⟩ := zb4 Za.out; obtain ⟨d2, d3, r8⟩ := Kd.R_slice Zn.out; subst r8; obtain ⟨g2, g3, r9⟩ := Kd.N_slice Zo.out; subst r9; obtain ⟨d4, d5, s7⟩ := Kd.R_slice Zp.out; subst s7) | ((with_reducible refine gate_store (t := 26) (p := 2) rfl ?_); refine store_event (t := 26) (p := 2) (v := ?vo_w16) (w1 := ((((v5.setCell ⟨b, 0, none⟩ (.slice d0 L.length d1)).setCell ⟨b, 1, none⟩ (.slice d2 O.length d3)).setCell ⟨b, 2, none⟩ (.slice g2 a6.length g3)).setCell ⟨b, 3, none⟩ (.slice d4 T.length d5))) ?hg ?ho ?hn ?hr ?_; (case ho => rfl); (case hg => rfl); (case hn => rfl); (case hr => first | (go_simp; done) | (go_simp; rfl)); intro g9 hw; have z : Aside0 (Kd.R (Kd.int .i64) 3 g9 w.heap.size (fun k_ => (w.heap.size ≤ k_) ∧ some k_ ≠ (.slice d2 O.length d3 : Value).ownBlock ∧ some k_ ≠ (.slice d4 T.length d5 : Value).ownBlock) (.slice d0 L.length d1) L) := ⟨(by rw [hw]; exact (Kd.R_mono (zR4 (Kd.R_types Zm.out Za.out (by decide))) (fun _ hk => ⟨hk.1.1, ⟨hk.1.2.1, hk.1.2.2⟩⟩)))⟩; have A : Aside0 (Kd.R (Kd.int .i64) 3 g9 w.heap.size (fun k_ => (w.heap.size ≤ k_) ∧ some k_ ≠ (.slice d0 L.length d1 : Value).ownBlock ∧ some k_ ≠ (.slice d4 T.length d5 : Value).ownBlock) (.slice d2 O.length d3) O) := ⟨(by rw [hw]; exact (Kd.R_mono (zR4 (Kd.R_types Zn.out Za.out (by decide))) (fun _ hk => ⟨hk.1.1, ⟨hk.1.2.1, hk.1.2.2⟩⟩)))⟩; have B : Aside0 (Kd.N k66 66 g9 w.heap.size (fun k_ => (w.heap.size ≤ k_) ∧ some k_ ≠ (.slice d0 L.length d1 : Value).ownBlock ∧ some k_ ≠ (.slice d2 O.length d3 : Value).ownBlock ∧ some k_ ≠ (.slice d4 T.length d5 : Value).ownBlock ∧ k_ ≠ b ∧ k_ ≠ d) (.slice g2 a6.length g3) a6) := ⟨(by rw [hw]; exact (Kd.N_mono (zN4 (Kd.N_mono Zo.out (fun k_ hk => (⟨hk, hk.2.2.2.2.1⟩ : _ ∧ k_ ≠ b)))) (fun _ hk => ⟨hk.1.1, ⟨hk.1.2.1, ⟨hk.1.2.2.1, ⟨hk.1.2.2.2.1, ⟨hk.1.2.2.2.2.1, hk.1.2.2.2.2.2⟩⟩⟩⟩⟩)))⟩; have D : Aside0 (Kd.R (Kd.int .i64) 3 g9 w.heap.size (fun k_ => (w.heap.size ≤ k_) ∧ some k_ ≠ (.slice d0 L.length d1 : Value).ownBlock ∧ some k_ ≠ (.slice d2 O.length d3 : Value).ownBlock) (.slice d4 T.length d5) T) := ⟨(by rw [hw]; exact (Kd.R_mono (zR4 (Kd.R_types Zp.out Za.out (by decide))) (fun _ hk => ⟨hk.1.1, ⟨hk.1.2.1, hk.1.2.2⟩⟩)))⟩; have E : Aside0 (g9.heap[b]? = some (.cells #[.slice d0 L.length d1, .slice d2 O.length d3, .slice g2 a6.length g3, .slice d4 T.length d5] 26 (0, 0))) := ⟨(by rw [hw]; exact (by exact zput4 Za.out))⟩; have G : Aside0 (g9.heap[d]? = some (.cells #[.slice none 0 0, .slice none 0 0, .slice none 0 0, .slice none 0 0] 26 (0, 0))) := ⟨(by rw [hw]; exact (by exact zfar4 Zf.out Zg.out))⟩; have I : Aside0 (Below w.heap.size w g9) := ⟨(by rw [hw]; exact (zg_5 HB.out Zh.out Zi.out))⟩; clear hw; replace Zm := z; replace Zn := A; replace Zo := B; replace Zp := D; replace Za := E; replace Zf := G; replace HB := I; clear z A B D E G I; obtain ⟨_, _, _, _, _, _, _, _⟩ := zb4 Za.out) | ((with_reducible refine gate_callee (f := 45) rfl ?_); refine goesL_ (some 12) rfl rfl Tryz.func45 (by kernel_rfl) rfl #[.agg #[.slice d0 L.length d1, .slice d2 O.length d3, .slice g2 a6.length g3, .slice d4 T.length d5], .string a1] rfl zq ?_; (with_reducible refine (spec_l10Find.calls k _ _ L _ _ O _ _ a6 _ _ T a1 x _ ?side1 ?side2 ?side3 ?side4 ?side5 ?side6 ?side7 ?side8 A4.out).mono ?_); (case side1 => exact zC ((Kd.R_reads' Zm.out).2.2)); (case side2 => exact (Kd.R_reads' Zm.out).2.1); (case side3 => exact zC ((Kd.R_reads' Zn.out).2.2)); (case side4 => exact (Kd.R_reads' Zn.out).2.1); (case side5 => exact zC ((Kd.N_reads' Zo.out).2.2)); (case side6 => exact (Kd.N_reads' Zo.out).2.1); (case side7 => exact zC ((Kd.R_reads' Zp.out).2.2)); (case side8 => exact (Kd.R_reads' Zp.out).2.1); rintro e B2 ⟨rfl, hb⟩; refine ⟨_, rfl, ?_⟩; have z := zm (Kd.R_below (zg_6 Zm.out) hb); have A := zm (Kd.R_below (zg_6 Zn.out) hb); have B := zm (Kd.N_below (zg_4 Zo.out) hb); have D := zm (Kd.R_below (zg_6 Zp.out) hb); have E := zm (blk_below (g := b) (o := .cells #[.slice d0 L.length d1, .slice d2 O.length d3, .slice g2 a6.length g3, .slice d4 T.length d5] 26 (0, 0)) (zg_3 Za.out) hb); have G := zm (blk_below (g := d) (o := .cells #[.slice none 0 0, .slice none 0 0, .slice none 0 0, .slice none 0 0] 26 (0, 0)) (zg_3 Zf.out) hb); have I := zm (below_step (zg_5 HB.out Zh.out Zi.out) hb); replace Zm := z; replace Zn := A; replace Zo := B; replace Zp := D; replace Za := E; replace Zf := G; replace HB := I; clear z A B D E G I; (try clear hb); (try clear hb2); (try clear hk); (try clear hi); obtain ⟨_, _, _, _, _, _, _, _⟩ := zb4 Za.out; obtain ⟨_, _, _, _, _, _, _, _⟩ := zb4 Zf.out))
  refine bodyPost_ret (results_ct rfl _ _ d 26 #[.slice d0 L.length d1, .slice d2 O.length d3, .slice g2 a6.length g3, .slice d4 T.length d5] (0, 0) _ rfl (by exact zput4 Zf.out) Tryz.underlying26 rfl (by kernel_rfl)) rfl ?_
  exact ⟨_, _, _, _, ze, Kd.R_mono (zR4 (Kd.R_types Zm.out Zf.out (by decide))) (fun _ hk => ⟨hk.1.1, ⟨hk.1.2.1, hk.1.2.2⟩⟩), Kd.R_mono (zR4 (Kd.R_types Zn.out Zf.out (by decide))) (fun _ hk => ⟨hk.1.1, ⟨hk.1.2.1, hk.1.2.2⟩⟩), Kd.N_mono (zN4 (Kd.N_mono Zo.out (fun k_ hk => (⟨hk, hk.2.2.2.2.2⟩ : _ ∧ k_ ≠ d)))) (fun _ hk => ⟨hk.1.1, ⟨hk.1.2.1, ⟨hk.1.2.2.1, hk.1.2.2.2.1⟩⟩⟩), Kd.R_mono (zR4 (Kd.R_types Zp.out Zf.out (by decide))) (fun _ hk => ⟨hk.1.1, ⟨hk.1.2.1, hk.1.2.2⟩⟩), zg_5 HB.out Zh.out Zi.out⟩
 rw [if_neg c5] at H; have n4 := decide_eq_false c5; clear c5
 have H' := zm H
 clear H
 go_enter Tryz.func25, Tryz.ntmps25
 go_wp2_with (first | ((with_reducible refine gate_dst (N := 2) rfl ?_); refine box_event ?hg (N := 2) ?hd (cs := #[.slice a8 X.length a9, .slice b0 Y.length b1, .slice b2 Z.length b3, .slice b4 a5.length b5]) (t := 26) ?hr ?_; (case hd => rfl); (case hg => rfl); (case hr => first | (go_simp; done) | (go_simp; rfl)); intro b hg B3 hbox hb; have z := zm (below_step (zg_1 HB.out) hb); have A := zm (hbox); have B := zm ((by rw [hg]; exact (below_size (zg_1 HB.out)) : w.heap.size ≤ b)); have D := zm ((by rw [hg]; exact (below_size (zg_1 HB.out)) : w.heap.size ≤ b)); replace HB := z; have Za := A; have ZK := B; have Zh := D; clear z A B D; clear hb hbox hg) | ((with_reducible refine gate_dst (N := 4) rfl ?_); refine box_event ?hg (N := 4) ?hd (cs := #[.slice none 0 0, .slice none 0 0, .slice none 0 0, .slice none 0 0]) (t := 26) ?hr ?_; (case hd => rfl); (case hg => rfl); (case hr => first | (go_simp; done) | (go_simp; rfl)); intro d hg B4 hbox hb; have z := zm (blk_below (g := b) (o := .cells #[.slice a8 X.length a9, .slice b0 Y.length b1, .slice b2 Z.length b3, .slice b4 a5.length b5] 26 (0, 0)) (zg_3 Za.out) hb); have A := zm (below_step (zg_2 HB.out Zh.out) hb); have B := zm (hbox); have D := zm ((by rw [hg]; exact (below_size (zg_2 HB.out Zh.out)) : w.heap.size ≤ d)); have E := zm ((by rw [hg]; exact (below_size (zg_2 HB.out Zh.out)) : w.heap.size ≤ d)); have G := zm ((by rw [hg]; exact Nat.ne_of_lt (blk_lt (g := b) (o := .cells #[.slice a8 X.length a9, .slice b0 Y.length b1, .slice b2 Z.length b3, .slice b4 a5.length b5] 26 (0, 0)) (zg_3 Za.out)) : b ≠ d)); have I := zm ((by rw [hg]; exact Nat.ne_of_gt (blk_lt (g := b) (o := .cells #[.slice a8 X.length a9, .slice b0 Y.length b1, .slice b2 Z.length b3, .slice b4 a5.length b5] 26 (0, 0)) (zg_3 Za.out)) : d ≠ b)); replace Za := z; replace HB := A; have Zf := B; have ZL := D; have Zi := E; have Zk := G; have Zg := I; clear z A B D E G I; clear hb hbox hg; have w4 := Zk.out; have w5 := Zg.out; obtain ⟨_, _, _, _, _, _, _, _⟩ := zb4 Za.out) | ((with_reducible refine gate_callee (f := 31) rfl ?_); refine goesL_ (some 9) rfl rfl Tryz.func31 (by kernel_rfl) rfl #[.agg #[.slice a8 X.length a9, .slice b0 Y.length b1, .slice b2 Z.length b3, .slice b4 a5.length b5]] rfl zq ?_; (with_reducible refine (spec_l10Own.calls k _ _ X _ _ Y _ _ Z _ _ a5 L O a6 T _ ?side1 ?side2 ?side3 ?side4 ?side5 ?side6 ?side7 ?side8 A3.out).mono ?_); (case side1 => exact zC (Kd.C_below Zx.out HB.out)); (case side2 => exact Zy.out); (case side3 => exact zC (Kd.C_below Zz.out HB.out)); (case side4 => exact ZA.out); (case side5 => exact zC (Kd.C_below ZB.out HB.out)); (case side6 => exact ZC.out); (case side7 => exact zC (Kd.C_below ZD.out HB.out)); (case side8 => exact ZE.out); rintro e v6 ⟨k5, k6, r6, k7, rfl, f9, g0, g7, g1, hb⟩; refine ⟨_, rfl, ?_⟩; have z := zm (Kd.R_lower (Kd.R_newM (M := fun k_ => (w.heap.size ≤ k_)) f9 (below_size (zg_5 HB.out Zh.out Zi.out)) (fun k_ h_ => h_)) (below_size (zg_5 HB.out Zh.out Zi.out))); have A := zm (Kd.R_lower (Kd.R_newM (M := fun k_ => (w.heap.size ≤ k_)) g0 (below_size (zg_5 HB.out Zh.out Zi.out)) (fun k_ h_ => h_)) (below_size (zg_5 HB.out Zh.out Zi.out))); have B := zm (Kd.N_lower (Kd.N_mono (ok' := fun k_ => (w.heap.size ≤ k_) ∧ some k_ ≠ (k5 : Value).ownBlock ∧ some k_ ≠ (k6 : Value).ownBlock ∧ some k_ ≠ (k7 : Value).ownBlock ∧ k_ ≠ b ∧ k_ ≠ d) (Kd.S_N (Kd.S_bound g7)) (fun k_ hk_ => ⟨(Nat.le_trans (below_size (zg_5 HB.out Zh.out Zi.out)) hk_.2.1), hk_.1.1, hk_.1.2.1, hk_.1.2.2, (Kd.freshB (g := b) (o := .cells #[.slice a8 X.length a9, .slice b0 Y.length b1, .slice b2 Z.length b3, .slice b4 a5.length b5] 26 (0, 0)) (zg_3 Za.out) k_ hk_.2.1), (Kd.freshB (g := d) (o := .cells #[.slice none 0 0, .slice none 0 0, .slice none 0 0, .slice none 0 0] 26 (0, 0)) (zg_3 Zf.out) k_ hk_.2.1)⟩)) (below_size (zg_5 HB.out Zh.out Zi.out))); have D := zm (Kd.R_lower (Kd.R_newM (M := fun k_ => (w.heap.size ≤ k_)) g1 (below_size (zg_5 HB.out Zh.out Zi.out)) (fun k_ h_ => h_)) (below_size (zg_5 HB.out Zh.out Zi.out))); have E := zm (blk_below (g := b) (o := .cells #[.slice a8 X.length a9, .slice b0 Y.length b1, .slice b2 Z.length b3, .slice b4 a5.length b5] 26 (0, 0)) (zg_3 Za.out) hb); have G := zm (blk_below (g := d) (o := .cells #[.slice none 0 0, .slice none 0 0, .slice none 0 0, .slice none 0 0] 26 (0, 0)) (zg_3 Zf.out) hb); have I := zm (below_step (zg_5 HB.out Zh.out Zi.out) hb); have Zm := z; have Zn := A; have Zo := B; have Zp := D; replace Za := E; replace Zf := G; replace HB := I; clear z A B D E G I; (try clear hb); (try clear hb2); (try clear hk); (try clear hi); (try clear f9); (try clear g0); (try clear g7); (try clear g1); obtain ⟨d6, d7, s8⟩ := Kd.R_slice Zm.out; subst s8; obtain ⟨_, _, _, _, _, _, _, _⟩ := zb4 Za.out; obtain ⟨d8, d9, s9⟩ := Kd.R_slice Zn.out; subst s9; obtain ⟨g4, g5, t0⟩ := Kd.N_slice Zo.out; subst t0; obtain ⟨e0, e1, t1⟩ := Kd.R_slice Zp.out; subst t1) | ((with_reducible refine gate_store (t := 26) (p := 2) rfl ?_); refine store_event (t := 26) (p := 2) (v := ?vo_w31) (w1 := ((((v6.setCell ⟨b, 0, none⟩ (.slice d6 L.length d7)).setCell ⟨b, 1, none⟩ (.slice d8 O.length d9)).setCell ⟨b, 2, none⟩ (.slice g4 a6.length g5)).setCell ⟨b, 3, none⟩ (.slice e0 T.length e1))) ?hg ?ho ?hn ?hr ?_; (case ho => rfl); (case hg => rfl); (case hn => rfl); (case hr => first | (go_simp; done) | (go_simp; rfl)); intro h0 hw; have z : Aside0 (Kd.R (Kd.int .i64) 3 h0 w.heap.size (fun k_ => (w.heap.size ≤ k_) ∧ some k_ ≠ (.slice d8 O.length d9 : Value).ownBlock ∧ some k_ ≠ (.slice e0 T.length e1 : Value).ownBlock) (.slice d6 L.length d7) L) := ⟨(by rw [hw]; exact (Kd.R_mono (zR4 (Kd.R_types Zm.out Za.out (by decide))) (fun _ hk => ⟨hk.1.1, ⟨hk.1.2.1, hk.1.2.2⟩⟩)))⟩; have A : Aside0 (Kd.R (Kd.int .i64) 3 h0 w.heap.size (fun k_ => (w.heap.size ≤ k_) ∧ some k_ ≠ (.slice d6 L.length d7 : Value).ownBlock ∧ some k_ ≠ (.slice e0 T.length e1 : Value).ownBlock) (.slice d8 O.length d9) O) := ⟨(by rw [hw]; exact (Kd.R_mono (zR4 (Kd.R_types Zn.out Za.out (by decide))) (fun _ hk => ⟨hk.1.1, ⟨hk.1.2.1, hk.1.2.2⟩⟩)))⟩; have B : Aside0 (Kd.N k66 66 h0 w.heap.size (fun k_ => (w.heap.size ≤ k_) ∧ some k_ ≠ (.slice d6 L.length d7 : Value).ownBlock ∧ some k_ ≠ (.slice d8 O.length d9 : Value).ownBlock ∧ some k_ ≠ (.slice e0 T.length e1 : Value).ownBlock ∧ k_ ≠ b ∧ k_ ≠ d) (.slice g4 a6.length g5) a6) := ⟨(by rw [hw]; exact (Kd.N_mono (zN4 (Kd.N_mono Zo.out (fun k_ hk => (⟨hk, hk.2.2.2.2.1⟩ : _ ∧ k_ ≠ b)))) (fun _ hk => ⟨hk.1.1, ⟨hk.1.2.1, ⟨hk.1.2.2.1, ⟨hk.1.2.2.2.1, ⟨hk.1.2.2.2.2.1, hk.1.2.2.2.2.2⟩⟩⟩⟩⟩)))⟩; have D : Aside0 (Kd.R (Kd.int .i64) 3 h0 w.heap.size (fun k_ => (w.heap.size ≤ k_) ∧ some k_ ≠ (.slice d6 L.length d7 : Value).ownBlock ∧ some k_ ≠ (.slice d8 O.length d9 : Value).ownBlock) (.slice e0 T.length e1) T) := ⟨(by rw [hw]; exact (Kd.R_mono (zR4 (Kd.R_types Zp.out Za.out (by decide))) (fun _ hk => ⟨hk.1.1, ⟨hk.1.2.1, hk.1.2.2⟩⟩)))⟩; have E : Aside0 (h0.heap[b]? = some (.cells #[.slice d6 L.length d7, .slice d8 O.length d9, .slice g4 a6.length g5, .slice e0 T.length e1] 26 (0, 0))) := ⟨(by rw [hw]; exact (by exact zput4 Za.out))⟩; have G : Aside0 (h0.heap[d]? = some (.cells #[.slice none 0 0, .slice none 0 0, .slice none 0 0, .slice none 0 0] 26 (0, 0))) := ⟨(by rw [hw]; exact (by exact zfar4 Zf.out Zg.out))⟩; have I : Aside0 (Below w.heap.size w h0) := ⟨(by rw [hw]; exact (zg_5 HB.out Zh.out Zi.out))⟩; clear hw; replace Zm := z; replace Zn := A; replace Zo := B; replace Zp := D; replace Za := E; replace Zf := G; replace HB := I; clear z A B D E G I; obtain ⟨_, _, _, _, _, _, _, _⟩ := zb4 Za.out) | ((with_reducible refine gate_callee (f := 45) rfl ?_); refine goesL_ (some 12) rfl rfl Tryz.func45 (by kernel_rfl) rfl #[.agg #[.slice d6 L.length d7, .slice d8 O.length d9, .slice g4 a6.length g5, .slice e0 T.length e1], .string a1] rfl zq ?_; (with_reducible refine (spec_l10Find.calls k _ _ L _ _ O _ _ a6 _ _ T a1 x _ ?side1 ?side2 ?side3 ?side4 ?side5 ?side6 ?side7 ?side8 A4.out).mono ?_); (case side1 => exact zC ((Kd.R_reads' Zm.out).2.2)); (case side2 => exact (Kd.R_reads' Zm.out).2.1); (case side3 => exact zC ((Kd.R_reads' Zn.out).2.2)); (case side4 => exact (Kd.R_reads' Zn.out).2.1); (case side5 => exact zC ((Kd.N_reads' Zo.out).2.2)); (case side6 => exact (Kd.N_reads' Zo.out).2.1); (case side7 => exact zC ((Kd.R_reads' Zp.out).2.2)); (case side8 => exact (Kd.R_reads' Zp.out).2.1); rintro e B5 ⟨rfl, hb⟩; refine ⟨_, rfl, ?_⟩; have z := zm (Kd.R_below (zg_6 Zm.out) hb); have A := zm (Kd.R_below (zg_6 Zn.out) hb); have B := zm (Kd.N_below (zg_4 Zo.out) hb); have D := zm (Kd.R_below (zg_6 Zp.out) hb); have E := zm (blk_below (g := b) (o := .cells #[.slice d6 L.length d7, .slice d8 O.length d9, .slice g4 a6.length g5, .slice e0 T.length e1] 26 (0, 0)) (zg_3 Za.out) hb); have G := zm (blk_below (g := d) (o := .cells #[.slice none 0 0, .slice none 0 0, .slice none 0 0, .slice none 0 0] 26 (0, 0)) (zg_3 Zf.out) hb); have I := zm (below_step (zg_5 HB.out Zh.out Zi.out) hb); replace Zm := z; replace Zn := A; replace Zo := B; replace Zp := D; replace Za := E; replace Zf := G; replace HB := I; clear z A B D E G I; (try clear hb); (try clear hb2); (try clear hk); (try clear hi)))
 go_loopg [7] k (fun kq v7 w' => ∃ (b7 : Int) (j : List Int) (l : List Int) (a : List (S66)) (y : List Int) (q : Value) (s : Value) (g6 : Value) (u : Value), v7 = .int .i64 b7 ∧ Aside0 (spec_l10Delete.l0 kq x b7 j l a y = some (r1, r2, r3, r4, r5)) ∧ Aside0 (kq ≤ k) ∧ Aside0 (Kd.R (Kd.int .i64) 3 w' w.heap.size (fun k_ => (w.heap.size ≤ k_) ∧ some k_ ≠ (s : Value).ownBlock ∧ some k_ ≠ (u : Value).ownBlock) q j) ∧ Aside0 (Kd.R (Kd.int .i64) 3 w' w.heap.size (fun k_ => (w.heap.size ≤ k_) ∧ some k_ ≠ (q : Value).ownBlock ∧ some k_ ≠ (u : Value).ownBlock) s l) ∧ Aside0 (Kd.V k66 66 w' w.heap.size (fun k_ => (w.heap.size ≤ k_) ∧ some k_ ≠ (q : Value).ownBlock ∧ some k_ ≠ (s : Value).ownBlock ∧ some k_ ≠ (u : Value).ownBlock ∧ k_ ≠ b ∧ k_ ≠ d) g6 a) ∧ Aside0 (Kd.R (Kd.int .i64) 3 w' w.heap.size (fun k_ => (w.heap.size ≤ k_) ∧ some k_ ≠ (q : Value).ownBlock ∧ some k_ ≠ (s : Value).ownBlock) u y) ∧ Aside0 (w'.heap[b]? = some (.cells #[q, s, g6, u] 26 (0, 0))) ∧ Aside0 (w'.heap[d]? = some (.cells #[(.slice none 0 0), (.slice none 0 0), (.slice none 0 0), (.slice none 0 0)] 26 (0, 0))) ∧ Aside0 (Below w.heap.size w w'))
 case atStart => exact ⟨(0), (L), (O), (a6), (T), (.slice d6 L.length d7), (.slice d8 O.length d9), (.slice g4 a6.length g5), (.slice e0 T.length e1), zr, H', ⟨Nat.le_refl _⟩, ⟨zlR Zm.out⟩, ⟨zlR Zn.out⟩, ⟨Kd.N_V (zg_4 Zo.out)⟩, ⟨zlR Zp.out⟩, ⟨zl Za.out⟩, ⟨zl Zf.out⟩, ⟨zg_5 HB.out Zh.out Zi.out⟩⟩
 case round =>
  clear H'
  try clear c2
  try clear p2
  try clear c3
  try clear c4
  try clear c5
  try clear n4
  try clear c8
  try clear B6
  try clear B7
  try clear C0
  obtain ⟨b7, j, l, a, y, q, s, g6, u, rfl, HA, q8, Zc, Zd, Zb, Ze, Za, Zf, HB⟩ := hrel
  cases gk with
  | zero => exact absurd HA.out (by simp [spec_l10Delete.l0])
  | succ k1 =>
   have H := HA.out; clear HA
   simp only [spec_l10Delete.l0] at H
   by_cases m4 : 0 ≤ x
   rotate_left
   ·rw [if_neg m4] at H
    exact absurd H (by simp)
   rw [if_pos m4] at H; have w8 := decide_eq_true m4; clear m4
   by_cases m5 : x < (a.length : Int)
   rotate_left
   ·rw [if_neg m5] at H
    exact absurd H (by simp)
   rw [if_pos m5] at H; have w9 := decide_eq_true m5; clear m5
   by_cases h5 : b7 < (((rd_T66 a x).f1).length : Int)
   ·rw [if_pos h5] at H
    have p9 := decide_eq_true h5; clear h5
    by_cases m6 : 0 ≤ b7
    rotate_left
    ·rw [if_neg m6] at H
     exact absurd H (by simp)
    rw [if_pos m6] at H; have x0 := decide_eq_true m6; clear m6; replace H := Option.bind_eq_some_iff.mp H
    obtain ⟨⟨i1, i2, i3, i4⟩, n5, H⟩ := H
    try dsimp only at H
    have v8 := zm n5; clear n5
    have H' := zm H
    clear H; have x1 := Zk.out; have x2 := Zg.out
    obtain ⟨_, _, _, _, _, _, _, _⟩ := zb4 Za.out
    obtain ⟨z8, i5, t2⟩ := Kd.V_slice Zb.out
    subst t2
    have e2 : 0 ≤ (x : Int) := zd
    have e3 : x < (a.length : Int) := zd
    obtain ⟨J, n6, n7, k8, hx270_0, hx270_1, hl270_1, hi270_1⟩ := at_T66 (Kd.V_reads' Zb.out).2.2 x e2 e3
    cases k8
    obtain ⟨ce270, hce270, hMe270, hcc270⟩ := Kd.V_get Zb.out z66 x e2 (by first | exact e3 | exact zd | (have e_ := (Kd.V_reads' Zb.out).1; omega))
    obtain ⟨ua270_1, uc270_1, rfl, ul270_1, ge270_1⟩ := k66_openF hMe270
    have hv270_1 := hcc270 1 _ rfl
    rw [add_field _ _ 1 (by omega)] at hv270_1
    replace hv270_1 := Option.some.inj (hv270_1.symm.trans hx270_1)
    injection hv270_1 with hva_ hvn_ hvc_
    rw [hva_] at ge270_1
    rw [hvc_] at ul270_1
    have Zj := zm (show Kd.V (Kd.int .i64) 3 _ w.heap.size _ _ ((rd_T66 a x).f1) from Kd.V_mk ul270_1 ge270_1); clear hva_ hvn_ hvc_ ge270_1 ul270_1; clear hcc270 hce270; have Zl := zm hi270_1; have Zw := zm hl270_1; clear hi270_1 hl270_1; replace e2 := eq_true e2; replace e3 := eq_true e3
    try go_wp2
    have z := zm (Kd.R_drew Zc.out); have A := zm (Kd.R_drew Zd.out); have B := zm (Kd.V_drew Zb.out); have D := zm (Kd.R_drew Ze.out); have E := zm (Kd.V_drew Zj.out); have G := zm (blk_drew Za.out); have I := zm (blk_drew Zf.out); have b8 := zm (Kd.C_drew Zl.out); have c6 := zm (below_drew1 HB.out); clear Zc; clear Zd; clear Zb; clear Ze; clear Zj; clear Za; clear Zf; clear Zl; clear HB; have Zc := z; have Zd := A; have Zb := B; have Ze := D; have Zj := E; have Za := G; have Zf := I; have Zl := b8; have HB := c6; clear z A B D E G I b8 c6
    have i6 : 0 ≤ (x : Int) := zd
    have i7 : x < (a.length : Int) := zd
    obtain ⟨q0, v9, n8, t3, hx271_0, hx271_1, hl271_1, hi271_1⟩ := at_T66 (Kd.V_reads' Zb.out).2.2 x i6 i7
    obtain rfl : J = q0 := (by injection t3)
    (try (have ea_ := Option.some.inj (hx271_1.symm.trans hw270_1); injection ea_ with ea_ en_ ec_; subst ea_; subst ec_))
    obtain ⟨ce271, hce271, hMe271, hcc271⟩ := Kd.V_get Zb.out z66 x i6 (by first | exact i7 | exact zd | (have e_ := (Kd.V_reads' Zb.out).1; omega))
    obtain ⟨ua271_1, uc271_1, rfl, ul271_1, ge271_1⟩ := k66_openF hMe271
    have hv271_1 := hcc271 1 _ rfl
    rw [add_field _ _ 1 (by omega)] at hv271_1
    replace hv271_1 := Option.some.inj (hv271_1.symm.trans hx271_1)
    injection hv271_1 with hva_ hvn_ hvc_
    rw [hva_] at ge271_1
    rw [hvc_] at ul271_1
    have Zq := zm (show Kd.V (Kd.int .i64) 3 _ w.heap.size _ _ ((rd_T66 a x).f1) from Kd.V_mk ul271_1 ge271_1); clear hva_ hvn_ hvc_ ge271_1 ul271_1; clear hcc271 hce271; have Zv := zm hi271_1; have ZM := zm hl271_1; clear hi271_1 hl271_1; replace i6 := eq_true i6; replace i7 := eq_true i7
    have k9 : 0 ≤ (b7 : Int) := zd
    have l1 : b7 < (((rd_T66 a x).f1).length : Int) := zd
    obtain ⟨m7, t4, hx272_0⟩ := Kd.at_int (by repeat (first | (with_reducible exact Zv.out) | (with_reducible refine Kd.C_alloc ?_ _) | (with_reducible refine Kd.C_drewN ?_ _) | (with_reducible refine Kd.C_drew ?_) | exact Zv.out)) b7 k9 l1
    cases t4; replace k9 := eq_true k9; replace l1 := eq_true l1
    obtain ⟨e8, e9, n9⟩ := Kd.R_slice Zc.out
    (first | subst n9 | (injection n9 with f1_ f2_ f3_; have f4_ := f1_.symm; have f5_ := f3_.symm; clear f1_ f2_ f3_; subst f4_; subst f5_))
    obtain ⟨f2, f3, o0⟩ := Kd.R_slice Zd.out
    (first | subst o0 | (injection o0 with f1_ f2_ f3_; have f4_ := f1_.symm; have f5_ := f3_.symm; clear f1_ f2_ f3_; subst f4_; subst f5_))
    obtain ⟨f4, f5, o1⟩ := Kd.R_slice Ze.out
    (first | subst o1 | (injection o1 with f1_ f2_ f3_; have f4_ := f1_.symm; have f5_ := f3_.symm; clear f1_ f2_ f3_; subst f4_; subst f5_))
    refine start_ (n := 12) (S := fun w' => w'.cell? ⟨b, 0, none⟩ = some (.slice e8 j.length e9) ∧ w'.cell? ⟨b, 1, none⟩ = some (.slice f2 l.length f3) ∧ w'.cell? ⟨b, 2, none⟩ = some (.slice (some J) a.length i5) ∧ w'.cell? ⟨b, 3, none⟩ = some (.slice f4 y.length f5) ∧ w'.cell? (J.add ((x).toNat * 2)) = some (.string ((rd_T66 a x).f0)) ∧ w'.cell? ⟨(J.add ((x).toNat * 2)).block, (J.add ((x).toNat * 2)).off + 1, none⟩ = some (.slice (some m7) ((rd_T66 a x).f1).length n8) ∧ w'.cell? (m7.add (b7).toNat) = some (.int .i64 (rd ((rd_T66 a x).f1) b7))) (ds := [11]) #[ff, ff, ff, ff, ff, ff, ff, ff, ff, ff, ff, ff] (by kernel_rfl) rfl rfl ⟨(blk_cell Za.out 0).trans rfl, (blk_cell Za.out 1).trans rfl, (blk_cell Za.out 2).trans rfl, (blk_cell Za.out 3).trans rfl, hx271_0, hx271_1, hx272_0⟩ (fun hHeld => ?_); refine with_tabW spec_l10Delete.tab8 spec_l10Delete.bits8 (fun HT_ HW_ => ?_)
    generalize wr.drew = C1 at Zc Zd Zb Ze Zj Za Zf Zl HB Zq Zv hx271_0 hx271_1 hx272_0 hHeld ⊢
    refine pure_ (i := 1) (N := some 28) (v := ?_) (a' := ?_) #[ff, tt, ff, ff, ff, ff, ff, ff, ff, ff, ff, ff] rfl rfl (any_of HT_.out (by kernel_rfl)) (fun _ _ _ h => h) (Or.inl ⟨by rfl, ?_⟩) ?_ ?_
    rotate_left
    ·intro w'
     go_simp
     with_reducible rfl
    rotate_left
    ·simp only [Act.put, zs, zz, zt, i64_w, i32_w]
     rfl
    refine pure_ (i := 3) (N := some 30) (v := ?_) (a' := ?_) #[ff, tt, ff, tt, ff, ff, ff, ff, ff, ff, ff, ff] rfl rfl (any_of HT_.out (by kernel_rfl)) (fun _ _ _ h => h) (Or.inl ⟨by rfl, ?_⟩) ?_ ?_
    rotate_left
    ·intro w'
     go_simp
     with_reducible rfl
    rotate_left
    ·simp only [Act.put, zs, zz, zt, i64_w, i32_w]
     rfl
    refine pure_ (i := 7) (N := some 34) (v := ?_) (a' := ?_) #[ff, tt, ff, tt, ff, ff, ff, tt, ff, ff, ff, ff] rfl rfl (any_of HT_.out (by kernel_rfl)) (fun _ _ _ h => h) (Or.inl ⟨by rfl, ?_⟩) ?_ ?_
    rotate_left
    ·intro w'
     go_simp
     with_reducible rfl
    rotate_left
    ·simp only [Act.put, zs, zz, zt, i64_w, i32_w]
     rfl
    refine take_ (i := 0) (N := some 27) (v := ?_) (a' := ?_) #[tt, tt, ff, tt, ff, ff, ff, tt, ff, ff, ff, ff] rfl rfl (take_ofW HT_.out HW_.out (by kernel_rfl)) (fun _ _ _ h => h) (Or.inl ⟨by rfl, ?_⟩) hHeld ?_ ?_
    rotate_left
    ·rintro w' ⟨s0, s1, s2, s3, s4, s5, s6⟩
     go_simp
     with_reducible rfl
    rotate_left
    ·simp only [Act.put, zs, zz, zt, i64_w, i32_w]
     rfl
    refine take_ (i := 2) (N := some 29) (v := ?_) (a' := ?_) #[tt, tt, tt, tt, ff, ff, ff, tt, ff, ff, ff, ff] rfl rfl (take_ofW HT_.out HW_.out (by kernel_rfl)) (fun _ _ _ h => h) (Or.inl ⟨by rfl, ?_⟩) hHeld ?_ ?_
    rotate_left
    ·rintro w' ⟨s0, s1, s2, s3, s4, s5, s6⟩
     go_simp
     with_reducible rfl
    rotate_left
    ·simp only [Act.put, zs, zz, zt, i64_w, i32_w]
     rfl
    refine pure_ (i := 4) (N := some 31) (v := ?_) (a' := ?_) #[tt, tt, tt, tt, tt, ff, ff, tt, ff, ff, ff, ff] rfl rfl (any_of HT_.out (by kernel_rfl)) (fun _ _ _ h => h) (Or.inl ⟨by rfl, ?_⟩) ?_ ?_
    rotate_left
    ·intro w'
     go_simp
     with_reducible rfl
    rotate_left
    ·simp only [Act.put, zs, zz, zt, i64_w, i32_w]
     rfl
    refine pure_ (i := 5) (N := some 32) (v := ?_) (a' := ?_) #[tt, tt, tt, tt, tt, tt, ff, tt, ff, ff, ff, ff] rfl rfl (any_of HT_.out (by kernel_rfl)) (fun _ _ _ h => h) (Or.inl ⟨by rfl, ?_⟩) ?_ ?_
    rotate_left
    ·intro w'
     go_simp
     with_reducible rfl
    rotate_left
    ·simp only [Act.put, zs, zz, zt, i64_w, i32_w]
     rfl
    refine take_ (i := 6) (N := some 33) (v := ?_) (a' := ?_) #[tt, tt, tt, tt, tt, tt, tt, tt, ff, ff, ff, ff] rfl rfl (take_ofW HT_.out HW_.out (by kernel_rfl)) (fun _ _ _ h => h) (Or.inl ⟨by rfl, ?_⟩) hHeld ?_ ?_
    rotate_left
    ·rintro w' ⟨s0, s1, s2, s3, s4, s5, s6⟩
     go_simp
     with_reducible rfl
    rotate_left
    ·simp only [Act.put, zs, zz, zt, i64_w, i32_w]
     rfl
    refine pure_ (i := 8) (N := some 35) (v := ?_) (a' := ?_) #[tt, tt, tt, tt, tt, tt, tt, tt, tt, ff, ff, ff] rfl rfl (any_of HT_.out (by kernel_rfl)) (fun _ _ _ h => h) (Or.inl ⟨by rfl, ?_⟩) ?_ ?_
    rotate_left
    ·intro w'
     go_simp
     with_reducible rfl
    rotate_left
    ·simp only [Act.put, zs, zz, zt, i64_w, i32_w]
     rfl
    refine take_ (i := 9) (N := some 36) (v := ?_) (a' := ?_) #[tt, tt, tt, tt, tt, tt, tt, tt, tt, tt, ff, ff] rfl rfl (take_ofW HT_.out HW_.out (by kernel_rfl)) (fun _ _ _ h => h) (Or.inl ⟨by rfl, ?_⟩) hHeld ?_ ?_
    rotate_left
    ·rintro w' ⟨s0, s1, s2, s3, s4, s5, s6⟩
     go_simp
     with_reducible rfl
    rotate_left
    ·simp only [Act.put, zs, zz, zt, i64_w, i32_w]
     rfl
    refine one_ (i := 10) (N := some 37) #[tt, tt, tt, tt, tt, tt, tt, tt, tt, tt, tt, ff] rfl rfl (one_of HT_.out (by kernel_rfl)) (by decide) (fun K hK => ?_)
    refine goes_ Tryz.func48 (by kernel_rfl) rfl #[.agg #[.slice e8 j.length e9, .slice f2 l.length f3, .slice (some J) a.length i5, .slice f4 y.length f5], .int .i64 (rd ((rd_T66 a x).f1) b7)] (by rfl) rfl rfl zq ?_
    with_reducible refine (spec_l10Drop_v.calls (fun k_ => some k_ = (.slice e8 j.length e9 : Value).ownBlock) (.slice e8 j.length e9) j (fun k_ => some k_ = (.slice f2 l.length f3 : Value).ownBlock) (.slice f2 l.length f3) l (fun k_ => ((w.heap.size ≤ k_) ∧ (some k_ ≠ (.slice e8 j.length e9 : Value).ownBlock ∧ (some k_ ≠ (.slice f2 l.length f3 : Value).ownBlock ∧ (some k_ ≠ (.slice f4 y.length f5 : Value).ownBlock ∧ (k_ ≠ b ∧ k_ ≠ d)))))) _ _ a (fun k_ => some k_ = (.slice f4 y.length f5 : Value).ownBlock) (.slice f4 y.length f5) y (rd ((rd_T66 a x).f1) b7) i1 i2 i3 i4 w _ ?side1 ?side2 ?side3 ?side4 ?side5 ?side6 ?side7 ?side8 ?side9 ?side10 ?side11 v8.out).mono ?_
    (case side1 => exact (zg_5 HB.out Zh.out Zi.out))
    (case side2 => exact Kd.R_tight rfl Zc.out)
    (case side3 => exact fun k_ e_ => (Zc.out.1 k_ e_.symm).2.1)
    (case side4 => exact fun k_ e_ => (Zc.out.1 k_ e_.symm).2.2)
    (case side5 => exact Kd.R_tight rfl Zd.out)
    (case side6 => exact fun k_ e_ => (Zd.out.1 k_ e_.symm).2.1)
    (case side7 => exact fun k_ e_ => (Zd.out.1 k_ e_.symm).2.2)
    (case side8 => exact Kd.V_mono (Zb.out) (fun k_ hk_ => ⟨hk_, hk_.2.1, hk_.2.2.1, hk_.2.2.2.1⟩))
    (case side9 => exact Kd.R_tight rfl Ze.out)
    (case side10 => exact fun k_ e_ => (Ze.out.1 k_ e_.symm).2.1)
    (case side11 => exact fun k_ e_ => (Ze.out.1 k_ e_.symm).2.2)
    rintro e m8 ⟨i8, i9, z9, j0, rfl, f9, g0, g7, g1, hb, hkp⟩
    have t5 := cell_kept (hHeld.2.2.2.2.1) hkp (by first | (rw [add_block]; exact (fun hs_ => Or.elim hs_ (fun e_ => ((Kd.V_own (by decide) (by first | omega | (simp_all; omega)) (Zb.out)).2.1) e_) (fun e_ => Or.elim e_ (fun e_ => ((Kd.V_own (by decide) (by first | omega | (simp_all; omega)) (Zb.out)).2.2.1) e_) (fun e_ => ((Kd.V_own (by decide) (by first | omega | (simp_all; omega)) (Zb.out)).2.2.2.1) e_)))) | (show ¬ _; simp only [add_block]; exact (fun hs_ => Or.elim hs_ (fun e_ => ((Kd.V_own (by decide) (by first | omega | (simp_all; omega)) (Zb.out)).2.1) e_) (fun e_ => Or.elim e_ (fun e_ => ((Kd.V_own (by decide) (by first | omega | (simp_all; omega)) (Zb.out)).2.2.1) e_) (fun e_ => ((Kd.V_own (by decide) (by first | omega | (simp_all; omega)) (Zb.out)).2.2.2.1) e_)))) | exact (fun hs_ => Or.elim hs_ (fun e_ => ((Kd.V_own (by decide) (by first | omega | (simp_all; omega)) (Zb.out)).2.1) e_) (fun e_ => Or.elim e_ (fun e_ => ((Kd.V_own (by decide) (by first | omega | (simp_all; omega)) (Zb.out)).2.2.1) e_) (fun e_ => ((Kd.V_own (by decide) (by first | omega | (simp_all; omega)) (Zb.out)).2.2.2.1) e_)))); have t6 := cell_kept (hHeld.2.2.2.2.2.1) hkp (by first | (rw [add_block]; exact (fun hs_ => Or.elim hs_ (fun e_ => ((Kd.V_own (by decide) (by first | omega | (simp_all; omega)) (Zb.out)).2.1) e_) (fun e_ => Or.elim e_ (fun e_ => ((Kd.V_own (by decide) (by first | omega | (simp_all; omega)) (Zb.out)).2.2.1) e_) (fun e_ => ((Kd.V_own (by decide) (by first | omega | (simp_all; omega)) (Zb.out)).2.2.2.1) e_)))) | (show ¬ _; simp only [add_block]; exact (fun hs_ => Or.elim hs_ (fun e_ => ((Kd.V_own (by decide) (by first | omega | (simp_all; omega)) (Zb.out)).2.1) e_) (fun e_ => Or.elim e_ (fun e_ => ((Kd.V_own (by decide) (by first | omega | (simp_all; omega)) (Zb.out)).2.2.1) e_) (fun e_ => ((Kd.V_own (by decide) (by first | omega | (simp_all; omega)) (Zb.out)).2.2.2.1) e_)))) | exact (fun hs_ => Or.elim hs_ (fun e_ => ((Kd.V_own (by decide) (by first | omega | (simp_all; omega)) (Zb.out)).2.1) e_) (fun e_ => Or.elim e_ (fun e_ => ((Kd.V_own (by decide) (by first | omega | (simp_all; omega)) (Zb.out)).2.2.1) e_) (fun e_ => ((Kd.V_own (by decide) (by first | omega | (simp_all; omega)) (Zb.out)).2.2.2.1) e_)))); have t7 := cell_kept (hHeld.2.2.2.2.2.2) hkp (by first | (rw [add_block]; exact (fun hs_ => Or.elim hs_ (fun e_ => ((Kd.V_own (by decide) (by first | omega | (simp_all; omega)) (Zq.out)).2.1) e_) (fun e_ => Or.elim e_ (fun e_ => ((Kd.V_own (by decide) (by first | omega | (simp_all; omega)) (Zq.out)).2.2.1) e_) (fun e_ => ((Kd.V_own (by decide) (by first | omega | (simp_all; omega)) (Zq.out)).2.2.2.1) e_)))) | (show ¬ _; simp only [add_block]; exact (fun hs_ => Or.elim hs_ (fun e_ => ((Kd.V_own (by decide) (by first | omega | (simp_all; omega)) (Zq.out)).2.1) e_) (fun e_ => Or.elim e_ (fun e_ => ((Kd.V_own (by decide) (by first | omega | (simp_all; omega)) (Zq.out)).2.2.1) e_) (fun e_ => ((Kd.V_own (by decide) (by first | omega | (simp_all; omega)) (Zq.out)).2.2.2.1) e_)))) | exact (fun hs_ => Or.elim hs_ (fun e_ => ((Kd.V_own (by decide) (by first | omega | (simp_all; omega)) (Zq.out)).2.1) e_) (fun e_ => Or.elim e_ (fun e_ => ((Kd.V_own (by decide) (by first | omega | (simp_all; omega)) (Zq.out)).2.2.1) e_) (fun e_ => ((Kd.V_own (by decide) (by first | omega | (simp_all; omega)) (Zq.out)).2.2.2.1) e_))))
    refine ⟨_, rfl, ?_⟩
    have z := zm (Kd.V_mono (ok' := fun k_ => (w.heap.size ≤ k_) ∧ k_ ≠ b ∧ k_ ≠ d ∧ some k_ ≠ (i8 : Value).ownBlock ∧ some k_ ≠ (i9 : Value).ownBlock ∧ some k_ ≠ (j0 : Value).ownBlock) (Kd.V_keptB (Zb.out) hkp (fun k_ hk_ hs_ => Or.elim hs_ (fun e_ => (hk_.2.1) e_) (fun e_ => Or.elim e_ (fun e_ => (hk_.2.2.1) e_) (fun e_ => (hk_.2.2.2.1) e_)))) (fun k_ hk_ => ⟨hk_.1.1, hk_.1.2.2.2.2.1, hk_.1.2.2.2.2.2, fun e_ => Or.elim (f9.1 k_ e_.symm).1 (fun hs_ => hk_.2.1 hs_) (fun hn_ => Nat.not_le.2 hk_.2.2 hn_), fun e_ => Or.elim (g0.1 k_ e_.symm).1 (fun hs_ => hk_.2.1 hs_) (fun hn_ => Nat.not_le.2 hk_.2.2 hn_), fun e_ => Or.elim (g1.1 k_ e_.symm).1 (fun hs_ => hk_.2.1 hs_) (fun hn_ => Nat.not_le.2 hk_.2.2 hn_)⟩)); have A := zm (blk_kept (zg_3 Za.out) hkp (fun hs_ => Or.elim hs_ (fun e_ => (fun e_ => (Kd.R_ne Zc.out Za.out (by decide)) e_) e_) (fun e_ => Or.elim e_ (fun e_ => (fun e_ => (Kd.R_ne Zd.out Za.out (by decide)) e_) e_) (fun e_ => (fun e_ => (Kd.R_ne Ze.out Za.out (by decide)) e_) e_)))); have B := zm (blk_kept (zg_3 Zf.out) hkp (fun hs_ => Or.elim hs_ (fun e_ => (fun e_ => (Kd.R_ne Zc.out Zf.out (by decide)) e_) e_) (fun e_ => Or.elim e_ (fun e_ => (fun e_ => (Kd.R_ne Zd.out Zf.out (by decide)) e_) e_) (fun e_ => (fun e_ => (Kd.R_ne Ze.out Zf.out (by decide)) e_) e_)))); have D := zm (Kd.R_mono (ok' := fun k_ => (w.heap.size ≤ k_) ∧ some k_ ≠ (i9 : Value).ownBlock ∧ some k_ ≠ (j0 : Value).ownBlock) f9 (fun k_ hk_ => ⟨Or.elim hk_.1 (fun hs_ => Or.elim hs_ (fun hs_ => (Zc.out.1 k_ (hs_).symm).1) (fun hs_ => Or.elim hs_ (fun hs_ => (Zd.out.1 k_ (hs_).symm).1) (fun hs_ => (Ze.out.1 k_ (hs_).symm).1))) (fun hn_ => (Nat.le_trans (below_size (zg_5 HB.out Zh.out Zi.out)) hn_)), hk_.2.1, hk_.2.2⟩)); have E := zm (Kd.R_mono (ok' := fun k_ => (w.heap.size ≤ k_) ∧ some k_ ≠ (i8 : Value).ownBlock ∧ some k_ ≠ (j0 : Value).ownBlock) g0 (fun k_ hk_ => ⟨Or.elim hk_.1 (fun hs_ => Or.elim hs_ (fun hs_ => (Zc.out.1 k_ (hs_).symm).1) (fun hs_ => Or.elim hs_ (fun hs_ => (Zd.out.1 k_ (hs_).symm).1) (fun hs_ => (Ze.out.1 k_ (hs_).symm).1))) (fun hn_ => (Nat.le_trans (below_size (zg_5 HB.out Zh.out Zi.out)) hn_)), hk_.2.1, hk_.2.2⟩)); have G := zm (Kd.V_mono (ok' := fun k_ => (w.heap.size ≤ k_) ∧ some k_ ≠ (i8 : Value).ownBlock ∧ some k_ ≠ (i9 : Value).ownBlock ∧ some k_ ≠ (j0 : Value).ownBlock ∧ k_ ≠ b ∧ k_ ≠ d) g7 (fun k_ hk_ => ⟨Or.elim hk_.1 (fun hs_ => Or.elim hs_ (fun hs_ => (Zc.out.1 k_ (hs_).symm).1) (fun hs_ => Or.elim hs_ (fun hs_ => (Zd.out.1 k_ (hs_).symm).1) (fun hs_ => Or.elim hs_ (fun hs_ => (Ze.out.1 k_ (hs_).symm).1) (fun hs_ => hs_.1)))) (fun hn_ => (Nat.le_trans (below_size (zg_5 HB.out Zh.out Zi.out)) hn_)), hk_.2.1, hk_.2.2.1, hk_.2.2.2, Or.elim hk_.1 (fun hs_ => Or.elim hs_ (fun hs_ => fun e_ => (Kd.R_ne Zc.out Za.out (by decide)) (by rw [← e_]; exact hs_)) (fun hs_ => Or.elim hs_ (fun hs_ => fun e_ => (Kd.R_ne Zd.out Za.out (by decide)) (by rw [← e_]; exact hs_)) (fun hs_ => Or.elim hs_ (fun hs_ => fun e_ => (Kd.R_ne Ze.out Za.out (by decide)) (by rw [← e_]; exact hs_)) (fun hs_ => hs_.2.2.2.2.1)))) (fun hn_ => (Kd.freshB (g := b) (o := .cells #[.slice e8 j.length e9, .slice f2 l.length f3, .slice (some J) a.length i5, .slice f4 y.length f5] 26 (0, 0)) (zg_3 Za.out) k_ hn_)), Or.elim hk_.1 (fun hs_ => Or.elim hs_ (fun hs_ => fun e_ => (Kd.R_ne Zc.out Zf.out (by decide)) (by rw [← e_]; exact hs_)) (fun hs_ => Or.elim hs_ (fun hs_ => fun e_ => (Kd.R_ne Zd.out Zf.out (by decide)) (by rw [← e_]; exact hs_)) (fun hs_ => Or.elim hs_ (fun hs_ => fun e_ => (Kd.R_ne Ze.out Zf.out (by decide)) (by rw [← e_]; exact hs_)) (fun hs_ => hs_.2.2.2.2.2)))) (fun hn_ => (Kd.freshB (g := d) (o := .cells #[.slice none 0 0, .slice none 0 0, .slice none 0 0, .slice none 0 0] 26 (0, 0)) (zg_3 Zf.out) k_ hn_))⟩)); have I := zm (Kd.R_mono (ok' := fun k_ => (w.heap.size ≤ k_) ∧ some k_ ≠ (i8 : Value).ownBlock ∧ some k_ ≠ (i9 : Value).ownBlock) g1 (fun k_ hk_ => ⟨Or.elim hk_.1 (fun hs_ => Or.elim hs_ (fun hs_ => (Zc.out.1 k_ (hs_).symm).1) (fun hs_ => Or.elim hs_ (fun hs_ => (Zd.out.1 k_ (hs_).symm).1) (fun hs_ => (Ze.out.1 k_ (hs_).symm).1))) (fun hn_ => (Nat.le_trans (below_size (zg_5 HB.out Zh.out Zi.out)) hn_)), hk_.2.1, hk_.2.2⟩)); have b8 := zm (hb); clear Zb; clear Za; clear Zf; clear HB; clear Zc; clear Zd; clear Ze; clear Zj; clear Zq; have Zb := z; have Za := A; have Zf := B; have ZF := D; have ZG := E; have ZH := G; have ZI := I; have HB := b8; clear z A B D E G I b8
    (try clear hb)
    (try clear hkp)
    (try clear f9)
    (try clear g0)
    (try clear g7)
    (try clear g1)
    obtain ⟨o2, o3, o4⟩ := Kd.R_slice ZF.out
    (first | subst o4 | (injection o4 with f1_ f2_ f3_; have f4_ := f1_.symm; have f5_ := f3_.symm; clear f1_ f2_ f3_; subst f4_; subst f5_))
    obtain ⟨o5, o6, o7⟩ := Kd.R_slice ZG.out
    (first | subst o7 | (injection o7 with f1_ f2_ f3_; have f4_ := f1_.symm; have f5_ := f3_.symm; clear f1_ f2_ f3_; subst f4_; subst f5_))
    obtain ⟨o8, o9, p0⟩ := Kd.V_slice ZH.out
    (first | subst p0 | (injection p0 with f1_ f2_ f3_; have f4_ := f1_.symm; have f5_ := f3_.symm; clear f1_ f2_ f3_; subst f4_; subst f5_))
    obtain ⟨p1, p3, p4⟩ := Kd.R_slice ZI.out
    (first | subst p4 | (injection p4 with f1_ f2_ f3_; have f4_ := f1_.symm; have f5_ := f3_.symm; clear f1_ f2_ f3_; subst f4_; subst f5_))
    refine hK.out _ _ ⟨(blk_cell Za.out 0).trans rfl, (blk_cell Za.out 1).trans rfl, (blk_cell Za.out 2).trans rfl, (blk_cell Za.out 3).trans rfl, t5, t6, t7⟩ (fun hHeld => ?_)
    clear hK K
    refine norm_ (a' := ?_) ?_ ?_
    rotate_left
    ·show Act.put _ (some 37) _ = _
     simp only [Act.put, zs, zz, zt, i64_w, i32_w]
     rfl
    refine last_ (i := 11) (N := none) #[tt, tt, tt, tt, tt, tt, tt, tt, tt, tt, tt, tt] rfl rfl (one_of HT_.out (by kernel_rfl)) (by decide) (fun K hK => ?_)
    have A0 : m8.cell? ⟨b, 0, none⟩ = some (.slice e8 j.length e9) := (blk_cell Za.out 0).trans rfl
    have x3 := blk_frozen Za.out 0; have u3 := Zg.out; have u4 := Zk.out
    have A2 : m8.cell? ⟨b, 1, none⟩ = some (.slice f2 l.length f3) := (blk_cell Za.out 1).trans rfl
    have x4 := blk_frozen Za.out 1; have u5 := Zg.out; have u6 := Zk.out
    have A5 : m8.cell? ⟨b, 2, none⟩ = some (.slice (some J) a.length i5) := (blk_cell Za.out 2).trans rfl
    have x5 := blk_frozen Za.out 2; have u7 := Zg.out; have u8 := Zk.out
    have A6 : m8.cell? ⟨b, 3, none⟩ = some (.slice f4 y.length f5) := (blk_cell Za.out 3).trans rfl
    have x8 := blk_frozen Za.out 3; have u9 := Zg.out; have v0 := Zk.out
    refine skip_ (w1 := ?_) (by rfl) rfl ?_ ?_
    rotate_left
    ·go_simp
     rfl
    refine hK.out _ _ ?_
    clear hK K
    refine done_ (done_of HT_.out (by kernel_rfl)) ?_
    try go_wp2
    go_roundg k1
    case measure => have := q8.out; omega
    case rel => exact ⟨(wrap64 (b7 + 1)), (i1), (i2), (i3), (i4), (.slice o2 i1.length o3), (.slice o5 i2.length o6), (.slice o8 i3.length o9), (.slice p1 i4.length p3), zr, H', ⟨by have := q8.out; omega⟩, ⟨Kd.R_mono (zR4 (Kd.R_types ZF.out Za.out (by decide))) (fun _ hk => ⟨hk.1.1, ⟨hk.1.2.1, hk.1.2.2⟩⟩)⟩, ⟨Kd.R_mono (zR4 (Kd.R_types ZG.out Za.out (by decide))) (fun _ hk => ⟨hk.1.1, ⟨hk.1.2.1, hk.1.2.2⟩⟩)⟩, ⟨by (with_reducible repeat (first | apply Kd.V_alloc | apply Kd.V_drewN | apply Kd.V_drew)); exact Kd.V_mono (Kd.V_far (p := ⟨b, 3, none⟩) (Kd.V_far (p := ⟨b, 2, none⟩) (Kd.V_far (p := ⟨b, 1, none⟩) (Kd.V_far (p := ⟨b, 0, none⟩) (Kd.V_mono ZH.out (fun k_ hk => (⟨hk, hk.2.2.2.2.1⟩ : _ ∧ k_ ≠ b))) (fun _ hk => hk.2) (.slice o2 i1.length o3)) (fun _ hk => hk.2) (.slice o5 i2.length o6)) (fun _ hk => hk.2) (.slice o8 i3.length o9)) (fun _ hk => hk.2) (.slice p1 i4.length p3)) (fun _ hk => ⟨hk.1.1, ⟨hk.1.2.1, ⟨hk.1.2.2.1, ⟨hk.1.2.2.2.1, ⟨hk.1.2.2.2.2.1, hk.1.2.2.2.2.2⟩⟩⟩⟩⟩)⟩, ⟨Kd.R_mono (zR4 (Kd.R_types ZI.out Za.out (by decide))) (fun _ hk => ⟨hk.1.1, ⟨hk.1.2.1, hk.1.2.2⟩⟩)⟩, ⟨by exact zput4 Za.out⟩, ⟨by exact zfar4 Zf.out Zg.out⟩, ⟨zg_5 HB.out Zh.out Zi.out⟩⟩
   rw [if_neg h5] at H; have p9 := decide_eq_false h5; clear h5
   obtain ⟨f6, j1⟩ : ∃ y_ : List (S66), y_ = (([] : List (S66))) := ⟨_, rfl⟩
   replace H : (if x ≤ (a.length : Int) then ((some (a.take (x : Int).toNat : List (S66))).bind fun b9 => (if f6.length + b9.length < 3518437208883 then ((some (f6 ++ b9 : List (S66))).bind fun b6 => (if 0 ≤ (wrap64 (x + 1)) then (if (wrap64 (x + 1)) ≤ (a.length : Int) then ((some (a.drop ((wrap64 (x + 1)) : Int).toNat : List (S66))).bind fun U => (if b6.length + U.length < 3518437208883 then (some (j, l, (b6 ++ U), y, 0)) else (none))) else (none)) else (none))) else (none))) else (none)) = some (r1, r2, r3, r4, r5) := zy H j1
   have m9 := zm j1; clear j1; have x9 := eq_true (zd : 0 ≤ x)
   by_cases k0 : x ≤ (a.length : Int)
   rotate_left
   ·rw [if_neg k0] at H
    exact absurd H (by simp)
   rw [if_pos k0] at H; have y6 := eq_true k0; have y7 := decide_eq_true k0; clear k0
   obtain ⟨b9, j2⟩ : ∃ y_ : List (S66), y_ = (a.take (x : Int).toNat) := ⟨_, rfl⟩
   replace H : (if f6.length + b9.length < 3518437208883 then ((some (f6 ++ b9 : List (S66))).bind fun b6 => (if 0 ≤ (wrap64 (x + 1)) then (if (wrap64 (x + 1)) ≤ (a.length : Int) then ((some (a.drop ((wrap64 (x + 1)) : Int).toNat : List (S66))).bind fun U => (if b6.length + U.length < 3518437208883 then (some (j, l, (b6 ++ U), y, 0)) else (none))) else (none)) else (none))) else (none)) = some (r1, r2, r3, r4, r5) := zy H j2
   have n0 := zm j2; clear j2
   by_cases n1 : f6.length + b9.length < 3518437208883
   rotate_left
   ·rw [if_neg n1] at H
    exact absurd H (by simp)
   rw [if_pos n1] at H; have q1 := zm n1; clear n1
   obtain ⟨b6, j3⟩ : ∃ y_ : List (S66), y_ = (f6 ++ b9) := ⟨_, rfl⟩
   replace H : (if 0 ≤ (wrap64 (x + 1)) then (if (wrap64 (x + 1)) ≤ (a.length : Int) then ((some (a.drop ((wrap64 (x + 1)) : Int).toNat : List (S66))).bind fun U => (if b6.length + U.length < 3518437208883 then (some (j, l, (b6 ++ U), y, 0)) else (none))) else (none)) else (none)) = some (r1, r2, r3, r4, r5) := zy H j3
   have q2 := zm j3; clear j3
   obtain ⟨ji58, hji58⟩ : ∃ j_ : Int, (wrap64 (x + 1)) = j_ := ⟨_, rfl⟩
   replace H : (if 0 ≤ (ji58) then (if (ji58) ≤ (a.length : Int) then ((some (a.drop ((ji58) : Int).toNat : List (S66))).bind fun U => (if b6.length + U.length < 3518437208883 then (some (j, l, (b6 ++ U), y, 0)) else (none))) else (none)) else (none)) = some (r1, r2, r3, r4, r5) := by first | (rw [hji58] at H; exact H) | (simp only [hji58] at H ⊢; exact H)
   have hji58w : (IntKind.i64.wrap (x + 1)) = ji58 := (i64_w _).trans hji58
   by_cases k2 : 0 ≤ (ji58)
   rotate_left
   ·rw [if_neg k2] at H
    exact absurd H (by simp)
   rw [if_pos k2] at H; have y8 := eq_true k2; have y9 := decide_eq_true k2; clear k2
   by_cases k3 : (ji58) ≤ (a.length : Int)
   rotate_left
   ·rw [if_neg k3] at H
    exact absurd H (by simp)
   rw [if_pos k3] at H; have z0 := eq_true k3; have z1 := decide_eq_true k3; clear k3
   obtain ⟨U, j4⟩ : ∃ y_ : List (S66), y_ = (a.drop ((ji58) : Int).toNat) := ⟨_, rfl⟩
   replace H : (if b6.length + U.length < 3518437208883 then (some (j, l, (b6 ++ U), y, 0)) else (none)) = some (r1, r2, r3, r4, r5) := zy H j4
   have n2 := zm j4; clear j4
   by_cases n3 : b6.length + U.length < 3518437208883
   rotate_left
   ·rw [if_neg n3] at H
    exact absurd H (by simp)
   rw [if_pos n3] at H; have q3 := zm n3; clear n3
   obtain ⟨c0, j5⟩ : ∃ y_ : List (S66), y_ = (b6 ++ U) := ⟨_, rfl⟩
   replace H : (some (j, l, c0, y, 0)) = some (r1, r2, r3, r4, r5) := zy H j5
   have q4 := zm j5; clear j5
   simp only [Option.some.injEq, Prod.mk.injEq] at H
   obtain ⟨rfl, rfl, rfl, rfl, rfl⟩ := H
   have z2 := Zk.out; have z3 := Zg.out
   obtain ⟨_, _, _, _, _, _, _, _⟩ := zb4 Za.out
   obtain ⟨A7, a7, t8⟩ := Kd.V_slice Zb.out
   subst t8
   have e2 : 0 ≤ (x : Int) := zd
   have e3 : x < (a.length : Int) := zd
   obtain ⟨J, n6, n7, k8, hx270_0, hx270_1, hl270_1, hi270_1⟩ := at_T66 (Kd.V_reads' Zb.out).2.2 x e2 e3
   cases k8
   obtain ⟨ce270, hce270, hMe270, hcc270⟩ := Kd.V_get Zb.out z66 x e2 (by first | exact e3 | exact zd | (have e_ := (Kd.V_reads' Zb.out).1; omega))
   obtain ⟨ua270_1, uc270_1, rfl, ul270_1, ge270_1⟩ := k66_openF hMe270
   have hv270_1 := hcc270 1 _ rfl
   rw [add_field _ _ 1 (by omega)] at hv270_1
   replace hv270_1 := Option.some.inj (hv270_1.symm.trans hx270_1)
   injection hv270_1 with hva_ hvn_ hvc_
   rw [hva_] at ge270_1
   rw [hvc_] at ul270_1
   have Zj := zm (show Kd.V (Kd.int .i64) 3 _ w.heap.size _ _ ((rd_T66 a x).f1) from Kd.V_mk ul270_1 ge270_1); clear hva_ hvn_ hvc_ ge270_1 ul270_1; clear hcc270 hce270; have Zl := zm hi270_1; have Zw := zm hl270_1; clear hi270_1 hl270_1; replace e2 := eq_true e2; replace e3 := eq_true e3
   try go_wp2
   have z := zm (Kd.R_drew Zc.out); have A := zm (Kd.R_drew Zd.out); have B := zm (Kd.V_drew Zb.out); have D := zm (Kd.R_drew Ze.out); have E := zm (Kd.V_drew Zj.out); have G := zm (blk_drew Za.out); have I := zm (blk_drew Zf.out); have b8 := zm (Kd.C_drew Zl.out); have c6 := zm (below_drew1 HB.out); clear Zc; clear Zd; clear Zb; clear Ze; clear Zj; clear Za; clear Zf; clear Zl; clear HB; have Zc := z; have Zd := A; have Zb := B; have Ze := D; have Zj := E; have Za := G; have Zf := I; have Zl := b8; have HB := c6; clear z A B D E G I b8 c6
   have p5 : (x : Int) ≤ ((a.length : Int) : Int) := zd
   obtain ⟨i066, hi066, _, hsz66, _⟩ := info_parts info66
   have hroom66 : a.length ≤ a7 := (Kd.V_reads' Zb.out).2.1
   have hC66 : Kd.F k66 _ _ (some J) a.length a := (Kd.V_at (base := w.heap.size) Zb.out).2.2
   have hcut66 := cut_to (P := Tryz.prog) 24 66 .i64 Tryz.underlying24 hi066 (some J) a.length a7 x (zd) p5 hroom66; have l2 := Kd.F_take (m := (x : Int).toNat) hC66 (by omega)
   have l3 : b9.length = (x : Int).toNat := (by rw [n0.out, List.length_take]; omega)
   rw [← n0.out] at l2
   rw [← l3] at hcut66
   have Zr := zm (show Kd.V k66 66 _ w.heap.size _ (.slice (some J) b9.length a7) b9 from Kd.V_mk (by omega) l2); have ZN := zm (show b9.length ≤ a7 from by omega); clear l2 hC66 hroom66 hi066 hsz66; have KY66 := zm l3; clear l3; replace p5 := eq_true p5
   have p6 : ((ji58) : Int) ≤ ((a.length : Int) : Int) := zd
   obtain ⟨i067, hi067, _, hsz67, _⟩ := info_parts info66
   have hroom67 : a.length ≤ a7 := (Kd.V_reads' Zb.out).2.1
   have hC67 : Kd.F k66 _ _ (some J) a.length a := (Kd.V_at (base := w.heap.size) Zb.out).2.2
   have t9 : (0 : Int) ≤ ((ji58) : Int) := zd
   have hcut67 := cut_from (P := Tryz.prog) 24 66 .i64 Tryz.underlying24 hi067 2 hsz67 (some J) a.length a7 (ji58) t9 p6; have h1 := Kd.F_cut (m := ((ji58) : Int).toNat) (c := a7) hC67 (by omega) hroom67
   obtain ⟨q9, hA67⟩ : ∃ A1, A1 = (if a7 = ((ji58) : Int).toNat then (some J) else ((some J) : Option Addr).map (·.add (((ji58) : Int).toNat * 2))) := ⟨_, rfl⟩
   obtain ⟨r0, j6⟩ : ∃ c1, c1 = a7 - ((ji58) : Int).toNat := ⟨_, rfl⟩
   have h2 : U.length = a.length - ((ji58) : Int).toNat := (by rw [n2.out, List.length_drop] <;> omega)
   rw [show (a).drop ((ji58) : Int).toNat = U from n2.out.symm] at h1
   replace h1 : Kd.F k66 _ _ q9 U.length U := (by rw [hA67]; exact h1)
   rw [← h2, ← hA67, ← j6] at hcut67
   have Zs := zm (show Kd.V k66 66 _ w.heap.size _ (.slice q9 U.length r0) U from Kd.V_mk (by rw [h2, j6]; exact Nat.sub_le_sub_right hroom67 _) h1); have ZO := zm (show U.length ≤ r0 from by rw [h2, j6]; exact Nat.sub_le_sub_right hroom67 _); clear h1 hC67 hroom67 hi067 hsz67 j6; have KY67 := zm h2; have KA67 := zm hA67; clear h2 hA67; replace p6 := eq_true p6
   refine start_ (n := 14) (S := fun w' => w'.cell? ⟨b, 0, none⟩ = some (q) ∧ w'.cell? ⟨b, 1, none⟩ = some (s) ∧ w'.cell? ⟨b, 2, none⟩ = some (.slice (some J) a.length a7) ∧ w'.cell? ⟨b, 3, none⟩ = some (u)) (ds := [13]) #[ff, ff, ff, ff, ff, ff, ff, ff, ff, ff, ff, ff, ff, ff] (by kernel_rfl) rfl rfl ⟨(blk_cell Za.out 0).trans rfl, (blk_cell Za.out 1).trans rfl, (blk_cell Za.out 2).trans rfl, (blk_cell Za.out 3).trans rfl⟩ (fun hHeld => ?_); refine with_tabW spec_l10Delete.tab9 spec_l10Delete.bits9 (fun HT_ HW_ => ?_)
   generalize wr.drew = w2 at Zc Zd Zb Ze Zj Za Zf Zl HB Zr Zs hHeld ⊢
   refine pure_ (i := 1) (N := some 39) (v := ?_) (a' := ?_) #[ff, tt, ff, ff, ff, ff, ff, ff, ff, ff, ff, ff, ff, ff] rfl rfl (any_of HT_.out (by kernel_rfl)) (fun _ _ _ h => h) (Or.inl ⟨by rfl, ?_⟩) ?_ ?_
   rotate_left
   ·intro w'
    go_simp
    with_reducible rfl
   rotate_left
   ·simp only [Act.put, zs, zz, zt, i64_w, i32_w]
    rfl
   refine pure_ (i := 3) (N := some 41) (v := ?_) (a' := ?_) #[ff, tt, ff, tt, ff, ff, ff, ff, ff, ff, ff, ff, ff, ff] rfl rfl (any_of HT_.out (by kernel_rfl)) (fun _ _ _ h => h) (Or.inl ⟨by rfl, ?_⟩) ?_ ?_
   rotate_left
   ·intro w'
    go_simp
    with_reducible rfl
   rotate_left
   ·simp only [Act.put, zs, zz, zt, i64_w, i32_w]
    rfl
   refine pure_ (i := 6) (N := some 44) (v := ?_) (a' := ?_) #[ff, tt, ff, tt, ff, ff, tt, ff, ff, ff, ff, ff, ff, ff] rfl rfl (any_of HT_.out (by kernel_rfl)) (fun _ _ _ h => h) (Or.inl ⟨by rfl, ?_⟩) ?_ ?_
   rotate_left
   ·intro w'
    go_simp
    with_reducible rfl
   rotate_left
   ·simp only [Act.put, zs, zz, zt, i64_w, i32_w]
    rfl
   refine pure_ (i := 8) (N := some 46) (v := ?_) (a' := ?_) #[ff, tt, ff, tt, ff, ff, tt, ff, tt, ff, ff, ff, ff, ff] rfl rfl (any_of HT_.out (by kernel_rfl)) (fun _ _ _ h => h) (Or.inl ⟨by rfl, ?_⟩) ?_ ?_
   rotate_left
   ·intro w'
    go_simp
    with_reducible rfl
   rotate_left
   ·simp only [Act.put, zs, zz, zt, i64_w, i32_w]
    rfl
   refine pure_ (i := 9) (N := some 47) (v := ?_) (a' := ?_) #[ff, tt, ff, tt, ff, ff, tt, ff, tt, tt, ff, ff, ff, ff] rfl rfl (any_of HT_.out (by kernel_rfl)) (fun _ _ _ h => h) (Or.inl ⟨by rfl, ?_⟩) ?_ ?_
   rotate_left
   ·intro w'
    go_simp
    with_reducible rfl
   rotate_left
   ·simp only [Act.put, zs, zz, zt, i64_w, i32_w]
    rfl
   refine take_ (i := 2) (N := some 40) (v := ?_) (a' := ?_) #[ff, tt, tt, tt, ff, ff, tt, ff, tt, tt, ff, ff, ff, ff] rfl rfl (take_ofW HT_.out HW_.out (by kernel_rfl)) (fun _ _ _ h => h) (Or.inl ⟨by rfl, ?_⟩) hHeld ?_ ?_
   rotate_left
   ·rintro w' ⟨s0, s1, s2, s3⟩
    go_simp
    with_reducible rfl
   rotate_left
   ·simp only [Act.put, zs, zz, zt, i64_w, i32_w]
    rfl
   refine pure_ (i := 4) (N := some 42) (v := ?_) (a' := ?_) #[ff, tt, tt, tt, tt, ff, tt, ff, tt, tt, ff, ff, ff, ff] rfl rfl (any_of HT_.out (by kernel_rfl)) (fun _ _ _ h => h) (Or.inl ⟨by rfl, ?_⟩) ?_ ?_
   rotate_left
   ·intro w'
    go_simp
    with_reducible rfl
   rotate_left
   ·simp only [Act.put, zs, zz, zt, i64_w, i32_w]
    rfl
   refine take_ (i := 7) (N := some 45) (v := ?_) (a' := ?_) #[ff, tt, tt, tt, tt, ff, tt, tt, tt, tt, ff, ff, ff, ff] rfl rfl (take_ofW HT_.out HW_.out (by kernel_rfl)) (fun _ _ _ h => h) (Or.inl ⟨by rfl, ?_⟩) hHeld ?_ ?_
   rotate_left
   ·rintro w' ⟨s0, s1, s2, s3⟩
    go_simp
    with_reducible rfl
   rotate_left
   ·simp only [Act.put, zs, zz, zt, i64_w, i32_w]
    rfl
   refine pure_ (i := 10) (N := some 48) (v := ?_) (a' := ?_) #[ff, tt, tt, tt, tt, ff, tt, tt, tt, tt, tt, ff, ff, ff] rfl rfl (any_of HT_.out (by kernel_rfl)) (fun _ _ _ h => h) (Or.inl ⟨by rfl, ?_⟩) ?_ ?_
   rotate_left
   ·intro w'
    go_simp
    with_reducible rfl
   rotate_left
   ·simp only [Act.put, zs, zz, zt, i64_w, i32_w]
    rfl
   refine one_ (i := 0) (N := some 38) #[tt, tt, tt, tt, tt, ff, tt, tt, tt, tt, tt, ff, ff, ff] rfl rfl (one_of HT_.out (by kernel_rfl)) (by decide) (fun K hK => ?_)
   refine Kd.N_lit_step k66 _ 66 ?hg (N' := 38) ?hd (xs := ([] : List (S66))) (inner := []) (ok := (fun k_ => (w.heap.size ≤ k_) ∧ some k_ ≠ (q : Value).ownBlock ∧ some k_ ≠ (s : Value).ownBlock ∧ some k_ ≠ (u : Value).ownBlock ∧ k_ ≠ b ∧ k_ ≠ d)) (okp := (fun k_ => (w.heap.size ≤ k_) ∧ some k_ ≠ (q : Value).ownBlock ∧ some k_ ≠ (s : Value).ownBlock ∧ some k_ ≠ (u : Value).ownBlock ∧ k_ ≠ b ∧ k_ ≠ d)) ?hr ?hp (fun _ hk => hk) ((show ∀ k_, w2.heap.size ≤ k_ → (fun k_ => (w.heap.size ≤ k_) ∧ some k_ ≠ (q : Value).ownBlock ∧ some k_ ≠ (s : Value).ownBlock ∧ some k_ ≠ (u : Value).ownBlock ∧ k_ ≠ b ∧ k_ ≠ d) k_ from fun k_ hk => ⟨(Nat.le_trans (below_size (zg_5 HB.out Zh.out Zi.out)) hk), Kd.fresh' (Kd.R_lt (zg_6 Zc.out)) k_ hk, Kd.fresh' (Kd.R_lt (zg_6 Zd.out)) k_ hk, Kd.fresh' (Kd.R_lt (zg_6 Ze.out)) k_ hk, Kd.freshB (g := b) (o := .cells #[q, s, .slice (some J) a.length a7, u] 26 (0, 0)) (zg_3 Za.out) k_ hk, Kd.freshB (g := d) (o := .cells #[.slice none 0 0, .slice none 0 0, .slice none 0 0, .slice none 0 0] 26 (0, 0)) (zg_3 Zf.out) k_ hk⟩) _ (Nat.le_refl _)) (Below.refl _ _) (Nat.le_refl _) (by simp) ?_; (case hd => rfl); (case hg => rfl); (case hr => first | (go_simp; done) | (go_simp; rfl)); (case hp => exact (Reps.none _ _))
   intro l4 C2 e4 hb hg_ hnew_
   clear hg_ hnew_
   (first | rw [← m9.out] at e4 | (simp only [Int.reduceToNat] at e4; rw [← m9.out] at e4))
   have z := zm (Kd.R_below (zg_6 Zc.out) hb); have A := zm (Kd.R_below (zg_6 Zd.out) hb); have B := zm (Kd.V_elder' (zg_0 Zb.out) (Kd.N_base e4) hb); have D := zm (Kd.R_below (zg_6 Ze.out) hb); have E := zm (Kd.V_elder' (zg_0 Zj.out) (Kd.N_base e4) hb); have G := zm (Kd.V_elder' (zg_0 Zr.out) (Kd.N_base e4) hb); have I := zm (Kd.V_elder' (zg_0 Zs.out) (Kd.N_base e4) hb); have b8 := zm (Kd.N_lower e4 (below_size (zg_5 HB.out Zh.out Zi.out))); have c6 := zm (blk_below (g := b) (o := .cells #[q, s, .slice (some J) a.length a7, u] 26 (0, 0)) (zg_3 Za.out) hb); have g8 := zm (blk_below (g := d) (o := .cells #[.slice none 0 0, .slice none 0 0, .slice none 0 0, .slice none 0 0] 26 (0, 0)) (zg_3 Zf.out) hb); have e5 := zm (Kd.C_below (by repeat (first | (with_reducible exact Zl.out) | (with_reducible refine Kd.C_alloc ?_ _) | (with_reducible refine Kd.C_drewN ?_ _) | (with_reducible refine Kd.C_drew ?_) | exact Zl.out)) hb); have p7 := zm (below_step (zg_5 HB.out Zh.out Zi.out) hb); clear Zc; clear Zd; clear Zb; clear Ze; clear Zj; clear Zr; clear Zs; clear Za; clear Zf; clear Zl; clear HB; have Zc := z; have Zd := A; have Zb := B; have Ze := D; have Zj := E; have Zr := G; have Zs := I; have Zt := b8; have Za := c6; have Zf := g8; have Zl := e5; have HB := p7; clear z A B D E G I b8 c6 g8 e5 p7; clear hb e4
   refine hK.out _ _ ⟨(blk_cell Za.out 0).trans rfl, (blk_cell Za.out 1).trans rfl, (blk_cell Za.out 2).trans rfl, (blk_cell Za.out 3).trans rfl⟩ (fun hHeld => ?_)
   clear hK K
   refine norm_ (a' := ?_) ?_ ?_
   rotate_left
   ·show Act.put _ (some 38) _ = _
    simp only [Act.put, zs, zz, zt, i64_w, i32_w]
    rfl
   refine one_ (i := 5) (N := some 43) #[tt, tt, tt, tt, tt, tt, tt, tt, tt, tt, tt, ff, ff, ff] rfl rfl (one_of HT_.out (by kernel_rfl)) (by decide) (fun K hK => ?_)
   refine Kd.N_append_rows_step k66 (w0 := w) w.heap.size (by rfl) (.tmp 38) (.tmp 42) 24 66 (.agg #[(.string ⟨#[]⟩), (.slice none 0 0)]) 40 rfl Tryz.underlying24 info66 rfl (by decide) (by omega) l4 f6 b9 _ _ _ (fun k_ => (w.heap.size ≤ k_) ∧ some k_ ≠ (q : Value).ownBlock ∧ some k_ ≠ (s : Value).ownBlock ∧ some k_ ≠ (u : Value).ownBlock ∧ k_ ≠ b ∧ k_ ≠ d) (fun k_ => ((fun k_ => (w.heap.size ≤ k_) ∧ some k_ ≠ (q : Value).ownBlock ∧ some k_ ≠ (s : Value).ownBlock ∧ some k_ ≠ (u : Value).ownBlock ∧ k_ ≠ b ∧ k_ ≠ d)) k_ ∧ some k_ ≠ (l4 : Value).ownBlock) rfl rfl ?aO ?aR (fun _ hk => hk) ?aF ?aB ?aS ?aL ?_
   (case aR => exact (by skip; exact Kd.V_F (Kd.V_mono (ok' := (fun k_ => ((fun k_ => (w.heap.size ≤ k_) ∧ some k_ ≠ (q : Value).ownBlock ∧ some k_ ≠ (s : Value).ownBlock ∧ some k_ ≠ (u : Value).ownBlock ∧ k_ ≠ b ∧ k_ ≠ d)) k_ ∧ some k_ ≠ (l4 : Value).ownBlock)) (Zr.out) (fun k_ hk => ⟨⟨hk.1.1, ⟨hk.1.2.1, ⟨hk.1.2.2.1, ⟨hk.1.2.2.2.1, ⟨hk.1.2.2.2.2.1, hk.1.2.2.2.2.2⟩⟩⟩⟩⟩, hk.2⟩))))
   (case aB => exact (zg_5 HB.out Zh.out Zi.out))
   (case aF => exact (fun k_ hk => ⟨(Nat.le_trans (below_size (zg_5 HB.out Zh.out Zi.out)) hk), Kd.fresh' (Kd.R_lt (zg_6 Zc.out)) k_ hk, Kd.fresh' (Kd.R_lt (zg_6 Zd.out)) k_ hk, Kd.fresh' (Kd.R_lt (zg_6 Ze.out)) k_ hk, Kd.freshB (g := b) (o := .cells #[q, s, .slice (some J) a.length a7, u] 26 (0, 0)) (zg_3 Za.out) k_ hk, Kd.freshB (g := d) (o := .cells #[.slice none 0 0, .slice none 0 0, .slice none 0 0, .slice none 0 0] 26 (0, 0)) (zg_3 Zf.out) k_ hk⟩))
   (case aO => exact (zg_4 Zt.out))
   (case aS => exact (below_size (zg_5 HB.out Zh.out Zi.out)))
   (case aL => have := q1.out; omega)
   intro l5 C3 ho hb hg hat
   rw [← q2.out] at ho
   have z := zm (Kd.R_over' (zg_6 Zc.out) (Kd.N_typed (zg_4 Zt.out)) (by decide) hg); have A := zm (Kd.R_over' (zg_6 Zd.out) (Kd.N_typed (zg_4 Zt.out)) (by decide) hg); have B := zm (Kd.V_afterv (ok := (fun k_ => (w.heap.size ≤ k_) ∧ some k_ ≠ (q : Value).ownBlock ∧ some k_ ≠ (s : Value).ownBlock ∧ some k_ ≠ (u : Value).ownBlock ∧ k_ ≠ b ∧ k_ ≠ d)) (zg_0 Zb.out) hg hat); have D := zm (Kd.R_over' (zg_6 Ze.out) (Kd.N_typed (zg_4 Zt.out)) (by decide) hg); have E := zm (blk_grown (g := b) (o := .cells #[q, s, .slice (some J) a.length a7, u] 26 (0, 0)) (zg_3 Za.out) hg (Kd.N_ne Zt.out Za.out (by decide))); have G := zm (blk_grown (g := d) (o := .cells #[.slice none 0 0, .slice none 0 0, .slice none 0 0, .slice none 0 0] 26 (0, 0)) (zg_3 Zf.out) hg (Kd.N_ne Zt.out Zf.out (by decide))); have I := zm (Kd.V_afterv (ok := (fun k_ => (w.heap.size ≤ k_) ∧ some k_ ≠ (q : Value).ownBlock ∧ some k_ ≠ (s : Value).ownBlock ∧ some k_ ≠ (u : Value).ownBlock ∧ k_ ≠ b ∧ k_ ≠ d)) (zg_0 Zj.out) hg hat); have b8 := zm (Kd.V_afterv (ok := (fun k_ => (w.heap.size ≤ k_) ∧ some k_ ≠ (q : Value).ownBlock ∧ some k_ ≠ (s : Value).ownBlock ∧ some k_ ≠ (u : Value).ownBlock ∧ k_ ≠ b ∧ k_ ≠ d)) (zg_0 Zr.out) hg hat); have c6 := zm (Kd.V_afterv (ok := (fun k_ => (w.heap.size ≤ k_) ∧ some k_ ≠ (q : Value).ownBlock ∧ some k_ ≠ (s : Value).ownBlock ∧ some k_ ≠ (u : Value).ownBlock ∧ k_ ≠ b ∧ k_ ≠ d)) (zg_0 Zs.out) hg hat); have g8 := zm (hb); have e5 := zm (ho); clear Zc; clear Zd; clear Zb; clear Ze; clear Za; clear Zf; clear Zj; clear Zr; clear Zs; clear HB; clear Zt; have Zc := z; have Zd := A; have Zb := B; have Ze := D; have Za := E; have Zf := G; have Zj := I; have Zr := b8; have Zs := c6; have HB := g8; have Zu := e5; clear z A B D E G I b8 c6 g8 e5; clear ho hb hg hat
   refine hK.out _ _ ⟨(blk_cell Za.out 0).trans rfl, (blk_cell Za.out 1).trans rfl, (blk_cell Za.out 2).trans rfl, (blk_cell Za.out 3).trans rfl⟩ (fun hHeld => ?_)
   clear hK K
   refine norm_ (a' := ?_) ?_ ?_
   rotate_left
   ·show Act.put _ (some 43) _ = _
    simp only [Act.put, zs, zz, zt, i64_w, i32_w]
    rfl
   refine one_ (i := 11) (N := some 49) #[tt, tt, tt, tt, tt, tt, tt, tt, tt, tt, tt, tt, ff, ff] rfl rfl (one_of HT_.out (by kernel_rfl)) (by decide) (fun K hK => ?_)
   refine Kd.N_append_rows_step k66 (w0 := w) w.heap.size (by rfl) (.tmp 43) (.tmp 48) 24 66 (.agg #[(.string ⟨#[]⟩), (.slice none 0 0)]) 40 rfl Tryz.underlying24 info66 rfl (by decide) (by omega) l5 b6 U _ _ _ (fun k_ => (w.heap.size ≤ k_) ∧ some k_ ≠ (q : Value).ownBlock ∧ some k_ ≠ (s : Value).ownBlock ∧ some k_ ≠ (u : Value).ownBlock ∧ k_ ≠ b ∧ k_ ≠ d) (fun k_ => ((fun k_ => (w.heap.size ≤ k_) ∧ some k_ ≠ (q : Value).ownBlock ∧ some k_ ≠ (s : Value).ownBlock ∧ some k_ ≠ (u : Value).ownBlock ∧ k_ ≠ b ∧ k_ ≠ d)) k_ ∧ some k_ ≠ (l5 : Value).ownBlock) rfl rfl ?aO ?aR (fun _ hk => hk) ?aF ?aB ?aS ?aL ?_
   (case aR => exact (by skip; exact Kd.V_F (Kd.V_mono (ok' := (fun k_ => ((fun k_ => (w.heap.size ≤ k_) ∧ some k_ ≠ (q : Value).ownBlock ∧ some k_ ≠ (s : Value).ownBlock ∧ some k_ ≠ (u : Value).ownBlock ∧ k_ ≠ b ∧ k_ ≠ d)) k_ ∧ some k_ ≠ (l5 : Value).ownBlock)) (Zs.out) (fun k_ hk => ⟨⟨hk.1.1, ⟨hk.1.2.1, ⟨hk.1.2.2.1, ⟨hk.1.2.2.2.1, ⟨hk.1.2.2.2.2.1, hk.1.2.2.2.2.2⟩⟩⟩⟩⟩, hk.2⟩))))
   (case aB => exact (zg_5 HB.out Zh.out Zi.out))
   (case aF => exact (fun k_ hk => ⟨(Nat.le_trans (below_size (zg_5 HB.out Zh.out Zi.out)) hk), Kd.fresh' (Kd.R_lt (zg_6 Zc.out)) k_ hk, Kd.fresh' (Kd.R_lt (zg_6 Zd.out)) k_ hk, Kd.fresh' (Kd.R_lt (zg_6 Ze.out)) k_ hk, Kd.freshB (g := b) (o := .cells #[q, s, .slice (some J) a.length a7, u] 26 (0, 0)) (zg_3 Za.out) k_ hk, Kd.freshB (g := d) (o := .cells #[.slice none 0 0, .slice none 0 0, .slice none 0 0, .slice none 0 0] 26 (0, 0)) (zg_3 Zf.out) k_ hk⟩))
   (case aO => exact (zg_4 Zu.out))
   (case aS => exact (below_size (zg_5 HB.out Zh.out Zi.out)))
   (case aL => have := q3.out; omega)
   intro B0 w3 ho hb hg hat
   rw [← q4.out] at ho
   have z := zm (Kd.R_over' (zg_6 Zc.out) (Kd.N_typed (zg_4 Zu.out)) (by decide) hg); have A := zm (Kd.R_over' (zg_6 Zd.out) (Kd.N_typed (zg_4 Zu.out)) (by decide) hg); have B := zm (Kd.V_afterv (ok := (fun k_ => (w.heap.size ≤ k_) ∧ some k_ ≠ (q : Value).ownBlock ∧ some k_ ≠ (s : Value).ownBlock ∧ some k_ ≠ (u : Value).ownBlock ∧ k_ ≠ b ∧ k_ ≠ d)) (zg_0 Zb.out) hg hat); have D := zm (Kd.R_over' (zg_6 Ze.out) (Kd.N_typed (zg_4 Zu.out)) (by decide) hg); have E := zm (blk_grown (g := b) (o := .cells #[q, s, .slice (some J) a.length a7, u] 26 (0, 0)) (zg_3 Za.out) hg (Kd.N_ne Zu.out Za.out (by decide))); have G := zm (blk_grown (g := d) (o := .cells #[.slice none 0 0, .slice none 0 0, .slice none 0 0, .slice none 0 0] 26 (0, 0)) (zg_3 Zf.out) hg (Kd.N_ne Zu.out Zf.out (by decide))); have I := zm (Kd.V_afterv (ok := (fun k_ => (w.heap.size ≤ k_) ∧ some k_ ≠ (q : Value).ownBlock ∧ some k_ ≠ (s : Value).ownBlock ∧ some k_ ≠ (u : Value).ownBlock ∧ k_ ≠ b ∧ k_ ≠ d)) (zg_0 Zj.out) hg hat); have b8 := zm (Kd.V_afterv (ok := (fun k_ => (w.heap.size ≤ k_) ∧ some k_ ≠ (q : Value).ownBlock ∧ some k_ ≠ (s : Value).ownBlock ∧ some k_ ≠ (u : Value).ownBlock ∧ k_ ≠ b ∧ k_ ≠ d)) (zg_0 Zr.out) hg hat); have c6 := zm (Kd.V_afterv (ok := (fun k_ => (w.heap.size ≤ k_) ∧ some k_ ≠ (q : Value).ownBlock ∧ some k_ ≠ (s : Value).ownBlock ∧ some k_ ≠ (u : Value).ownBlock ∧ k_ ≠ b ∧ k_ ≠ d)) (zg_0 Zs.out) hg hat); have g8 := zm (hb); have e5 := zm (ho); clear Zc; clear Zd; clear Zb; clear Ze; clear Za; clear Zf; clear Zj; clear Zr; clear Zs; clear HB; clear Zu; have Zc := z; have Zd := A; have Zb := B; have Ze := D; have Za := E; have Zf := G; have Zj := I; have Zr := b8; have Zs := c6; have HB := g8; have ZJ := e5; clear z A B D E G I b8 c6 g8 e5; clear ho hb hg hat
   obtain ⟨c7, c9, p8⟩ := Kd.N_slice ZJ.out
   (first | subst p8 | (injection p8 with f1_ f2_ f3_; have f4_ := f1_.symm; have f5_ := f3_.symm; clear f1_ f2_ f3_; subst f4_; subst f5_))
   refine hK.out _ _ ⟨(blk_cell Za.out 0).trans rfl, (blk_cell Za.out 1).trans rfl, (blk_cell Za.out 2).trans rfl, (blk_cell Za.out 3).trans rfl⟩ (fun hHeld => ?_)
   clear hK K
   refine norm_ (a' := ?_) ?_ ?_
   rotate_left
   ·show Act.put _ (some 49) _ = _
    simp only [Act.put, zs, zz, zt, i64_w, i32_w]
    rfl
   refine pure_ (i := 12) (N := some 50) (v := ?_) (a' := ?_) #[tt, tt, tt, tt, tt, tt, tt, tt, tt, tt, tt, tt, tt, ff] rfl rfl (any_of HT_.out (by kernel_rfl)) (fun _ _ _ h => h) (Or.inl ⟨by rfl, ?_⟩) ?_ ?_
   rotate_left
   ·intro w'
    go_simp
    with_reducible rfl
   rotate_left
   ·simp only [Act.put, zs, zz, zt, i64_w, i32_w]
    rfl
   refine last_ (i := 13) (N := none) #[tt, tt, tt, tt, tt, tt, tt, tt, tt, tt, tt, tt, tt, tt] rfl rfl (one_of HT_.out (by kernel_rfl)) (by decide) (fun K hK => ?_)
   have B1 : w3.cell? ⟨b, 2, none⟩ = some (.slice (some J) a.length a7) := (blk_cell Za.out 2).trans rfl
   have z4 := blk_frozen Za.out 2; have v1 := Zg.out; have v2 := Zk.out
   refine skip_ (w1 := ?_) (by rfl) rfl ?_ ?_
   rotate_left
   ·go_simp
    rfl
   refine hK.out _ _ ?_
   clear hK K
   refine done_ (done_of HT_.out (by kernel_rfl)) ?_
   obtain ⟨_, _, _, _, _, _, _, _⟩ := zb4 Za.out
   obtain ⟨e6, e7, u0⟩ := Kd.R_slice Zc.out
   subst u0
   obtain ⟨_, _, _, _, _, _, _, _⟩ := zb4 Zf.out
   obtain ⟨f7, f8, u1⟩ := Kd.R_slice Zd.out
   subst u1
   obtain ⟨h3, h4, u2⟩ := Kd.R_slice Ze.out
   subst u2
   try go_wp2
   refine bodyPost_ret (results_ct rfl _ _ d 26 #[.slice e6 j.length e7, .slice f7 l.length f8, .slice c7 c0.length c9, .slice h3 y.length h4] (0, 0) _ rfl (by (with_reducible repeat (first | refine blk_drewN ?_ _ | refine blk_drew ?_ | refine blk_alloc ?_ _)); refine blk_put (cs := #[.slice e6 j.length e7, .slice f7 l.length f8, .slice c7 c0.length c9, .slice none 0 0]) ?_ 3 _ rfl; (with_reducible repeat (first | refine blk_drewN ?_ _ | refine blk_drew ?_ | refine blk_alloc ?_ _)); refine blk_put (cs := #[.slice e6 j.length e7, .slice f7 l.length f8, .slice none 0 0, .slice none 0 0]) ?_ 2 _ rfl; (with_reducible repeat (first | refine blk_drewN ?_ _ | refine blk_drew ?_ | refine blk_alloc ?_ _)); refine blk_put (cs := #[.slice e6 j.length e7, .slice none 0 0, .slice none 0 0, .slice none 0 0]) ?_ 1 _ rfl; (with_reducible repeat (first | refine blk_drewN ?_ _ | refine blk_drew ?_ | refine blk_alloc ?_ _)); refine blk_put (cs := #[.slice none 0 0, .slice none 0 0, .slice none 0 0, .slice none 0 0]) ?_ 0 _ rfl; (with_reducible repeat (first | refine blk_drewN ?_ _ | refine blk_drew ?_ | refine blk_alloc ?_ _)); refine blk_far ?_ Zg.out _; (with_reducible repeat (first | refine blk_drewN ?_ _ | refine blk_drew ?_ | refine blk_alloc ?_ _)); exact Zf.out) Tryz.underlying26 rfl (by kernel_rfl)) rfl ?_
   exact ⟨_, _, _, _, by first | rfl | (simp [errW_none, errW_some] <;> rfl) | (simp only [← hji58]; first | rfl | (simp [errW_none, errW_some] <;> rfl)) | (simp [*, errW_none, errW_some] <;> rfl), by (with_reducible repeat (first | apply Kd.R_alloc | apply Kd.R_drewN | apply Kd.R_drew)); exact Kd.R_mono (Kd.R_far (p := ⟨d, 3, none⟩) (Kd.R_far (p := ⟨d, 2, none⟩) (Kd.R_far (p := ⟨d, 1, none⟩) (Kd.R_far (p := ⟨d, 0, none⟩) (Kd.R_far (p := ⟨b, 2, none⟩) (Kd.R_types (Kd.R_types Zc.out Za.out (by decide)) Zf.out (by decide)) (fun _ hk => hk.1.2) (.slice c7 c0.length c9)) (fun _ hk => hk.2) (.slice e6 j.length e7)) (fun _ hk => hk.2) (.slice f7 l.length f8)) (fun _ hk => hk.2) (.slice c7 c0.length c9)) (fun _ hk => hk.2) (.slice h3 y.length h4)) (fun _ hk => ⟨hk.1.1.1, ⟨hk.1.1.2.1, hk.1.1.2.2⟩⟩), by (with_reducible repeat (first | apply Kd.R_alloc | apply Kd.R_drewN | apply Kd.R_drew)); exact Kd.R_mono (Kd.R_far (p := ⟨d, 3, none⟩) (Kd.R_far (p := ⟨d, 2, none⟩) (Kd.R_far (p := ⟨d, 1, none⟩) (Kd.R_far (p := ⟨d, 0, none⟩) (Kd.R_far (p := ⟨b, 2, none⟩) (Kd.R_types (Kd.R_types Zd.out Za.out (by decide)) Zf.out (by decide)) (fun _ hk => hk.1.2) (.slice c7 c0.length c9)) (fun _ hk => hk.2) (.slice e6 j.length e7)) (fun _ hk => hk.2) (.slice f7 l.length f8)) (fun _ hk => hk.2) (.slice c7 c0.length c9)) (fun _ hk => hk.2) (.slice h3 y.length h4)) (fun _ hk => ⟨hk.1.1.1, ⟨hk.1.1.2.1, hk.1.1.2.2⟩⟩), by (with_reducible repeat (first | apply Kd.N_alloc | apply Kd.N_drewN | apply Kd.N_drew)); exact Kd.N_mono (Kd.N_far (p := ⟨d, 3, none⟩) (Kd.N_far (p := ⟨d, 2, none⟩) (Kd.N_far (p := ⟨d, 1, none⟩) (Kd.N_far (p := ⟨d, 0, none⟩) (Kd.N_far (p := ⟨b, 2, none⟩) (Kd.N_mono (Kd.N_mono ZJ.out (fun k_ hk => (⟨hk, hk.2.2.2.2.1⟩ : _ ∧ k_ ≠ b))) (fun k_ hk => (⟨hk, hk.1.2.2.2.2.2⟩ : _ ∧ k_ ≠ d))) (fun _ hk => hk.1.2) (.slice c7 c0.length c9)) (fun _ hk => hk.2) (.slice e6 j.length e7)) (fun _ hk => hk.2) (.slice f7 l.length f8)) (fun _ hk => hk.2) (.slice c7 c0.length c9)) (fun _ hk => hk.2) (.slice h3 y.length h4)) (fun _ hk => ⟨hk.1.1.1, ⟨hk.1.1.2.1, ⟨hk.1.1.2.2.1, hk.1.1.2.2.2.1⟩⟩⟩), by (with_reducible repeat (first | apply Kd.R_alloc | apply Kd.R_drewN | apply Kd.R_drew)); exact Kd.R_mono (Kd.R_far (p := ⟨d, 3, none⟩) (Kd.R_far (p := ⟨d, 2, none⟩) (Kd.R_far (p := ⟨d, 1, none⟩) (Kd.R_far (p := ⟨d, 0, none⟩) (Kd.R_far (p := ⟨b, 2, none⟩) (Kd.R_types (Kd.R_types Ze.out Za.out (by decide)) Zf.out (by decide)) (fun _ hk => hk.1.2) (.slice c7 c0.length c9)) (fun _ hk => hk.2) (.slice e6 j.length e7)) (fun _ hk => hk.2) (.slice f7 l.length f8)) (fun _ hk => hk.2) (.slice c7 c0.length c9)) (fun _ hk => hk.2) (.slice h3 y.length h4)) (fun _ hk => ⟨hk.1.1.1, ⟨hk.1.1.2.1, hk.1.1.2.2⟩⟩), zg_5 HB.out Zh.out Zi.out⟩
def spec_l10New.f (a0 : Int) : Option (List Int × List Int × (List (S66)) × List Int) := if 24 ≤ 35184372088832 then (if 0 ≤ a0 then (if (a0 : Int).toNat ≤ 35184372088832 then (some ((List.replicate 24 0), (List.replicate (a0 : Int).toNat 0), (([] : List (S66))), (List.replicate 24 0))) else (none)) else (none)) else (none)
def spec_l10New.T1 : Bool × List (List Nat × List Nat) := (true, [([], []), ([], []), ([1, 1], [1]), ([], []), ([], []), ([0, 2, 3, 4], [0, 2, 3, 4]), ([5, 0, 1, 2, 3, 4, 5], [5])])
def spec_l10New.B1 : List Nat := [0, 0, 2, 0, 0, 31, 63]
theorem spec_l10New.tab1 : rtab .any (opsOf Tryz.f19 1) = spec_l10New.T1 := by kernel_rfl
theorem spec_l10New.bits1 : waitsOk spec_l10New.T1.2 spec_l10New.B1 = true := by kernel_rfl
set_option maxHeartbeats 8000000 in
set_option maxRecDepth 100000 in
theorem spec_l10New.calls (a0 : Int) (r1 : List Int) (r2 : List Int) (r3 : List (S66)) (r4 : List Int) (w : World) (h : spec_l10New.f a0 = some (r1, r2, r3, r4)) :
    Calls Tryz.prog 19 #[.int .i64 a0] w fun e w' => ∃ a4 a5 d1 a6 : Value, e = .returned (.agg #[a4, a5, d1, a6]) ∧ Kd.R (Kd.int .i64) 3 w' w.heap.size (fun k_ => some k_ ≠ (a5 : Value).ownBlock ∧ some k_ ≠ (a6 : Value).ownBlock) a4 r1 ∧ Kd.R (Kd.int .i64) 3 w' w.heap.size (fun k_ => some k_ ≠ (a4 : Value).ownBlock ∧ some k_ ≠ (a6 : Value).ownBlock) a5 r2 ∧ Kd.S k66 66 w' w.heap.size (fun k_ => some k_ ≠ (a4 : Value).ownBlock ∧ some k_ ≠ (a5 : Value).ownBlock ∧ some k_ ≠ (a6 : Value).ownBlock) d1 r3 ∧ Kd.R (Kd.int .i64) 3 w' w.heap.size (fun k_ => some k_ ≠ (a4 : Value).ownBlock ∧ some k_ ≠ (a5 : Value).ownBlock) a6 r4 ∧ Below w.heap.size w w' := by
 have hu26 := Tryz.underlying26; have HB := zm (Below.refl w.heap.size w); have H := h
 unfold spec_l10New.f at H
 clear h
 by_cases c2 : 24 ≤ 35184372088832
 rotate_left
 ·rw [if_neg c2] at H
  exact absurd H (by simp)
 rw [if_pos c2] at H; have f7 := eq_true c2; have f8 := decide_eq_true c2; clear c2
 obtain ⟨x, D⟩ : ∃ y_ : List Int, y_ = (List.replicate 24 0) := ⟨_, rfl⟩
 replace H : (if 0 ≤ a0 then (if (a0 : Int).toNat ≤ 35184372088832 then (some (x, (List.replicate (a0 : Int).toNat 0), (([] : List (S66))), (List.replicate 24 0))) else (none)) else (none)) = some (r1, r2, r3, r4) := zy H D
 have a9 := zm D; clear D
 by_cases c3 : 0 ≤ a0
 rotate_left
 ·rw [if_neg c3] at H
  exact absurd H (by simp)
 rw [if_pos c3] at H; have f9 := eq_true c3; have g0 := decide_eq_true c3; clear c3
 by_cases c4 : (a0 : Int).toNat ≤ 35184372088832
 rotate_left
 ·rw [if_neg c4] at H
  exact absurd H (by simp)
 rw [if_pos c4] at H; have g1 := eq_true c4; have g2 := decide_eq_true c4; clear c4
 obtain ⟨z, E⟩ : ∃ y_ : List Int, y_ = (List.replicate (a0 : Int).toNat 0) := ⟨_, rfl⟩
 replace H : (some (x, z, (([] : List (S66))), (List.replicate 24 0))) = some (r1, r2, r3, r4) := zy H E
 have b0 := zm E; clear E
 obtain ⟨C, F⟩ : ∃ y_ : List (S66), y_ = (([] : List (S66))) := ⟨_, rfl⟩
 replace H : (some (x, z, C, (List.replicate 24 0))) = some (r1, r2, r3, r4) := zy H F
 have b1 := zm F; clear F
 obtain ⟨B, G⟩ : ∃ y_ : List Int, y_ = (List.replicate 24 0) := ⟨_, rfl⟩
 replace H : (some (x, z, C, B)) = some (r1, r2, r3, r4) := zy H G
 have b2 := zm G; clear G
 simp only [Option.some.injEq, Prod.mk.injEq] at H
 obtain ⟨rfl, rfl, rfl, rfl⟩ := H
 go_enter Tryz.func19, Tryz.ntmps19
 try go_wp2_with (first | ((with_reducible refine gate_dst (N := 2) rfl ?_); refine box_event ?hg (N := 2) ?hd (cs := #[.slice none 0 0, .slice none 0 0, .slice none 0 0, .slice none 0 0]) (t := 26) ?hr ?_; (case hd => rfl); (case hg => rfl); (case hr => first | (go_simp; done) | (go_simp; rfl)); intro y hg w5 hbox hb; have a7 := zm (below_step (zg_1 HB.out) hb); have a8 := zm (hbox); have d2 := zm ((by rw [hg]; exact (below_size (zg_1 HB.out)) : w.heap.size ≤ y)); have d3 := zm ((by rw [hg]; exact (below_size (zg_1 HB.out)) : w.heap.size ≤ y)); replace HB := a7; have Za := a8; have Zg := d2; have Zf := d3; clear a7 a8 d2 d3; clear hb hbox hg))
 have a7 := zm (blk_drew Za.out); have a8 := zm (below_drew1 HB.out); clear Za; clear HB; have Za := a7; have HB := a8; clear a7 a8
 refine start_ (n := 7) (S := fun w' => True) (ds := []) #[ff, ff, ff, ff, ff, ff, ff] (by kernel_rfl) rfl rfl trivial (fun hHeld => ?_); refine with_tabW spec_l10New.tab1 spec_l10New.bits1 (fun HT_ HW_ => ?_)
 generalize w5.drew = w6 at Za HB hHeld ⊢
 refine pure_ (i := 1) (N := some 4) (v := ?_) (a' := ?_) #[ff, tt, ff, ff, ff, ff, ff] rfl rfl (any_of HT_.out (by kernel_rfl)) (fun _ _ _ h => h) (Or.inl ⟨by rfl, ?_⟩) ?_ ?_
 rotate_left
 ·intro w'
  go_simp
  with_reducible rfl
 rotate_left
 ·simp only [Act.put, zs, zz, zt, i64_w, i32_w]
  rfl
 refine inv_at [0, 2, 3, 4, 5, 6] (fun a0_ b a w' => ∃ (o : Value) (p : Value) (q : Value) (r : Value) (own_ : Nat → Nat) (m5_ : Value), a = putSel a0_ b [(0, 3, o), (2, 5, p), (3, 6, q), (4, 7, r), (5, 8, m5_)] ∧ (b 6 = false → w'.heap[y]? = some (.cells #[.slice none 0 0, .slice none 0 0, .slice none 0 0, .slice none 0 0] 26 (0, 0))) ∧ (Below w.heap.size w w') ∧ (b 0 = true → Kd.R (Kd.int .i64) 3 w' w.heap.size (fun k_ => own_ k_ = 0) o x) ∧ (b 2 = true → Kd.R (Kd.int .i64) 3 w' w.heap.size (fun k_ => own_ k_ = 2) p z) ∧ (b 3 = true → Kd.S k66 66 w' w.heap.size (fun k_ => own_ k_ = 3) q C) ∧ (b 4 = true → Kd.R (Kd.int .i64) 3 w' w.heap.size (fun k_ => own_ k_ = 4) r B) ∧ (b 6 = true → w'.heap[y]? = some (.cells #[o, p, q, r] 26 (0, 0))) ∧ (b 5 = true → (m5_ : Value) = .agg #[o, p, q, r])) HT_.out HW_.out (by kernel_rfl) (by kernel_rfl) ?_ ?_ ?_
 ·exact ⟨.bool false, .bool false, .bool false, .bool false, fun _ => 0, .bool false, by simp only [putSel, Bool.false_eq_true, if_false], fun _ => Za.out, HB.out, fun h_ => absurd h_ (by decide), fun h_ => absurd h_ (by decide), fun h_ => absurd h_ (by decide), fun h_ => absurd h_ (by decide), fun h_ => absurd h_ (by decide), fun h_ => absurd h_ (by decide)⟩
 ·skip
  clear Za HB
  refine steps_cons ?_ ?_
  ·rintro b a w' ⟨o, p, q, r, own_, m5_, ha, l, s, c, d, g, j, m, A⟩ hb_ hon hoff
   refine ⟨_, rfl, fun K hK => ?_⟩
   replace ha := zm ha
   refine Kd.R_make_step (Kd.int .i64) _ 3 (by rfl) (N := 3) rfl 23 _ _ rfl 24 rfl rfl Tryz.underlying23 (.int .i64 0) 8 info3 rfl (by decide) (by omega) 0 (ok := fun _ => True) (okp := fun _ => True) rfl (fun _ hk => hk) trivial (by omega) (by omega) (Below.refl _ _) (Nat.le_refl _) ?_
   intro o w7 u hb hg_ hnew_
   (first | rw [← a9.out] at u | (simp only [Int.reduceToNat] at u; rw [← a9.out] at u))
   refine hK.out _ _ ⟨o, p, q, r, (fun k_ => if k_ < w'.heap.size then own_ k_ else 0), m5_, (by rw [ha.out]; exact putSel_upk 0 hb_ rfl rfl rfl), fun h0_ => blk_below (l h0_) hb, below_step s hb, fun _ => Kd.R_ownN u (below_size s), fun h0_ => Kd.R_ownB (d h0_) hb, fun h0_ => Kd.S_ownB (g h0_) hb, fun h0_ => Kd.R_ownB (j h0_) hb, fun h0_ => absurd ((hoff 6 (by kernel_rfl)).symm.trans h0_) (by decide), fun h0_ => absurd ((hoff 5 (by kernel_rfl)).symm.trans h0_) (by decide)⟩
  refine steps_cons ?_ ?_
  ·rintro b a w' ⟨o, p, q, r, own_, m5_, ha, l, s, c, d, g, j, m, A⟩ hb_ hon hoff
   refine ⟨_, rfl, fun K hK => ?_⟩
   have e4 : a.tmps[4]? = some (.int .i64 a0) := by rw [ha]; exact (putSel_off rfl).trans rfl
   replace ha := zm ha
   refine Kd.R_make_step (Kd.int .i64) _ 3 (by rfl) (N := 5) rfl 23 _ _ rfl a0 (by first | exact eval_of e4 | rfl) (by first | exact eval_of e4 | rfl) Tryz.underlying23 (.int .i64 0) 8 info3 rfl (by decide) (by omega) 0 (ok := fun _ => True) (okp := fun _ => True) rfl (fun _ hk => hk) trivial (zd) (Nat.le_trans (Nat.mul_le_mul_right _ (zd : a0.toNat ≤ 35184372088832)) (by omega)) (Below.refl _ _) (Nat.le_refl _) ?_
   intro p w7 u hb hg_ hnew_
   (first | rw [← b0.out] at u | (simp only [Int.reduceToNat] at u; rw [← b0.out] at u))
   refine hK.out _ _ ⟨o, p, q, r, (fun k_ => if k_ < w'.heap.size then own_ k_ else 2), m5_, (by rw [ha.out]; exact putSel_upk 1 hb_ rfl rfl rfl), fun h0_ => blk_below (l h0_) hb, below_step s hb, fun h0_ => Kd.R_ownB (c h0_) hb, fun _ => Kd.R_ownN u (below_size s), fun h0_ => Kd.S_ownB (g h0_) hb, fun h0_ => Kd.R_ownB (j h0_) hb, fun h0_ => absurd ((hoff 6 (by kernel_rfl)).symm.trans h0_) (by decide), fun h0_ => absurd ((hoff 5 (by kernel_rfl)).symm.trans h0_) (by decide)⟩
  refine steps_cons ?_ ?_
  ·rintro b a w' ⟨o, p, q, r, own_, m5_, ha, l, s, c, d, g, j, m, A⟩ hb_ hon hoff
   refine ⟨_, rfl, fun K hK => ?_⟩
   replace ha := zm ha
   refine Kd.S_lit_step k66 _ 66 ?hg (N := 6) ?hd (xs := ([] : List (S66))) (inner := []) (ok := fun _ => True) (okp := fun _ => True) ?hr ?hp (fun _ hk => hk) trivial (Below.refl _ _) (Nat.le_refl _) (by simp) ?_; (case hd => rfl); (case hg => rfl); (case hr => first | (go_simp; done) | (go_simp; rfl)); (case hp => exact (Reps.none _ _))
   intro q w7 u hb hg_ hnew_
   (first | rw [← b1.out] at u | (simp only [Int.reduceToNat] at u; rw [← b1.out] at u))
   refine hK.out _ _ ⟨o, p, q, r, (fun k_ => if k_ < w'.heap.size then own_ k_ else 3), m5_, (by rw [ha.out]; exact putSel_upk 2 hb_ rfl rfl rfl), fun h0_ => blk_below (l h0_) hb, below_step s hb, fun h0_ => Kd.R_ownB (c h0_) hb, fun h0_ => Kd.R_ownB (d h0_) hb, fun _ => Kd.S_ownN u (below_size s), fun h0_ => Kd.R_ownB (j h0_) hb, fun h0_ => absurd ((hoff 6 (by kernel_rfl)).symm.trans h0_) (by decide), fun h0_ => absurd ((hoff 5 (by kernel_rfl)).symm.trans h0_) (by decide)⟩
  refine steps_cons ?_ ?_
  ·rintro b a w' ⟨o, p, q, r, own_, m5_, ha, l, s, c, d, g, j, m, A⟩ hb_ hon hoff
   refine ⟨_, rfl, fun K hK => ?_⟩
   replace ha := zm ha
   refine Kd.R_make_step (Kd.int .i64) _ 3 (by rfl) (N := 7) rfl 23 _ _ rfl 24 rfl rfl Tryz.underlying23 (.int .i64 0) 8 info3 rfl (by decide) (by omega) 0 (ok := fun _ => True) (okp := fun _ => True) rfl (fun _ hk => hk) trivial (by omega) (by omega) (Below.refl _ _) (Nat.le_refl _) ?_
   intro r w7 u hb hg_ hnew_
   (first | rw [← b2.out] at u | (simp only [Int.reduceToNat] at u; rw [← b2.out] at u))
   refine hK.out _ _ ⟨o, p, q, r, (fun k_ => if k_ < w'.heap.size then own_ k_ else 4), m5_, (by rw [ha.out]; exact putSel_upk 3 hb_ rfl rfl rfl), fun h0_ => blk_below (l h0_) hb, below_step s hb, fun h0_ => Kd.R_ownB (c h0_) hb, fun h0_ => Kd.R_ownB (d h0_) hb, fun h0_ => Kd.S_ownB (g h0_) hb, fun _ => Kd.R_ownN u (below_size s), fun h0_ => absurd ((hoff 6 (by kernel_rfl)).symm.trans h0_) (by decide), fun h0_ => absurd ((hoff 5 (by kernel_rfl)).symm.trans h0_) (by decide)⟩
  refine steps_cons ?_ ?_
  ·rintro b a w' ⟨o, p, q, r, own_, m5_, ha, l, s, c, d, g, j, m, A⟩ hb_ hon hoff
   refine ⟨_, rfl, fun K hK => ?_⟩
   have e3 : a.tmps[3]? = some (o) := by rw [ha]; exact putSel_on (e := (0, 3, o)) 0 rfl rfl (hon 0 (by kernel_rfl)) rfl
   have e5 : a.tmps[5]? = some (p) := by rw [ha]; exact putSel_on (e := (2, 5, p)) 1 rfl rfl (hon 2 (by kernel_rfl)) rfl
   have e6 : a.tmps[6]? = some (q) := by rw [ha]; exact putSel_on (e := (3, 6, q)) 2 rfl rfl (hon 3 (by kernel_rfl)) rfl
   have e7 : a.tmps[7]? = some (r) := by rw [ha]; exact putSel_on (e := (4, 7, r)) 3 rfl rfl (hon 4 (by kernel_rfl)) rfl
   replace ha := zm ha; have Zb := zm (c (hon 0 (by kernel_rfl))); have Zc := zm (d (hon 2 (by kernel_rfl))); have Ze := zm (g (hon 3 (by kernel_rfl))); have Zd := zm (j (hon 4 (by kernel_rfl)))
   obtain ⟨I, J, eo_⟩ := Kd.R_slice Zb.out
   subst eo_
   obtain ⟨L, M, eo_⟩ := Kd.R_slice Zc.out
   subst eo_
   obtain ⟨O, T, eo_⟩ := Kd.S_slice Ze.out
   subst eo_
   obtain ⟨U, V, eo_⟩ := Kd.R_slice Zd.out
   subst eo_
   refine value_ (w1 := w') (v := .agg #[.slice I x.length J, .slice L z.length M, .slice O C.length T, .slice U B.length V]) (by rfl) rfl ?_ ?_
   ·go_simp
    (try simp only [i64_w])
    try rfl
   refine hK.out _ _ ⟨.slice I x.length J, .slice L z.length M, .slice O C.length T, .slice U B.length V, own_, (.agg #[.slice I x.length J, .slice L z.length M, .slice O C.length T, .slice U B.length V]), (by rw [ha.out]; exact putSel_upk 4 hb_ rfl rfl rfl), l, s, c, d, g, j, fun h0_ => absurd ((hoff 6 (by kernel_rfl)).symm.trans h0_) (by decide), fun _ => rfl⟩
  refine steps_cons ?_ ?_
  ·rintro b a w' ⟨o, p, q, r, own_, m5_, ha, l, s, c, d, g, j, m, A⟩ hb_ hon hoff
   refine ⟨_, rfl, fun K hK => ?_⟩
   have e2 : a.tmps[2]? = some (.pointer (some ⟨y, 0, none⟩)) := by rw [ha]; exact (putSel_off rfl).trans rfl
   have e8 : a.tmps[8]? = some (m5_) := by rw [ha]; exact putSel_on (e := (5, 8, m5_)) 4 rfl rfl (hon 5 (by kernel_rfl)) rfl
   rw [A (hon 5 (by kernel_rfl))] at e8
   replace ha := zm ha; have Za := zm (l hb_); have HB := zm s; have Zb := zm (c (hon 0 (by kernel_rfl))); have Zc := zm (d (hon 2 (by kernel_rfl))); have Ze := zm (g (hon 3 (by kernel_rfl))); have Zd := zm (j (hon 4 (by kernel_rfl)))
   obtain ⟨d5, d6, c0⟩ := Kd.R_slice Zd.out
   (first | subst c0 | (injection c0 with f1_ f2_ f3_; have f4_ := f1_.symm; have f5_ := f3_.symm; clear f1_ f2_ f3_; subst f4_; subst f5_))
   obtain ⟨d7, d8, c1⟩ := Kd.S_slice Ze.out
   (first | subst c1 | (injection c1 with f1_ f2_ f3_; have f4_ := f1_.symm; have f5_ := f3_.symm; clear f1_ f2_ f3_; subst f4_; subst f5_))
   obtain ⟨d9, e0, c5⟩ := Kd.R_slice Zc.out
   (first | subst c5 | (injection c5 with f1_ f2_ f3_; have f4_ := f1_.symm; have f5_ := f3_.symm; clear f1_ f2_ f3_; subst f4_; subst f5_))
   obtain ⟨e1, e9, c6⟩ := Kd.R_slice Zb.out
   (first | subst c6 | (injection c6 with f1_ f2_ f3_; have f4_ := f1_.symm; have f5_ := f3_.symm; clear f1_ f2_ f3_; subst f4_; subst f5_))
   have g5 : w'.cell? ⟨y, 0, none⟩ = some (.slice none 0 0) := (blk_cell Za.out 0).trans rfl
   have f3 := blk_frozen Za.out 0
   have g6 : w'.cell? ⟨y, 1, none⟩ = some (.slice none 0 0) := (blk_cell Za.out 1).trans rfl
   have f4 := blk_frozen Za.out 1
   have g7 : w'.cell? ⟨y, 2, none⟩ = some (.slice none 0 0) := (blk_cell Za.out 2).trans rfl
   have f5 := blk_frozen Za.out 2
   have g8 : w'.cell? ⟨y, 3, none⟩ = some (.slice none 0 0) := (blk_cell Za.out 3).trans rfl
   have f6 := blk_frozen Za.out 3
   refine skip_ (w1 := ?_) (by rfl) rfl ?_ ?_
   rotate_left
   ·go_simp
    rfl
   refine hK.out _ _ ⟨.slice e1 x.length e9, .slice d9 z.length e0, .slice d7 C.length d8, .slice d5 B.length d6, own_, m5_, (by rw [ha.out]; exact putSel_none (v := undef) rfl), fun h0_ => absurd ((up_self b 6).symm.trans h0_) (by decide), (zg_2 HB.out Zf.out), fun _ => (Kd.R_mono (zR4 (Kd.R_types Zb.out Za.out (by decide))) (fun _ hk => hk.1)), fun _ => (Kd.R_mono (zR4 (Kd.R_types Zc.out Za.out (by decide))) (fun _ hk => hk.1)), fun _ => (Kd.S_mono (zS4 (Kd.S_types Ze.out Za.out (by decide))) (fun _ hk => hk.1)), fun _ => (Kd.R_mono (zR4 (Kd.R_types Zd.out Za.out (by decide))) (fun _ hk => hk.1)), fun _ => (by exact zput4 Za.out), A⟩
  exact steps_nil
 rintro b a g9 hall ⟨o, p, q, r, own_, m5_, ha, l, s, c, d, g, j, m, A⟩
 clear Za HB; have hb0_ := hall 0 (by kernel_rfl); have hb2_ := hall 2 (by kernel_rfl); have hb3_ := hall 3 (by kernel_rfl); have hb4_ := hall 4 (by kernel_rfl); have hb5_ := hall 5 (by kernel_rfl); have hb6_ := hall 6 (by kernel_rfl); subst ha; obtain rfl := A hb5_
 simp only [putSel, hb0_, hb2_, hb3_, hb4_, hb5_, hb6_, if_true, Act.put, zs, zz, zt]
 clear l; have HB := zm s; clear s; have Zb := zm (c hb0_); clear c; have Zc := zm (d hb2_); clear d; have Ze := zm (g hb3_); clear g; have Zd := zm (j hb4_); clear j; have Za := zm (m hb6_); clear m; clear hall hb0_ hb2_ hb3_ hb4_ hb5_ hb6_
 obtain ⟨X, Y, c7⟩ := Kd.R_slice Zd.out
 (first | subst c7 | (injection c7 with f1_ f2_ f3_; have f4_ := f1_.symm; have f5_ := f3_.symm; clear f1_ f2_ f3_; subst f4_; subst f5_))
 obtain ⟨f0, f1, c8⟩ := Kd.S_slice Ze.out
 (first | subst c8 | (injection c8 with f1_ f2_ f3_; have f4_ := f1_.symm; have f5_ := f3_.symm; clear f1_ f2_ f3_; subst f4_; subst f5_))
 obtain ⟨Z, a1, c9⟩ := Kd.R_slice Zc.out
 (first | subst c9 | (injection c9 with f1_ f2_ f3_; have f4_ := f1_.symm; have f5_ := f3_.symm; clear f1_ f2_ f3_; subst f4_; subst f5_))
 obtain ⟨a2, a3, d0⟩ := Kd.R_slice Zb.out
 (first | subst d0 | (injection d0 with f1_ f2_ f3_; have f4_ := f1_.symm; have f5_ := f3_.symm; clear f1_ f2_ f3_; subst f4_; subst f5_))
 have m0_ := zm (Kd.R_mono (ok' := fun k_ => some k_ ≠ (.slice Z z.length a1 : Value).ownBlock ∧ some k_ ≠ (.slice X B.length Y : Value).ownBlock) Zb.out (fun k_ hk_ => ⟨own_ne hk_ Zc.out.1 (by decide), own_ne hk_ Zd.out.1 (by decide)⟩)); have m1_ := zm (Kd.R_mono (ok' := fun k_ => some k_ ≠ (.slice a2 x.length a3 : Value).ownBlock ∧ some k_ ≠ (.slice X B.length Y : Value).ownBlock) Zc.out (fun k_ hk_ => ⟨own_ne hk_ Zb.out.1 (by decide), own_ne hk_ Zd.out.1 (by decide)⟩)); have m2_ := zm (Kd.S_mono (ok' := fun k_ => some k_ ≠ (.slice a2 x.length a3 : Value).ownBlock ∧ some k_ ≠ (.slice Z z.length a1 : Value).ownBlock ∧ some k_ ≠ (.slice X B.length Y : Value).ownBlock) Ze.out (fun k_ hk_ => ⟨own_ne hk_ Zb.out.1 (by decide), own_ne hk_ Zc.out.1 (by decide), own_ne hk_ Zd.out.1 (by decide)⟩)); have m3_ := zm (Kd.R_mono (ok' := fun k_ => some k_ ≠ (.slice a2 x.length a3 : Value).ownBlock ∧ some k_ ≠ (.slice Z z.length a1 : Value).ownBlock) Zd.out (fun k_ hk_ => ⟨own_ne hk_ Zb.out.1 (by decide), own_ne hk_ Zc.out.1 (by decide)⟩)); clear Zb Zc Ze Zd; have Zb := m0_; have Zc := m1_; have Ze := m2_; have Zd := m3_; clear m0_ m1_ m2_ m3_
 try go_wp2
 refine bodyPost_ret (results_cell_row rfl _ _ y 26 #[.slice a2 x.length a3, .slice Z z.length a1, .slice f0 C.length f1, .slice X B.length Y] (0, 0) _ rfl (zg_3 Za.out) Tryz.underlying26 rfl (by kernel_rfl)) rfl ?_
 exact ⟨_, _, _, _, ze, by (with_reducible repeat (first | apply Kd.R_alloc | apply Kd.R_drewN | apply Kd.R_drew)); exact Zb.out, by (with_reducible repeat (first | apply Kd.R_alloc | apply Kd.R_drewN | apply Kd.R_drew)); exact Zc.out, by (with_reducible repeat (first | apply Kd.S_alloc | apply Kd.S_drewN | apply Kd.S_drew)); exact Ze.out, by (with_reducible repeat (first | apply Kd.R_alloc | apply Kd.R_drewN | apply Kd.R_drew)); exact Zd.out, zg_2 HB.out Zf.out⟩
def spec_l09Resize.l0 : Nat → List Int → Int → List Int → Int → Option (List Int)
  | 0, _, _, _, _ => none
  | k + 1, x0, x1, x5, x6 => if x6 < x1 then (if x6 < (x0.length : Int) then (if 0 ≤ x6 then (if x5.length < 17592186044416 then (spec_l09Resize.l0 k x0 x1 (x5 ++ [rd x0 x6]) (wrap64 (x6 + 1))) else (none)) else (none)) else (if x5.length < 17592186044416 then (spec_l09Resize.l0 k x0 x1 (x5 ++ [0]) (wrap64 (x6 + 1))) else (none))) else (some x5)
def spec_l09Resize.f (k : Nat) (l0 : List Int) (a1 : Int) : Option (List Int) := spec_l09Resize.l0 k l0 a1 (([] : List Int)) 0
theorem spec_l09Resize.mono_l : ∀ k, (∀ y0 y1 y2 y3, LeO (spec_l09Resize.l0 k y0 y1 y2 y3) (spec_l09Resize.l0 (k + 1) y0 y1 y2 y3))
  | 0 => fun _ _ _ _ r h => by simp [spec_l09Resize.l0] at h
  | k + 1 => by
    have ih0 := spec_l09Resize.mono_l k
    · intro y0 y1 y2 y3
      unfold spec_l09Resize.l0
      repeat' first| (with_reducible first | exact ih0 _ _ _ _ | exact LeO.refl _ | exact LeO.none _ | refine LeO.ite ?_ ?_ | refine LeO.bind ?_ (fun _ => ?_)) | exact ih0 _ _ _ _ | exact LeO.none _ | refine LeO.ite ?_ ?_ | refine LeO.bind ?_ (fun _ => ?_)
theorem spec_l09Resize.mono : ∀ a0 a1 k, LeO (spec_l09Resize.f k a0 a1) (spec_l09Resize.f (k + 1) a0 a1) := by
  intro a0 a1 k
  have ih0 := spec_l09Resize.mono_l k
  unfold spec_l09Resize.f
  repeat' first| (with_reducible first | exact ih0 _ _ _ _ | exact LeO.refl _ | exact LeO.none _ | refine LeO.ite ?_ ?_ | refine LeO.bind ?_ (fun _ => ?_)) | exact ih0 _ _ _ _ | exact LeO.none _ | refine LeO.ite ?_ ?_ | refine LeO.bind ?_ (fun _ => ?_)
set_option maxHeartbeats 8000000 in
set_option maxRecDepth 100000 in
theorem spec_l09Resize.calls (k : Nat) (T : Option Addr) (U : Nat) (d : List Int) (a1 : Int) (r : List Int) (w : World) (G : Kd.C (Kd.int .i64) w T d.length d) (I : d.length ≤ U) (h : spec_l09Resize.f k d a1 = some r) :
    Calls Tryz.prog 49 #[.slice T d.length U, .int .i64 a1] w fun e w' => ∃ J : Value, e = .returned (J) ∧ Kd.R (Kd.int .i64) 3 w' w.heap.size (fun _ => True) J r ∧ Below w.heap.size w w' := by
 have V := zm G; have a7 := zm I; clear G I; have HB := zm (Below.refl w.heap.size w)
 have H : (spec_l09Resize.l0 k d a1 (([] : List Int)) 0) = some r := h
 clear h
 obtain ⟨x, j⟩ : ∃ y_ : List Int, y_ = (([] : List Int)) := ⟨_, rfl⟩
 replace H : (spec_l09Resize.l0 k d a1 x 0) = some r := zy H j
 have q := zm j; clear j
 have H' := zm H
 clear H
 go_enter Tryz.func49, Tryz.ntmps49
 go_wp2_with (first | ((with_reducible refine gate_dst (N := 7) rfl ?_); refine Kd.R_lit (Kd.int .i64) _ 3 ?hg (N := 7) ?hd (xs := ([] : List Int)) (inner := []) (ok := fun _ => True) (okp := fun _ => True) ?hr ?hp (fun _ hk => hk) trivial (Below.refl _ _) (Nat.le_refl _) (by simp) ?_; (case hd => rfl); (case hg => rfl); (case hr => first | (go_simp; done) | (go_simp; rfl)); (case hp => exact (Reps.none _ _)); intro Y w3 n hb hg_ hnew_; clear hg_ hnew_; (first | rw [← q.out] at n | (simp only [Int.reduceToNat] at n; rw [← q.out] at n)); have g := zm (Kd.R_lower n (below_size (zg_1 HB.out))); have i := zm (below_step (zg_1 HB.out) hb); have Zb := g; replace HB := i; clear g i; clear hb n))
 go_loopg [5, 6] k (fun kq Z v6 w' => ∃ (c : List Int) (a : Int), v6 = .int .i64 a ∧ Aside0 (spec_l09Resize.l0 kq d a1 c a = some r) ∧ Aside0 (kq ≤ k) ∧ Aside0 (Kd.R (Kd.int .i64) 3 w' w.heap.size (fun _ => True) Z c) ∧ Aside0 (Below w.heap.size w w'))
 case atStart => exact ⟨(x), (0), zr, H', ⟨Nat.le_refl _⟩, ⟨zlR Zb.out⟩, ⟨zg_1 HB.out⟩⟩
 case round =>
  clear H'
  try clear p2
  try clear c4
  obtain ⟨c, a, rfl, HA, s, Za, HB⟩ := hrel
  cases gk with
  | zero => exact absurd HA.out (by simp [spec_l09Resize.l0])
  | succ k1 =>
   have H := HA.out; clear HA
   simp only [spec_l09Resize.l0] at H
   by_cases u : a < a1
   rotate_left
   ·rw [if_neg u] at H
    have L := decide_eq_false u; clear u; obtain rfl := Option.some.inj H
    go_wp2
    go_ret
    exact ⟨_, ze, by (with_reducible repeat (first | apply Kd.R_alloc | apply Kd.R_drewN | apply Kd.R_drew)); exact Za.out, zg_1 HB.out⟩
   rw [if_pos u] at H; have L := decide_eq_true u; clear u
   by_cases v : a < (d.length : Int)
   rotate_left
   ·rw [if_neg v] at H
    have M := decide_eq_false v; clear v
    by_cases t : c.length < 17592186044416
    rotate_left
    ·rw [if_neg t] at H
     exact absurd H (by simp)
    rw [if_pos t] at H; have A := zm t; clear t
    obtain ⟨y, l⟩ : ∃ y_ : List Int, y_ = (c ++ [0]) := ⟨_, rfl⟩
    replace H : (spec_l09Resize.l0 k1 d a1 y (wrap64 (a + 1))) = some r := zy H l
    have B := zm l; clear l
    have H' := zm H
    clear H
    go_wp2_with (first | ((with_reducible refine gate_builtin (b := .append) (xs := #[.tmp 24, .tmp 25]) rfl ?_); at_builtin; refine Kd.R_append (Kd.int .i64) (w0 := w) w.heap.size rfl (.tmp 24) (.tmp 25) 23 3 (.int .i64 0) 8 rfl Tryz.underlying23 info3 rfl (by decide) (by omega) u5 c 0 [.int .i64 0] (fun _ => True) (fun _ => False) rfl rfl ?aP (fun _ hk => hk.elim) ?aF ?aO ?aB ?aS ?aL ?_; (case aP => exact rfl); (case aB => exact (zg_1 HB.out)); (case aF => exact (fun _ _ => trivial)); (case aO => exact (zg_6 Za.out)); (case aS => exact (below_size (zg_1 HB.out))); (case aL => have := A.out; omega); intro a4 a8 ho hb hg hat; rw [← B.out] at ho; have g := zm (hb); have i := zm (ho); clear Za; replace HB := g; have Zd := i; clear g i; clear ho hb hg hat))
    go_roundg k1
    case measure => have := s.out; omega
    case rel => exact ⟨(y), (wrap64 (a + 1)), zr, H', ⟨by have := s.out; omega⟩, ⟨zlR Zd.out⟩, ⟨zg_1 HB.out⟩⟩
   rw [if_pos v] at H; have M := decide_eq_true v; clear v
   by_cases D : 0 ≤ a
   rotate_left
   ·rw [if_neg D] at H
    exact absurd H (by simp)
   rw [if_pos D] at H; have a5 := decide_eq_true D; clear D
   by_cases E : c.length < 17592186044416
   rotate_left
   ·rw [if_neg E] at H
    exact absurd H (by simp)
   rw [if_pos E] at H; have O := zm E; clear E
   obtain ⟨z, m⟩ : ∃ y_ : List Int, y_ = (c ++ [rd d a]) := ⟨_, rfl⟩
   replace H : (spec_l09Resize.l0 k1 d a1 z (wrap64 (a + 1))) = some r := zy H m
   have F := zm m; clear m
   have H' := zm H
   clear H
   have o : 0 ≤ (a : Int) := zd
   have p : a < (d.length : Int) := zd
   obtain ⟨X, S, hx355_0⟩ := Kd.at_int V.out a o p
   cases S; replace hx355_0 := (HB.out.cell (World.block_lt_of_cell? w _ hx355_0)).trans hx355_0; replace o := eq_true o; replace p := eq_true p
   go_wp2_with (first | ((with_reducible refine gate_builtin (b := .append) (xs := #[.tmp 17, .tmp 22]) rfl ?_); at_builtin; refine Kd.R_append (Kd.int .i64) (w0 := w) w.heap.size rfl (.tmp 17) (.tmp 22) 23 3 (.int .i64 0) 8 rfl Tryz.underlying23 info3 rfl (by decide) (by omega) u5 c (rd d a) [.int .i64 (rd d a)] (fun _ => True) (fun _ => False) rfl rfl ?aP (fun _ hk => hk.elim) ?aF ?aO ?aB ?aS ?aL ?_; (case aP => exact rfl); (case aB => exact (zg_1 HB.out)); (case aF => exact (fun _ _ => trivial)); (case aO => exact (zg_6 Za.out)); (case aS => exact (below_size (zg_1 HB.out))); (case aL => have := O.out; omega); intro a6 w9 ho hb hg hat; rw [← F.out] at ho; have g := zm (hb); have i := zm (ho); clear Za; replace HB := g; have Zc := i; clear g i; clear ho hb hg hat))
   go_roundg k1
   case measure => have := s.out; omega
   case rel => exact ⟨(z), (wrap64 (a + 1)), zr, H', ⟨by have := s.out; omega⟩, ⟨zlR Zc.out⟩, ⟨zg_1 HB.out⟩⟩
def spec_l10Drop.f (l0_0 : List Int) (l0_1 : List Int) (l0_2 : List (S66)) (l0_3 : List Int) (a1 : Int) : Option (List Int × List Int × (List (S66)) × List Int) := if a1 < 2 then (some (l0_0, l0_1, l0_2, l0_3)) else (if 0 ≤ (wrap64 (a1 - 2)) then (if (wrap64 (a1 - 2)) < (l0_0.length : Int) then ((some (l0_0.set ((wrap64 (a1 - 2)) : Int).toNat (wrap64 ((rd l0_0 (wrap64 (a1 - 2))) - 1)) : List Int)).bind fun y246 => (if (rd y246 (wrap64 (a1 - 2))) = 0 then (if (wrap64 (a1 - 2)) < (l0_3.length : Int) then (some (y246, l0_1, l0_2, (l0_3.set ((wrap64 (a1 - 2)) : Int).toNat 0))) else (none)) else (some (y246, l0_1, l0_2, l0_3)))) else (none)) else (none))
set_option maxHeartbeats 8000000 in
set_option maxRecDepth 100000 in
theorem spec_l10Drop.calls (a : Nat → Prop) (T : Value) (i : List Int) (b : Nat → Prop) (U : Value) (m : List Int) (c : Nat → Prop) (b8 : Value) (q : List (S66)) (d : Nat → Prop) (V : Value) (j : List Int) (a1 : Int) (r1 : List Int) (r2 : List Int) (r3 : List (S66)) (r4 : List Int) (I w : World) (hB : Below I.heap.size I w) (b4 : Kd.R (Kd.int .i64) 3 w I.heap.size a T i) (d0 : ∀ k_, a k_ → ¬ b k_) (h3 : ∀ k_, a k_ → ¬ c k_) (d1 : ∀ k_, a k_ → ¬ d k_) (b5 : Kd.R (Kd.int .i64) 3 w I.heap.size b U m) (d2 : ∀ k_, b k_ → ¬ a k_) (h4 : ∀ k_, b k_ → ¬ c k_) (d3 : ∀ k_, b k_ → ¬ d k_) (g8 : Kd.S k66 66 w I.heap.size c b8 q) (d4 : ∀ k_, c k_ → ¬ a k_) (d5 : ∀ k_, c k_ → ¬ b k_) (d6 : ∀ k_, c k_ → ¬ d k_) (b6 : Kd.R (Kd.int .i64) 3 w I.heap.size d V j) (d7 : ∀ k_, d k_ → ¬ a k_) (d8 : ∀ k_, d k_ → ¬ b k_) (h5 : ∀ k_, d k_ → ¬ c k_) (h : spec_l10Drop.f i m q j a1 = some (r1, r2, r3, r4)) :
    Calls Tryz.prog 48 #[.agg #[T, U, b8, V], .int .i64 a1] w fun e w' => ∃ d9 e0 h6 e1 : Value, e = .returned (.agg #[d9, e0, h6, e1]) ∧ Kd.R (Kd.int .i64) 3 w' I.heap.size (fun k_ => ((a k_ ∨ b k_ ∨ c k_ ∨ d k_) ∨ w.heap.size ≤ k_) ∧ some k_ ≠ (e0 : Value).ownBlock ∧ some k_ ≠ (e1 : Value).ownBlock) d9 r1 ∧ Kd.R (Kd.int .i64) 3 w' I.heap.size (fun k_ => ((a k_ ∨ b k_ ∨ c k_ ∨ d k_) ∨ w.heap.size ≤ k_) ∧ some k_ ≠ (d9 : Value).ownBlock ∧ some k_ ≠ (e1 : Value).ownBlock) e0 r2 ∧ Kd.S k66 66 w' I.heap.size (fun k_ => ((a k_ ∨ b k_ ∨ c k_ ∨ d k_) ∨ w.heap.size ≤ k_) ∧ some k_ ≠ (d9 : Value).ownBlock ∧ some k_ ≠ (e0 : Value).ownBlock ∧ some k_ ≠ (e1 : Value).ownBlock) h6 r3 ∧ Kd.R (Kd.int .i64) 3 w' I.heap.size (fun k_ => ((a k_ ∨ b k_ ∨ c k_ ∨ d k_) ∨ w.heap.size ≤ k_) ∧ some k_ ≠ (d9 : Value).ownBlock ∧ some k_ ≠ (e0 : Value).ownBlock) e1 r4 ∧ Below I.heap.size I w' ∧ Kept w w' (fun k_ => a k_ ∨ b k_ ∨ c k_ ∨ d k_) := by
 have hu26 := Tryz.underlying26; have Zb := zm (show Kd.R (Kd.int .i64) 3 w I.heap.size (fun k_ => ((a k_ ∨ b k_ ∨ c k_ ∨ d k_) ∨ w.heap.size ≤ k_) ∧ some k_ ≠ (U : Value).ownBlock ∧ some k_ ≠ (V : Value).ownBlock) T i from Kd.R_mono b4 (fun k_ hk => ⟨(.inl (.inl hk)), fun e_ => d0 k_ hk (b5.1 k_ e_.symm), fun e_ => d1 k_ hk (b6.1 k_ e_.symm)⟩)); have Ze := zm (show Kd.R (Kd.int .i64) 3 w I.heap.size (fun k_ => ((a k_ ∨ b k_ ∨ c k_ ∨ d k_) ∨ w.heap.size ≤ k_) ∧ some k_ ≠ (T : Value).ownBlock ∧ some k_ ≠ (V : Value).ownBlock) U m from Kd.R_mono b5 (fun k_ hk => ⟨(.inl (.inr (.inl hk))), fun e_ => d2 k_ hk (b4.1 k_ e_.symm), fun e_ => d3 k_ hk (b6.1 k_ e_.symm)⟩)); have Zf := zm (show Kd.S k66 66 w I.heap.size (fun k_ => ((a k_ ∨ b k_ ∨ c k_ ∨ d k_) ∨ w.heap.size ≤ k_) ∧ some k_ ≠ (T : Value).ownBlock ∧ some k_ ≠ (U : Value).ownBlock ∧ some k_ ≠ (V : Value).ownBlock) b8 q from Kd.S_mono g8 (fun k_ hk => ⟨(.inl (.inr (.inr (.inl hk)))), fun e_ => d4 k_ hk (b4.1 k_ e_.symm), fun e_ => d5 k_ hk (b5.1 k_ e_.symm), fun e_ => d6 k_ hk (b6.1 k_ e_.symm)⟩)); have Zd := zm (show Kd.R (Kd.int .i64) 3 w I.heap.size (fun k_ => ((a k_ ∨ b k_ ∨ c k_ ∨ d k_) ∨ w.heap.size ≤ k_) ∧ some k_ ≠ (T : Value).ownBlock ∧ some k_ ≠ (U : Value).ownBlock) V j from Kd.R_mono b6 (fun k_ hk => ⟨(.inl (.inr (.inr (.inr hk)))), fun e_ => d7 k_ hk (b4.1 k_ e_.symm), fun e_ => d8 k_ hk (b5.1 k_ e_.symm)⟩)); have HK := zm (Kept.refl w (fun k_ => a k_ ∨ b k_ ∨ c k_ ∨ d k_)); have k3 := zm hB.size; have HB := zm hB; clear hB; have H := h
 unfold spec_l10Drop.f at H
 clear h
 by_cases c3 : a1 < 2
 ·rw [if_pos c3] at H
  have h9 := decide_eq_true c3; clear c3
  simp only [Option.some.injEq, Prod.mk.injEq] at H
  obtain ⟨rfl, rfl, rfl, rfl⟩ := H
  obtain ⟨e2, e3, i9⟩ := Kd.R_slice Zb.out
  subst i9
  obtain ⟨e4, e5, j0⟩ := Kd.R_slice Ze.out
  subst j0
  obtain ⟨e6, e7, j1⟩ := Kd.S_slice Zf.out
  subst j1
  obtain ⟨e8, e9, j2⟩ := Kd.R_slice Zd.out
  subst j2
  go_enter Tryz.func48, Tryz.ntmps48
  go_wp2_with (first | ((with_reducible refine gate_dst (N := 2) rfl ?_); refine box_event ?hg (N := 2) ?hd (cs := #[.slice e2 i.length e3, .slice e4 m.length e5, .slice e6 q.length e7, .slice e8 j.length e9]) (t := 26) ?hr ?_; (case hd => rfl); (case hg => rfl); (case hr => first | (go_simp; done) | (go_simp; rfl)); intro n hg w8 hbox hb; have s := zm (Kd.R_below (zg_6 Zb.out) hb); have u := zm (Kd.R_below (zg_6 Ze.out) hb); have x := zm (Kd.S_below (zg_11 Zf.out) hb); have y := zm (Kd.R_below (zg_6 Zd.out) hb); have z := zm (Kept.below (S := (fun k_ => a k_ ∨ b k_ ∨ c k_ ∨ d k_)) (zg_12 HK.out) hb); have A := zm (below_step (zg_1 HB.out) hb); have B := zm (hbox); have C := zm ((by rw [hg]; exact (by first | exact HK.out.1 | exact (show Kept w _ (fun k_ => a k_ ∨ b k_ ∨ c k_ ∨ d k_) from zg_12 HK.out).1) : w.heap.size ≤ n)); have O := zm ((by rw [hg]; exact (below_size (zg_1 HB.out)) : I.heap.size ≤ n)); replace Zb := s; replace Ze := u; replace Zf := x; replace Zd := y; replace HK := z; replace HB := A; have Za := B; have Zg := C; have Zj := O; clear s u x y z A B C O; clear hb hbox hg) | ((with_reducible refine gate_dst (N := 4) rfl ?_); refine box_event ?hg (N := 4) ?hd (cs := #[.slice none 0 0, .slice none 0 0, .slice none 0 0, .slice none 0 0]) (t := 26) ?hr ?_; (case hd => rfl); (case hg => rfl); (case hr => first | (go_simp; done) | (go_simp; rfl)); intro r hg w9 hbox hb; have s := zm (Kd.R_below (zg_6 Zb.out) hb); have u := zm (Kd.R_below (zg_6 Ze.out) hb); have x := zm (Kd.S_below (zg_11 Zf.out) hb); have y := zm (Kd.R_below (zg_6 Zd.out) hb); have z := zm (blk_below (g := n) (o := .cells #[.slice e2 i.length e3, .slice e4 m.length e5, .slice e6 q.length e7, .slice e8 j.length e9] 26 (0, 0)) (zg_3 Za.out) hb); have A := zm (Kept.below (S := (fun k_ => a k_ ∨ b k_ ∨ c k_ ∨ d k_)) (zg_13 HK.out Zg.out) hb); have B := zm (below_step (zg_2 HB.out Zj.out) hb); have C := zm (hbox); have O := zm ((by rw [hg]; exact (by first | exact HK.out.1 | exact (show Kept w _ (fun k_ => a k_ ∨ b k_ ∨ c k_ ∨ d k_) from zg_13 HK.out Zg.out).1) : w.heap.size ≤ r)); have b3 := zm ((by rw [hg]; exact (below_size (zg_2 HB.out Zj.out)) : I.heap.size ≤ r)); have a2 := zm ((by rw [hg]; exact Nat.ne_of_lt (blk_lt (g := n) (o := .cells #[.slice e2 i.length e3, .slice e4 m.length e5, .slice e6 q.length e7, .slice e8 j.length e9] 26 (0, 0)) (zg_3 Za.out)) : n ≠ r)); have a3 := zm ((by rw [hg]; exact Nat.ne_of_gt (blk_lt (g := n) (o := .cells #[.slice e2 i.length e3, .slice e4 m.length e5, .slice e6 q.length e7, .slice e8 j.length e9] 26 (0, 0)) (zg_3 Za.out)) : r ≠ n)); replace Zb := s; replace Ze := u; replace Zf := x; replace Zd := y; replace Za := z; replace HK := A; replace HB := B; have Zc := C; have Zk := O; have Zl := b3; have Zh := a2; have Zi := a3; clear s u x y z A B C O b3 a2 a3; clear hb hbox hg; have j3 := Zh.out; have j4 := Zi.out; obtain ⟨_, _, _, _, _, _, _, _⟩ := zb4 Za.out; obtain ⟨_, _, _, _, _, _, _, _⟩ := zb4 Zc.out))
  refine bodyPost_ret (results_cell_row rfl _ _ r 26 #[.slice e2 i.length e3, .slice e4 m.length e5, .slice e6 q.length e7, .slice e8 j.length e9] (0, 0) _ rfl (by exact zput4 Zc.out) Tryz.underlying26 rfl (by kernel_rfl)) rfl ?_
  exact ⟨_, _, _, _, ze, Kd.R_mono (zR4 (Kd.R_types Zb.out Zc.out (by decide))) (fun _ hk => ⟨hk.1.1, ⟨hk.1.2.1, hk.1.2.2⟩⟩), Kd.R_mono (zR4 (Kd.R_types Ze.out Zc.out (by decide))) (fun _ hk => ⟨hk.1.1, ⟨hk.1.2.1, hk.1.2.2⟩⟩), Kd.S_mono (zS4 (Kd.S_types Zf.out Zc.out (by decide))) (fun _ hk => ⟨hk.1.1, ⟨hk.1.2.1, ⟨hk.1.2.2.1, hk.1.2.2.2⟩⟩⟩), Kd.R_mono (zR4 (Kd.R_types Zd.out Zc.out (by decide))) (fun _ hk => ⟨hk.1.1, ⟨hk.1.2.1, hk.1.2.2⟩⟩), zg_5 HB.out Zj.out Zl.out, zg_14 HK.out Zg.out Zk.out⟩
 rw [if_neg c3] at H; have h9 := decide_eq_false c3; clear c3
 obtain ⟨ji13, hji13⟩ : ∃ j_ : Int, (wrap64 (a1 - 2)) = j_ := ⟨_, rfl⟩
 replace H : (if 0 ≤ (ji13) then (if (ji13) < (i.length : Int) then ((some (i.set ((ji13) : Int).toNat (wrap64 ((rd i (ji13)) - 1)) : List Int)).bind fun E => (if (rd E (ji13)) = 0 then (if (ji13) < (j.length : Int) then (some (E, m, q, (j.set ((ji13) : Int).toNat 0))) else (none)) else (some (E, m, q, j)))) else (none)) else (none)) = some (r1, r2, r3, r4) := by first | (rw [hji13] at H; exact H) | (simp only [hji13] at H ⊢; exact H)
 have hji13w : (IntKind.i64.wrap (a1 - 2)) = ji13 := (i64_w _).trans hji13
 by_cases f3 : 0 ≤ (ji13)
 rotate_left
 ·rw [if_neg f3] at H
  exact absurd H (by simp)
 rw [if_pos f3] at H; have j5 := decide_eq_true f3; clear f3
 by_cases f4 : (ji13) < (i.length : Int)
 rotate_left
 ·rw [if_neg f4] at H
  exact absurd H (by simp)
 rw [if_pos f4] at H; have j6 := decide_eq_true f4; clear f4
 obtain ⟨E, c5⟩ : ∃ y_ : List Int, y_ = (i.set ((ji13) : Int).toNat (wrap64 ((rd i (ji13)) - 1))) := ⟨_, rfl⟩
 replace H : (if (rd E (ji13)) = 0 then (if (ji13) < (j.length : Int) then (some (E, m, q, (j.set ((ji13) : Int).toNat 0))) else (none)) else (some (E, m, q, j))) = some (r1, r2, r3, r4) := zy H c5
 have b7 := zm c5; clear c5
 by_cases b9 : (rd E (ji13)) = 0
 rotate_left
 ·rw [if_neg b9] at H
  have g9 : ((rd E (ji13)) == 0) = false := beq_eq_false_iff_ne.mpr b9
  have h0 : ((rd E (ji13)) != 0) = true := bne_iff_ne.mpr b9
  simp only [Option.some.injEq, Prod.mk.injEq] at H
  obtain ⟨rfl, rfl, rfl, rfl⟩ := H
  obtain ⟨c6, M, i0⟩ := Kd.R_slice Zb.out
  subst i0
  obtain ⟨X, Y, i1⟩ := Kd.R_slice Ze.out
  subst i1
  obtain ⟨b1, b2, i2⟩ := Kd.S_slice Zf.out
  subst i2
  obtain ⟨Z, a0, i3⟩ := Kd.R_slice Zd.out
  subst i3
  go_enter Tryz.func48, Tryz.ntmps48
  go_wp2_with (first | ((with_reducible refine gate_dst (N := 2) rfl ?_); refine box_event ?hg (N := 2) ?hd (cs := #[.slice c6 i.length M, .slice X m.length Y, .slice b1 q.length b2, .slice Z j.length a0]) (t := 26) ?hr ?_; (case hd => rfl); (case hg => rfl); (case hr => first | (go_simp; done) | (go_simp; rfl)); intro n hg k4 hbox hb; have s := zm (Kd.R_below (zg_6 Zb.out) hb); have u := zm (Kd.R_below (zg_6 Ze.out) hb); have x := zm (Kd.S_below (zg_11 Zf.out) hb); have y := zm (Kd.R_below (zg_6 Zd.out) hb); have z := zm (Kept.below (S := (fun k_ => a k_ ∨ b k_ ∨ c k_ ∨ d k_)) (zg_12 HK.out) hb); have A := zm (below_step (zg_1 HB.out) hb); have B := zm (hbox); have C := zm ((by rw [hg]; exact (by first | exact HK.out.1 | exact (show Kept w _ (fun k_ => a k_ ∨ b k_ ∨ c k_ ∨ d k_) from zg_12 HK.out).1) : w.heap.size ≤ n)); have O := zm ((by rw [hg]; exact (below_size (zg_1 HB.out)) : I.heap.size ≤ n)); replace Zb := s; replace Ze := u; replace Zf := x; replace Zd := y; replace HK := z; replace HB := A; have Za := B; have Zg := C; have Zj := O; clear s u x y z A B C O; clear hb hbox hg) | ((with_reducible refine gate_dst (N := 4) rfl ?_); refine box_event ?hg (N := 4) ?hd (cs := #[.slice none 0 0, .slice none 0 0, .slice none 0 0, .slice none 0 0]) (t := 26) ?hr ?_; (case hd => rfl); (case hg => rfl); (case hr => first | (go_simp; done) | (go_simp; rfl)); intro r hg h7 hbox hb; have s := zm (Kd.R_below (zg_6 Zb.out) hb); have u := zm (Kd.R_below (zg_6 Ze.out) hb); have x := zm (Kd.S_below (zg_11 Zf.out) hb); have y := zm (Kd.R_below (zg_6 Zd.out) hb); have z := zm (blk_below (g := n) (o := .cells #[.slice c6 i.length M, .slice X m.length Y, .slice b1 q.length b2, .slice Z j.length a0] 26 (0, 0)) (zg_3 Za.out) hb); have A := zm (Kept.below (S := (fun k_ => a k_ ∨ b k_ ∨ c k_ ∨ d k_)) (zg_13 HK.out Zg.out) hb); have B := zm (below_step (zg_2 HB.out Zj.out) hb); have C := zm (hbox); have O := zm ((by rw [hg]; exact (by first | exact HK.out.1 | exact (show Kept w _ (fun k_ => a k_ ∨ b k_ ∨ c k_ ∨ d k_) from zg_13 HK.out Zg.out).1) : w.heap.size ≤ r)); have b3 := zm ((by rw [hg]; exact (below_size (zg_2 HB.out Zj.out)) : I.heap.size ≤ r)); have a2 := zm ((by rw [hg]; exact Nat.ne_of_lt (blk_lt (g := n) (o := .cells #[.slice c6 i.length M, .slice X m.length Y, .slice b1 q.length b2, .slice Z j.length a0] 26 (0, 0)) (zg_3 Za.out)) : n ≠ r)); have a3 := zm ((by rw [hg]; exact Nat.ne_of_gt (blk_lt (g := n) (o := .cells #[.slice c6 i.length M, .slice X m.length Y, .slice b1 q.length b2, .slice Z j.length a0] 26 (0, 0)) (zg_3 Za.out)) : r ≠ n)); replace Zb := s; replace Ze := u; replace Zf := x; replace Zd := y; replace Za := z; replace HK := A; replace HB := B; have Zc := C; have Zk := O; have Zl := b3; have Zh := a2; have Zi := a3; clear s u x y z A B C O b3 a2 a3; clear hb hbox hg; have j7 := Zh.out; have j8 := Zi.out; obtain ⟨_, _, _, _, _, _, _, _⟩ := zb4 Za.out; have a5 : 0 ≤ ((ji13) : Int) := zd; have a6 : (ji13) < (i.length : Int) := zd; obtain ⟨h1, f1, hx245_0⟩ := Kd.at_int (Kd.R_reads' Zb.out).2.2 (ji13) a5 a6; cases f1; replace a5 := eq_true a5; replace a6 := eq_true a6; have c0 : 0 ≤ ((ji13) : Int) := zd; have c1 : ((ji13) : Int) < ((i.length : Int) : Int) := zd; obtain ⟨l, i4, c2, c4, gl16, cl16, HG16⟩ := Kd.R_form Zb.out (by omega); (first | cases c2 | (injection c2 with ea_ en_ ec_; (first | subst ea_ | (injection ea_ with ea_; subst ea_)); subst ec_; clear en_)); have GB16 := zm c4; have Zp := zm HG16; clear c4 gl16 HG16; have HMgo16 := zm (show ((a l ∨ b l ∨ c l ∨ d l) ∨ w.heap.size ≤ l) from (Zb.out.1 _ rfl).1); (first | simp only [add_plain] at hx245_0 | skip); obtain ⟨hx16_0, hf16_0⟩ := Kd.R_celln 0 Zb.out ((ji13) : Int) c0 c1; replace c0 := eq_true c0; replace c1 := eq_true c1; obtain ⟨hy43_, hz43_⟩ := Kd.R_celln 0 Zb.out ((ji13) : Int) (zd) (zd); have Zo := Kd.R_putg Zb.out ((ji13) : Int) (wrap64 ((rd i (ji13)) - 1))) | ((with_reducible refine gate_store (t := 3) (p := 17) rfl ?_); refine store_event (t := 3) (p := 17) (v := ?vo_w44) (w1 := (h7.setCell ⟨l, ((ji13) : Int).toNat, none⟩ (.int .i64 (wrap64 ((rd i (ji13)) - 1))))) ?hg ?ho ?hn ?hr ?_; (case ho => rfl); (case hg => rfl); (case hn => rfl); (case hr => first | (go_simp; done) | (go_simp; rfl)); intro g1 hw; have hg : h7.grownBy g1 (some l) := (by rw [hw]; exact Zo.2); have hp_ : Kd.R (Kd.int .i64) 3 g1 I.heap.size (fun k_ => ((a k_ ∨ b k_ ∨ c k_ ∨ d k_) ∨ w.heap.size ≤ k_) ∧ some k_ ≠ (.slice X m.length Y : Value).ownBlock ∧ some k_ ≠ (.slice Z j.length a0 : Value).ownBlock) (.slice (some ⟨l, 0, none⟩) i.length M) E := (by rw [hw, b7.out]; exact Zo.1); clear Zo; have s := zm (hp_); have u := zm (Kd.R_after (v := (.slice (some ⟨l, 0, none⟩) i.length M)) (v1 := (.slice (some ⟨l, 0, none⟩) i.length M)) (ok := (fun k_ => ((a k_ ∨ b k_ ∨ c k_ ∨ d k_) ∨ w.heap.size ≤ k_) ∧ some k_ ≠ (.slice Z j.length a0 : Value).ownBlock)) (by (with_reducible repeat (first | apply Kd.R_alloc | apply Kd.R_drewN | apply Kd.R_drew)); exact Kd.R_mono Ze.out (fun _ hk => ⟨⟨hk.1, hk.2.2⟩, hk.2.1⟩)) hg (.inl rfl)); have x := zm (Kd.S_after (v := (.slice (some ⟨l, 0, none⟩) i.length M)) (v1 := (.slice (some ⟨l, 0, none⟩) i.length M)) (ok := (fun k_ => ((a k_ ∨ b k_ ∨ c k_ ∨ d k_) ∨ w.heap.size ≤ k_) ∧ some k_ ≠ (.slice X m.length Y : Value).ownBlock ∧ some k_ ≠ (.slice Z j.length a0 : Value).ownBlock)) (by (with_reducible repeat (first | apply Kd.S_alloc | apply Kd.S_drewN | apply Kd.S_drew)); exact Kd.S_mono Zf.out (fun _ hk => ⟨⟨hk.1, ⟨hk.2.2.1, hk.2.2.2⟩⟩, hk.2.1⟩)) hg (.inl rfl)); have y := zm (Kd.R_after (v := (.slice (some ⟨l, 0, none⟩) i.length M)) (v1 := (.slice (some ⟨l, 0, none⟩) i.length M)) (ok := (fun k_ => ((a k_ ∨ b k_ ∨ c k_ ∨ d k_) ∨ w.heap.size ≤ k_) ∧ some k_ ≠ (.slice X m.length Y : Value).ownBlock)) (by (with_reducible repeat (first | apply Kd.R_alloc | apply Kd.R_drewN | apply Kd.R_drew)); exact Kd.R_mono Zd.out (fun _ hk => ⟨⟨hk.1, hk.2.2⟩, hk.2.1⟩)) hg (.inl rfl)); have z := zm (blk_grown (g := n) (o := .cells #[.slice (some ⟨l, 0, none⟩) i.length M, .slice X m.length Y, .slice b1 q.length b2, .slice Z j.length a0] 26 (0, 0)) (zg_3 Za.out) hg (Kd.R_ne Zb.out Za.out (by decide))); have A := zm (blk_grown (g := r) (o := .cells #[.slice none 0 0, .slice none 0 0, .slice none 0 0, .slice none 0 0] 26 (0, 0)) (zg_3 Zc.out) hg (Kd.R_ne Zb.out Zc.out (by decide))); have B := zm ((by rw [hw]; exact below_set (HB.out) GB16.out : Below I.heap.size I g1)); have C := zm (Kept.of_grown (S := (fun k_ => a k_ ∨ b k_ ∨ c k_ ∨ d k_)) hg (zg_14 HK.out Zg.out Zk.out) (fun k_ e_ => (Zb.out.1 k_ e_).1)); replace Zb := s; replace Ze := u; replace Zf := x; replace Zd := y; replace Za := z; replace Zc := A; replace HB := B; replace HK := C; clear s u x y z A B C; clear hg hw hp_; obtain ⟨_, _, _, _, _, _, _, _⟩ := zb4 Za.out; have a7 : 0 ≤ ((ji13) : Int) := zd; have a8 : (ji13) < (E.length : Int) := (by have h_ : ((ji13) : Int) < ((i.length : Int) : Int) := zd; first | (have e_ := (Kd.R_reads' Zb.out).1; omega) | simpa only [b7.out, List.length_set] using h_); have ql247 : (((ji13) : Int) < ((i.length : Int) : Int)) = True := eq_true (zd); obtain ⟨c7, f2, hx247_0⟩ := Kd.at_int (Kd.R_reads' Zb.out).2.2 (ji13) a7 a8; obtain rfl : (⟨l, 0, none⟩ : Addr) = c7 := (by injection f2); (first | simp only [add_plain] at hx247_0 | simp only [add_at] at hx247_0 | simp only [Addr.add, Nat.zero_add] at hx247_0 | skip); replace a7 := eq_true a7; replace a8 := eq_true a8; obtain ⟨_, _, _, _, _, _, _, _⟩ := zb4 Zc.out))
  refine bodyPost_ret (results_cell_row rfl _ _ r 26 #[.slice (some ⟨l, 0, none⟩) i.length M, .slice X m.length Y, .slice b1 q.length b2, .slice Z j.length a0] (0, 0) _ rfl (by exact zput4 Zc.out) Tryz.underlying26 rfl (by kernel_rfl)) rfl ?_
  exact ⟨_, _, _, _, by first | rfl | (simp [errW_none, errW_some] <;> rfl) | (simp only [← hji13]; first | rfl | (simp [errW_none, errW_some] <;> rfl)) | (simp [*, errW_none, errW_some] <;> rfl), Kd.R_mono (zR4 (Kd.R_types Zb.out Zc.out (by decide))) (fun _ hk => ⟨hk.1.1, ⟨hk.1.2.1, hk.1.2.2⟩⟩), Kd.R_mono (zR4 (Kd.R_types Ze.out Zc.out (by decide))) (fun _ hk => ⟨hk.1.1.1, ⟨hk.1.2, hk.1.1.2⟩⟩), Kd.S_mono (zS4 (Kd.S_types Zf.out Zc.out (by decide))) (fun _ hk => ⟨hk.1.1.1, ⟨hk.1.2, ⟨hk.1.1.2.1, hk.1.1.2.2⟩⟩⟩), Kd.R_mono (zR4 (Kd.R_types Zd.out Zc.out (by decide))) (fun _ hk => ⟨hk.1.1.1, ⟨hk.1.2, hk.1.1.2⟩⟩), zg_5 HB.out Zj.out Zl.out, zg_14 HK.out Zg.out Zk.out⟩
 rw [if_pos b9] at H
 have g9 : ((rd E (ji13)) == 0) = true := beq_iff_eq.mpr b9
 have h0 : ((rd E (ji13)) != 0) = false := bne_eq_false_iff_eq.mpr b9
 clear b9
 by_cases f5 : (ji13) < (j.length : Int)
 rotate_left
 ·rw [if_neg f5] at H
  exact absurd H (by simp)
 rw [if_pos f5] at H; have j9 := decide_eq_true f5; clear f5
 obtain ⟨g2, c8⟩ : ∃ y_ : List Int, y_ = (j.set ((ji13) : Int).toNat 0) := ⟨_, rfl⟩
 replace H : (some (E, m, q, g2)) = some (r1, r2, r3, r4) := zy H c8
 have h2 := zm c8; clear c8
 simp only [Option.some.injEq, Prod.mk.injEq] at H
 obtain ⟨rfl, rfl, rfl, rfl⟩ := H
 obtain ⟨c9, D, i5⟩ := Kd.R_slice Zb.out
 subst i5
 obtain ⟨J, L, i6⟩ := Kd.R_slice Ze.out
 subst i6
 obtain ⟨a9, b0, i7⟩ := Kd.S_slice Zf.out
 subst i7
 obtain ⟨a4, F, i8⟩ := Kd.R_slice Zd.out
 subst i8
 go_enter Tryz.func48, Tryz.ntmps48
 go_wp2_with (first | ((with_reducible refine gate_dst (N := 2) rfl ?_); refine box_event ?hg (N := 2) ?hd (cs := #[.slice c9 i.length D, .slice J m.length L, .slice a9 q.length b0, .slice a4 j.length F]) (t := 26) ?hr ?_; (case hd => rfl); (case hg => rfl); (case hr => first | (go_simp; done) | (go_simp; rfl)); intro n hg k5 hbox hb; have s := zm (Kd.R_below (zg_6 Zb.out) hb); have u := zm (Kd.R_below (zg_6 Ze.out) hb); have x := zm (Kd.S_below (zg_11 Zf.out) hb); have y := zm (Kd.R_below (zg_6 Zd.out) hb); have z := zm (Kept.below (S := (fun k_ => a k_ ∨ b k_ ∨ c k_ ∨ d k_)) (zg_12 HK.out) hb); have A := zm (below_step (zg_1 HB.out) hb); have B := zm (hbox); have C := zm ((by rw [hg]; exact (by first | exact HK.out.1 | exact (show Kept w _ (fun k_ => a k_ ∨ b k_ ∨ c k_ ∨ d k_) from zg_12 HK.out).1) : w.heap.size ≤ n)); have O := zm ((by rw [hg]; exact (below_size (zg_1 HB.out)) : I.heap.size ≤ n)); replace Zb := s; replace Ze := u; replace Zf := x; replace Zd := y; replace HK := z; replace HB := A; have Za := B; have Zg := C; have Zj := O; clear s u x y z A B C O; clear hb hbox hg) | ((with_reducible refine gate_dst (N := 4) rfl ?_); refine box_event ?hg (N := 4) ?hd (cs := #[.slice none 0 0, .slice none 0 0, .slice none 0 0, .slice none 0 0]) (t := 26) ?hr ?_; (case hd => rfl); (case hg => rfl); (case hr => first | (go_simp; done) | (go_simp; rfl)); intro r hg h8 hbox hb; have s := zm (Kd.R_below (zg_6 Zb.out) hb); have u := zm (Kd.R_below (zg_6 Ze.out) hb); have x := zm (Kd.S_below (zg_11 Zf.out) hb); have y := zm (Kd.R_below (zg_6 Zd.out) hb); have z := zm (blk_below (g := n) (o := .cells #[.slice c9 i.length D, .slice J m.length L, .slice a9 q.length b0, .slice a4 j.length F] 26 (0, 0)) (zg_3 Za.out) hb); have A := zm (Kept.below (S := (fun k_ => a k_ ∨ b k_ ∨ c k_ ∨ d k_)) (zg_13 HK.out Zg.out) hb); have B := zm (below_step (zg_2 HB.out Zj.out) hb); have C := zm (hbox); have O := zm ((by rw [hg]; exact (by first | exact HK.out.1 | exact (show Kept w _ (fun k_ => a k_ ∨ b k_ ∨ c k_ ∨ d k_) from zg_13 HK.out Zg.out).1) : w.heap.size ≤ r)); have b3 := zm ((by rw [hg]; exact (below_size (zg_2 HB.out Zj.out)) : I.heap.size ≤ r)); have a2 := zm ((by rw [hg]; exact Nat.ne_of_lt (blk_lt (g := n) (o := .cells #[.slice c9 i.length D, .slice J m.length L, .slice a9 q.length b0, .slice a4 j.length F] 26 (0, 0)) (zg_3 Za.out)) : n ≠ r)); have a3 := zm ((by rw [hg]; exact Nat.ne_of_gt (blk_lt (g := n) (o := .cells #[.slice c9 i.length D, .slice J m.length L, .slice a9 q.length b0, .slice a4 j.length F] 26 (0, 0)) (zg_3 Za.out)) : r ≠ n)); replace Zb := s; replace Ze := u; replace Zf := x; replace Zd := y; replace Za := z; replace HK := A; replace HB := B; have Zc := C; have Zk := O; have Zl := b3; have Zh := a2; have Zi := a3; clear s u x y z A B C O b3 a2 a3; clear hb hbox hg; have k0 := Zh.out; have k1 := Zi.out; obtain ⟨_, _, _, _, _, _, _, _⟩ := zb4 Za.out; have a5 : 0 ≤ ((ji13) : Int) := zd; have a6 : (ji13) < (i.length : Int) := zd; obtain ⟨h1, f1, hx245_0⟩ := Kd.at_int (Kd.R_reads' Zb.out).2.2 (ji13) a5 a6; cases f1; replace a5 := eq_true a5; replace a6 := eq_true a6; have c0 : 0 ≤ ((ji13) : Int) := zd; have c1 : ((ji13) : Int) < ((i.length : Int) : Int) := zd; obtain ⟨l, i4, c2, c4, gl16, cl16, HG16⟩ := Kd.R_form Zb.out (by omega); (first | cases c2 | (injection c2 with ea_ en_ ec_; (first | subst ea_ | (injection ea_ with ea_; subst ea_)); subst ec_; clear en_)); have GB16 := zm c4; have Zp := zm HG16; clear c4 gl16 HG16; have HMgo16 := zm (show ((a l ∨ b l ∨ c l ∨ d l) ∨ w.heap.size ≤ l) from (Zb.out.1 _ rfl).1); (first | simp only [add_plain] at hx245_0 | skip); obtain ⟨hx16_0, hf16_0⟩ := Kd.R_celln 0 Zb.out ((ji13) : Int) c0 c1; replace c0 := eq_true c0; replace c1 := eq_true c1; obtain ⟨hy28_, hz28_⟩ := Kd.R_celln 0 Zb.out ((ji13) : Int) (zd) (zd); have Zm := Kd.R_putg Zb.out ((ji13) : Int) (wrap64 ((rd i (ji13)) - 1))) | ((with_reducible refine gate_store (t := 3) (p := 17) rfl ?_); refine store_event (t := 3) (p := 17) (v := ?vo_w29) (w1 := (h8.setCell ⟨l, ((ji13) : Int).toNat, none⟩ (.int .i64 (wrap64 ((rd i (ji13)) - 1))))) ?hg ?ho ?hn ?hr ?_; (case ho => rfl); (case hg => rfl); (case hn => rfl); (case hr => first | (go_simp; done) | (go_simp; rfl)); intro f0 hw; have hg : h8.grownBy f0 (some l) := (by rw [hw]; exact Zm.2); have hp_ : Kd.R (Kd.int .i64) 3 f0 I.heap.size (fun k_ => ((a k_ ∨ b k_ ∨ c k_ ∨ d k_) ∨ w.heap.size ≤ k_) ∧ some k_ ≠ (.slice J m.length L : Value).ownBlock ∧ some k_ ≠ (.slice a4 j.length F : Value).ownBlock) (.slice (some ⟨l, 0, none⟩) i.length D) E := (by rw [hw, b7.out]; exact Zm.1); clear Zm; have s := zm (hp_); have u := zm (Kd.R_after (v := (.slice (some ⟨l, 0, none⟩) i.length D)) (v1 := (.slice (some ⟨l, 0, none⟩) i.length D)) (ok := (fun k_ => ((a k_ ∨ b k_ ∨ c k_ ∨ d k_) ∨ w.heap.size ≤ k_) ∧ some k_ ≠ (.slice a4 j.length F : Value).ownBlock)) (by (with_reducible repeat (first | apply Kd.R_alloc | apply Kd.R_drewN | apply Kd.R_drew)); exact Kd.R_mono Ze.out (fun _ hk => ⟨⟨hk.1, hk.2.2⟩, hk.2.1⟩)) hg (.inl rfl)); have x := zm (Kd.S_after (v := (.slice (some ⟨l, 0, none⟩) i.length D)) (v1 := (.slice (some ⟨l, 0, none⟩) i.length D)) (ok := (fun k_ => ((a k_ ∨ b k_ ∨ c k_ ∨ d k_) ∨ w.heap.size ≤ k_) ∧ some k_ ≠ (.slice J m.length L : Value).ownBlock ∧ some k_ ≠ (.slice a4 j.length F : Value).ownBlock)) (by (with_reducible repeat (first | apply Kd.S_alloc | apply Kd.S_drewN | apply Kd.S_drew)); exact Kd.S_mono Zf.out (fun _ hk => ⟨⟨hk.1, ⟨hk.2.2.1, hk.2.2.2⟩⟩, hk.2.1⟩)) hg (.inl rfl)); have y := zm (Kd.R_after (v := (.slice (some ⟨l, 0, none⟩) i.length D)) (v1 := (.slice (some ⟨l, 0, none⟩) i.length D)) (ok := (fun k_ => ((a k_ ∨ b k_ ∨ c k_ ∨ d k_) ∨ w.heap.size ≤ k_) ∧ some k_ ≠ (.slice J m.length L : Value).ownBlock)) (by (with_reducible repeat (first | apply Kd.R_alloc | apply Kd.R_drewN | apply Kd.R_drew)); exact Kd.R_mono Zd.out (fun _ hk => ⟨⟨hk.1, hk.2.2⟩, hk.2.1⟩)) hg (.inl rfl)); have z := zm (blk_grown (g := n) (o := .cells #[.slice (some ⟨l, 0, none⟩) i.length D, .slice J m.length L, .slice a9 q.length b0, .slice a4 j.length F] 26 (0, 0)) (zg_3 Za.out) hg (Kd.R_ne Zb.out Za.out (by decide))); have A := zm (blk_grown (g := r) (o := .cells #[.slice none 0 0, .slice none 0 0, .slice none 0 0, .slice none 0 0] 26 (0, 0)) (zg_3 Zc.out) hg (Kd.R_ne Zb.out Zc.out (by decide))); have B := zm ((by rw [hw]; exact below_set (HB.out) GB16.out : Below I.heap.size I f0)); have C := zm (Kept.of_grown (S := (fun k_ => a k_ ∨ b k_ ∨ c k_ ∨ d k_)) hg (zg_14 HK.out Zg.out Zk.out) (fun k_ e_ => (Zb.out.1 k_ e_).1)); replace Zb := s; replace Ze := u; replace Zf := x; replace Zd := y; replace Za := z; replace Zc := A; replace HB := B; replace HK := C; clear s u x y z A B C; clear hg hw hp_; obtain ⟨_, _, _, _, _, _, _, _⟩ := zb4 Za.out; have a7 : 0 ≤ ((ji13) : Int) := zd; have a8 : (ji13) < (E.length : Int) := (by have h_ : ((ji13) : Int) < ((i.length : Int) : Int) := zd; first | (have e_ := (Kd.R_reads' Zb.out).1; omega) | simpa only [b7.out, List.length_set] using h_); have ql247 : (((ji13) : Int) < ((i.length : Int) : Int)) = True := eq_true (zd); obtain ⟨c7, f2, hx247_0⟩ := Kd.at_int (Kd.R_reads' Zb.out).2.2 (ji13) a7 a8; obtain rfl : (⟨l, 0, none⟩ : Addr) = c7 := (by injection f2); (first | simp only [add_plain] at hx247_0 | simp only [add_at] at hx247_0 | simp only [Addr.add, Nat.zero_add] at hx247_0 | skip); replace a7 := eq_true a7; replace a8 := eq_true a8; have g3 : 0 ≤ ((ji13) : Int) := zd; have g4 : ((ji13) : Int) < ((j.length : Int) : Int) := zd; obtain ⟨G, k2, g5, g6, gl19, cl19, HG19⟩ := Kd.R_form Zd.out (by omega); (first | cases g5 | (injection g5 with ea_ en_ ec_; (first | subst ea_ | (injection ea_ with ea_; subst ea_)); subst ec_; clear en_)); have GB19 := zm g6; have Zq := zm HG19; clear g6 gl19 HG19; have HMgo19 := zm (show ((a G ∨ b G ∨ c G ∨ d G) ∨ w.heap.size ≤ G) from (Zd.out.1 _ rfl).1.1); obtain ⟨hx19_0, hf19_0⟩ := Kd.R_celln 0 Zd.out ((ji13) : Int) g3 g4; replace g3 := eq_true g3; replace g4 := eq_true g4; have n_ := zm (Kd.R_mono (ok' := (fun k_ => ((a k_ ∨ b k_ ∨ c k_ ∨ d k_) ∨ w.heap.size ≤ k_) ∧ some k_ ≠ (.slice (some ⟨l, 0, none⟩) i.length D : Value).ownBlock ∧ some k_ ≠ (.slice J m.length L : Value).ownBlock)) Zd.out (fun k_ hk => ⟨hk.1.1, ⟨hk.2, hk.1.2⟩⟩)); replace Zd := n_; clear n_; obtain ⟨hy31_, hz31_⟩ := Kd.R_celln 0 Zd.out ((ji13) : Int) (zd) (zd); have Zn := Kd.R_putg Zd.out ((ji13) : Int) 0) | ((with_reducible refine gate_store (t := 3) (p := 27) rfl ?_); refine store_event (t := 3) (p := 27) (v := ?vo_w32) (w1 := (f0.setCell ⟨G, ((ji13) : Int).toNat, none⟩ (.int .i64 0))) ?hg ?ho ?hn ?hr ?_; (case ho => rfl); (case hg => rfl); (case hn => rfl); (case hr => first | (go_simp; done) | (go_simp; rfl)); intro g7 hw; have hg : f0.grownBy g7 (some G) := (by rw [hw]; exact Zn.2); have hp_ : Kd.R (Kd.int .i64) 3 g7 I.heap.size (fun k_ => ((a k_ ∨ b k_ ∨ c k_ ∨ d k_) ∨ w.heap.size ≤ k_) ∧ some k_ ≠ (.slice (some ⟨l, 0, none⟩) i.length D : Value).ownBlock ∧ some k_ ≠ (.slice J m.length L : Value).ownBlock) (.slice (some ⟨G, 0, none⟩) j.length F) g2 := (by rw [hw, h2.out]; exact Zn.1); clear Zn; have s := zm (Kd.R_after (v := (.slice (some ⟨G, 0, none⟩) j.length F)) (v1 := (.slice (some ⟨G, 0, none⟩) j.length F)) (ok := (fun k_ => ((a k_ ∨ b k_ ∨ c k_ ∨ d k_) ∨ w.heap.size ≤ k_) ∧ some k_ ≠ (.slice J m.length L : Value).ownBlock)) (by (with_reducible repeat (first | apply Kd.R_alloc | apply Kd.R_drewN | apply Kd.R_drew)); exact Kd.R_mono Zb.out (fun _ hk => ⟨⟨hk.1, hk.2.1⟩, hk.2.2⟩)) hg (.inl rfl)); have u := zm (Kd.R_after (v := (.slice (some ⟨G, 0, none⟩) j.length F)) (v1 := (.slice (some ⟨G, 0, none⟩) j.length F)) (ok := (fun k_ => ((a k_ ∨ b k_ ∨ c k_ ∨ d k_) ∨ w.heap.size ≤ k_) ∧ some k_ ≠ (.slice (some ⟨l, 0, none⟩) i.length D : Value).ownBlock)) (by (with_reducible repeat (first | apply Kd.R_alloc | apply Kd.R_drewN | apply Kd.R_drew)); exact Kd.R_mono Ze.out (fun _ hk => ⟨⟨hk.1.1, hk.2⟩, hk.1.2⟩)) hg (.inl rfl)); have x := zm (Kd.S_after (v := (.slice (some ⟨G, 0, none⟩) j.length F)) (v1 := (.slice (some ⟨G, 0, none⟩) j.length F)) (ok := (fun k_ => ((a k_ ∨ b k_ ∨ c k_ ∨ d k_) ∨ w.heap.size ≤ k_) ∧ some k_ ≠ (.slice (some ⟨l, 0, none⟩) i.length D : Value).ownBlock ∧ some k_ ≠ (.slice J m.length L : Value).ownBlock)) (by (with_reducible repeat (first | apply Kd.S_alloc | apply Kd.S_drewN | apply Kd.S_drew)); exact Kd.S_mono Zf.out (fun _ hk => ⟨⟨hk.1.1, ⟨hk.2, hk.1.2.1⟩⟩, hk.1.2.2⟩)) hg (.inl rfl)); have y := zm (hp_); have z := zm (blk_grown (g := n) (o := .cells #[.slice (some ⟨l, 0, none⟩) i.length D, .slice J m.length L, .slice a9 q.length b0, .slice (some ⟨G, 0, none⟩) j.length F] 26 (0, 0)) (zg_3 Za.out) hg (Kd.R_ne Zd.out Za.out (by decide))); have A := zm (blk_grown (g := r) (o := .cells #[.slice none 0 0, .slice none 0 0, .slice none 0 0, .slice none 0 0] 26 (0, 0)) (zg_3 Zc.out) hg (Kd.R_ne Zd.out Zc.out (by decide))); have B := zm ((by rw [hw]; exact below_set (HB.out) GB19.out : Below I.heap.size I g7)); have C := zm (Kept.of_grown (S := (fun k_ => a k_ ∨ b k_ ∨ c k_ ∨ d k_)) hg (zg_14 HK.out Zg.out Zk.out) (fun k_ e_ => (Zd.out.1 k_ e_).1)); replace Zb := s; replace Ze := u; replace Zf := x; replace Zd := y; replace Za := z; replace Zc := A; replace HB := B; replace HK := C; clear s u x y z A B C; clear hg hw hp_; obtain ⟨_, _, _, _, _, _, _, _⟩ := zb4 Za.out; obtain ⟨_, _, _, _, _, _, _, _⟩ := zb4 Zc.out))
 refine bodyPost_ret (results_cell_row rfl _ _ r 26 #[.slice (some ⟨l, 0, none⟩) i.length D, .slice J m.length L, .slice a9 q.length b0, .slice (some ⟨G, 0, none⟩) j.length F] (0, 0) _ rfl (by exact zput4 Zc.out) Tryz.underlying26 rfl (by kernel_rfl)) rfl ?_
 exact ⟨_, _, _, _, by first | rfl | (simp [errW_none, errW_some] <;> rfl) | (simp only [← hji13]; first | rfl | (simp [errW_none, errW_some] <;> rfl)) | (simp [*, errW_none, errW_some] <;> rfl), Kd.R_mono (zR4 (Kd.R_types Zb.out Zc.out (by decide))) (fun _ hk => ⟨hk.1.1.1, ⟨hk.1.1.2, hk.1.2⟩⟩), Kd.R_mono (zR4 (Kd.R_types Ze.out Zc.out (by decide))) (fun _ hk => ⟨hk.1.1.1, ⟨hk.1.1.2, hk.1.2⟩⟩), Kd.S_mono (zS4 (Kd.S_types Zf.out Zc.out (by decide))) (fun _ hk => ⟨hk.1.1.1, ⟨hk.1.1.2.1, ⟨hk.1.1.2.2, hk.1.2⟩⟩⟩), Kd.R_mono (zR4 (Kd.R_types Zd.out Zc.out (by decide))) (fun _ hk => ⟨hk.1.1, ⟨hk.1.2.1, hk.1.2.2⟩⟩), zg_5 HB.out Zj.out Zl.out, zg_14 HK.out Zg.out Zk.out⟩
end Go.Proofs.YtnibgibjfpbagaaGreat.Q
