/- What laws.FnCheck reaches, part 8: the functions as Lean functions, the proofs that the program's functions answer so, and plain laws about them. -/
import Derived.Test.YtnibgibjfpbagaaGreatKFnCheck1
import Derived.Test.YtnibgibjfpbagaaGreatKFnCheck2
import Derived.Test.YtnibgibjfpbagaaGreatKFnCheck3
import Derived.Test.YtnibgibjfpbagaaGreatKFnCheck4
import Derived.Test.YtnibgibjfpbagaaGreatKFnCheck5
import Derived.Test.YtnibgibjfpbagaaGreatKFnCheck6
import Derived.Test.YtnibgibjfpbagaaGreatKFnCheck7
namespace Go.Proofs.YtnibgibjfpbagaaGreat.Q
open Go.RowKit Go.Proofs.YtnibgibjfpbagaaGreat.Ext Go.Proofs.YtnibgibjfpbagaaGreatW.PrintWords Go.Proofs.YtnibgibjfpbagaaGreatW.PrintLast Go.Proofs.YtnibgibjfpbagaaGreatW.PrintMore
attribute [local go_sem] max2_int min2_int max_two min_two max_three min_three max_four min_four   -- for this text's walks alone
open Bool renaming true → tt, false → ff
set_option linter.unusedVariables false
set_option linter.unusedSimpArgs false

set_option linter.unusedVariables false
set_option linter.unusedSimpArgs false
mutual
def spec_l00Src_image.j0 : Nat → List Int → Int → Int → List Int → List Int → List (S66) → List Int → Option (List Int × List Int × (List (S66)) × List Int × Int × Int)
  | 0, _, _, _, _, _, _, _ => none
  | k + 1, x1000, x1001, x1002, x484000, x484001, x484002, x484003 => (spec_l00Src_size.f x1000 x1001 x1002 20).bind fun bt502 => ((spec_l00Src_next.f x1000 bt502.2.1 bt502.2.2 (wrap64 (bt502.1 + 12))).bind fun bt505 => (spec_l00Src_image.l0 k bt505.1 x1000 bt505.2.1 bt505.2.2 x484000 x484001 x484002 x484003))
def spec_l00Src_image.l0 : Nat → Int → List Int → Int → Int → List Int → List Int → List (S66) → List Int → Option (List Int × List Int × (List (S66)) × List Int × Int × Int)
  | 0, _, _, _, _, _, _, _, _ => none
  | k + 1, x4, x1000, x1001, x1002, x484000, x484001, x484002, x484003 => if x4 > 0 then (if (x484001.length : Int) > 0 then ((spec_l00Src_next.f x1000 x1001 x1002 (x484001.length : Int)).bind fun bt520 => (spec_l00Src_image.j2 k x4 bt520.1 x1000 bt520.2.1 bt520.2.2 x484000 x484001 x484002 x484003)) else (spec_l00Src_image.j2 k x4 0 x1000 x1001 x1002 x484000 x484001 x484002 x484003)) else ((spec_l10Own.f k x484000 x484001 x484002 x484003).bind fun bt508 => (some (bt508.1, bt508.2.1, bt508.2.2.1, bt508.2.2.2, x1001, x1002)))
def spec_l00Src_image.j2 : Nat → Int → Int → List Int → Int → Int → List Int → List Int → List (S66) → List Int → Option (List Int × List Int × (List (S66)) × List Int × Int × Int)
  | 0, _, _, _, _, _, _, _, _, _ => none
  | k + 1, x4, x5, x1000, x1001, x1002, x484000, x484001, x484002, x484003 => (spec_l00Src_next.f x1000 x1001 x1002 9).bind fun bt523 => (if bt523.1 = 0 then ((spec_l00Src_snapName.f x1000 bt523.2.1 bt523.2.2).bind fun bt526 => ((spec_l10Create.f k x484000 x484001 x484002 x484003 bt526.1).bind fun bt529 => (spec_l00Src_image.l0 k (wrap64 (x4 - 1)) x1000 bt526.2.1 bt526.2.2 bt529.1 bt529.2.1 bt529.2.2.1 bt529.2.2.2.1))) else (if bt523.1 = 1 then ((spec_l00Src_snapName.f x1000 bt523.2.1 bt523.2.2).bind fun bt542 => ((spec_l10Delete.f k x484000 x484001 x484002 x484003 bt542.1).bind fun bt545 => (spec_l00Src_image.l0 k (wrap64 (x4 - 1)) x1000 bt542.2.1 bt542.2.2 bt545.1 bt545.2.1 bt545.2.2.1 bt545.2.2.2.1))) else (if bt523.1 = 2 then ((spec_l00Src_snapName.f x1000 bt523.2.1 bt523.2.2).bind fun bt558 => ((spec_l10Revert.f k x484000 x484001 x484002 x484003 bt558.1).bind fun bt561 => (spec_l00Src_image.l0 k (wrap64 (x4 - 1)) x1000 bt558.2.1 bt558.2.2 bt561.1 bt561.2.1 bt561.2.2.1 bt561.2.2.2.1))) else (if bt523.1 = 3 then ((spec_l00Src_next.f x1000 bt523.2.1 bt523.2.2 13).bind fun bt574 => ((spec_l10Resize.f k x484000 x484001 x484002 x484003 bt574.1).bind fun bt577 => (spec_l00Src_image.l0 k (wrap64 (x4 - 1)) x1000 bt574.2.1 bt574.2.2 bt577.1 bt577.2.1 bt577.2.2.1 bt577.2.2.2))) else (if bt523.1 = 4 then (if (x484001.length : Int) > 0 then ((spec_l10Zero.f k x484000 x484001 x484002 x484003 x5).bind fun bt589 => (spec_l00Src_image.l0 k (wrap64 (x4 - 1)) x1000 bt523.2.1 bt523.2.2 bt589.1 bt589.2.1 bt589.2.2.1 bt589.2.2.2)) else (spec_l00Src_image.l0 k (wrap64 (x4 - 1)) x1000 bt523.2.1 bt523.2.2 x484000 x484001 x484002 x484003)) else (if (x484001.length : Int) > 0 then ((spec_l00Src_number.f x1000 bt523.2.1 bt523.2.2).bind fun bt601 => ((spec_l10Write.f k x484000 x484001 x484002 x484003 x5 bt601.1).bind fun bt604 => (spec_l00Src_image.l0 k (wrap64 (x4 - 1)) x1000 bt601.2.1 bt601.2.2 bt604.1 bt604.2.1 bt604.2.2.1 bt604.2.2.2.1))) else (spec_l00Src_image.l0 k (wrap64 (x4 - 1)) x1000 bt523.2.1 bt523.2.2 x484000 x484001 x484002 x484003)))))))
end
def spec_l00Src_image.f (k : Nat) (s0_0 : List Int) (s0_1 : Int) (s0_2 : Int) : Option (List Int × List Int × (List (S66)) × List Int × Int × Int) := (spec_l00Src_next.f s0_0 s0_1 s0_2 13).bind fun bt468 => ((spec_l10New.f bt468.1).bind fun bt471 => ((spec_l00Src_chance.f s0_0 bt468.2.1 bt468.2.2 2).bind fun bt484 => (if bt484.1 = true then ((spec_l00Src_next.f s0_0 bt484.2.1 bt484.2.2 7).bind fun bt487 => ((spec_l10New.f (wrap64 (6 + bt487.1))).bind fun bt490 => (spec_l00Src_image.j0 k s0_0 bt487.2.1 bt487.2.2 bt490.1 bt490.2.1 bt490.2.2.1 bt490.2.2.2))) else (spec_l00Src_image.j0 k s0_0 bt484.2.1 bt484.2.2 bt471.1 bt471.2.1 bt471.2.2.1 bt471.2.2.2))))
theorem spec_l00Src_image.mono_l : ∀ k, (∀ y0 y1 y2 y3 y4 y5 y6, LeO (spec_l00Src_image.j0 k y0 y1 y2 y3 y4 y5 y6) (spec_l00Src_image.j0 (k + 1) y0 y1 y2 y3 y4 y5 y6)) ∧ (∀ y0 y1 y2 y3 y4 y5 y6 y7, LeO (spec_l00Src_image.l0 k y0 y1 y2 y3 y4 y5 y6 y7) (spec_l00Src_image.l0 (k + 1) y0 y1 y2 y3 y4 y5 y6 y7)) ∧ (∀ y0 y1 y2 y3 y4 y5 y6 y7 y8, LeO (spec_l00Src_image.j2 k y0 y1 y2 y3 y4 y5 y6 y7 y8) (spec_l00Src_image.j2 (k + 1) y0 y1 y2 y3 y4 y5 y6 y7 y8))
  | 0 => ⟨fun _ _ _ _ _ _ _ r h => by simp [spec_l00Src_image.j0] at h, fun _ _ _ _ _ _ _ _ r h => by simp [spec_l00Src_image.l0] at h, fun _ _ _ _ _ _ _ _ _ r h => by simp [spec_l00Src_image.j2] at h⟩
  | k + 1 => by
    obtain ⟨ih0, ih1, ih2⟩ := spec_l00Src_image.mono_l k
    refine ⟨?_, ?_, ?_⟩
    · intro y0 y1 y2 y3 y4 y5 y6
      unfold spec_l00Src_image.j0
      repeat' first| (with_reducible first | exact ih0 _ _ _ _ _ _ _ | exact ih1 _ _ _ _ _ _ _ _ | exact ih2 _ _ _ _ _ _ _ _ _ | exact spec_l10Create.mono _ _ _ _ _ _ | exact spec_l10Delete.mono _ _ _ _ _ _ | exact spec_l10Own.mono _ _ _ _ _ | exact spec_l10Resize.mono _ _ _ _ _ _ | exact spec_l10Revert.mono _ _ _ _ _ _ | exact spec_l10Write.mono _ _ _ _ _ _ _ | exact spec_l10Zero.mono _ _ _ _ _ _ | exact LeO.refl _ | exact LeO.none _ | refine LeO.ite ?_ ?_ | refine LeO.bind ?_ (fun _ => ?_)) | exact ih0 _ _ _ _ _ _ _ | exact ih1 _ _ _ _ _ _ _ _ | exact ih2 _ _ _ _ _ _ _ _ _ | exact LeO.none _ | refine LeO.ite ?_ ?_ | refine LeO.bind ?_ (fun _ => ?_)
    · intro y0 y1 y2 y3 y4 y5 y6 y7
      unfold spec_l00Src_image.l0
      repeat' first| (with_reducible first | exact ih0 _ _ _ _ _ _ _ | exact ih1 _ _ _ _ _ _ _ _ | exact ih2 _ _ _ _ _ _ _ _ _ | exact spec_l10Create.mono _ _ _ _ _ _ | exact spec_l10Delete.mono _ _ _ _ _ _ | exact spec_l10Own.mono _ _ _ _ _ | exact spec_l10Resize.mono _ _ _ _ _ _ | exact spec_l10Revert.mono _ _ _ _ _ _ | exact spec_l10Write.mono _ _ _ _ _ _ _ | exact spec_l10Zero.mono _ _ _ _ _ _ | exact LeO.refl _ | exact LeO.none _ | refine LeO.ite ?_ ?_ | refine LeO.bind ?_ (fun _ => ?_)) | exact ih0 _ _ _ _ _ _ _ | exact ih1 _ _ _ _ _ _ _ _ | exact ih2 _ _ _ _ _ _ _ _ _ | exact LeO.none _ | refine LeO.ite ?_ ?_ | refine LeO.bind ?_ (fun _ => ?_)
    · intro y0 y1 y2 y3 y4 y5 y6 y7 y8
      unfold spec_l00Src_image.j2
      repeat' first| (with_reducible first | exact ih0 _ _ _ _ _ _ _ | exact ih1 _ _ _ _ _ _ _ _ | exact ih2 _ _ _ _ _ _ _ _ _ | exact spec_l10Create.mono _ _ _ _ _ _ | exact spec_l10Delete.mono _ _ _ _ _ _ | exact spec_l10Own.mono _ _ _ _ _ | exact spec_l10Resize.mono _ _ _ _ _ _ | exact spec_l10Revert.mono _ _ _ _ _ _ | exact spec_l10Write.mono _ _ _ _ _ _ _ | exact spec_l10Zero.mono _ _ _ _ _ _ | exact LeO.refl _ | exact LeO.none _ | refine LeO.ite ?_ ?_ | refine LeO.bind ?_ (fun _ => ?_)) | exact ih0 _ _ _ _ _ _ _ | exact ih1 _ _ _ _ _ _ _ _ | exact ih2 _ _ _ _ _ _ _ _ _ | exact LeO.none _ | refine LeO.ite ?_ ?_ | refine LeO.bind ?_ (fun _ => ?_)
theorem spec_l00Src_image.mono : ∀ a0 a1 a2 k, LeO (spec_l00Src_image.f k a0 a1 a2) (spec_l00Src_image.f (k + 1) a0 a1 a2) := by
  intro a0 a1 a2 k
  obtain ⟨ih0, ih1, ih2⟩ := spec_l00Src_image.mono_l k
  unfold spec_l00Src_image.f
  repeat' first| (with_reducible first | exact ih0 _ _ _ _ _ _ _ | exact ih1 _ _ _ _ _ _ _ _ | exact ih2 _ _ _ _ _ _ _ _ _ | exact spec_l10Create.mono _ _ _ _ _ _ | exact spec_l10Delete.mono _ _ _ _ _ _ | exact spec_l10Own.mono _ _ _ _ _ | exact spec_l10Resize.mono _ _ _ _ _ _ | exact spec_l10Revert.mono _ _ _ _ _ _ | exact spec_l10Write.mono _ _ _ _ _ _ _ | exact spec_l10Zero.mono _ _ _ _ _ _ | exact LeO.refl _ | exact LeO.none _ | refine LeO.ite ?_ ?_ | refine LeO.bind ?_ (fun _ => ?_)) | exact ih0 _ _ _ _ _ _ _ | exact ih1 _ _ _ _ _ _ _ _ | exact ih2 _ _ _ _ _ _ _ _ _ | exact LeO.none _ | refine LeO.ite ?_ ?_ | refine LeO.bind ?_ (fun _ => ?_)
def spec_l00Src_image.T12 : Bool × List (List Nat × List Nat) := (true, [([], []), ([], []), ([], []), ([2], [2]), ([0, 1, 3, 3], [0, 1, 3]), ([4], [4]), ([5], [5]), ([5], [5]), ([6, 4, 0, 1, 2, 3, 4, 5, 6], [6])])
def spec_l00Src_image.B12 : List Nat := [0, 0, 0, 4, 15, 31, 63, 63, 127]
theorem spec_l00Src_image.tab12 : rtab .any (opsOf Tryz.f12 12) = spec_l00Src_image.T12 := by kernel_rfl
theorem spec_l00Src_image.bits12 : waitsOk spec_l00Src_image.T12.2 spec_l00Src_image.B12 = true := by kernel_rfl
def spec_l00Src_image.T14 : Bool × List (List Nat × List Nat) := (true, [([], []), ([], []), ([1], [1]), ([0, 2, 2], [0, 2]), ([3], [3]), ([4], [4]), ([4], [4]), ([5, 3, 0, 1, 2, 3, 4, 5], [5])])
def spec_l00Src_image.B14 : List Nat := [0, 0, 2, 7, 15, 31, 31, 63]
theorem spec_l00Src_image.tab14 : rtab .any (opsOf Tryz.f12 14) = spec_l00Src_image.T14 := by kernel_rfl
theorem spec_l00Src_image.bits14 : waitsOk spec_l00Src_image.T14.2 spec_l00Src_image.B14 = true := by kernel_rfl
def spec_l00Src_image.T16 : Bool × List (List Nat × List Nat) := (true, [([], []), ([], []), ([1], [1]), ([0, 2, 2], [0, 2]), ([3], [3]), ([4], [4]), ([4], [4]), ([5, 3, 0, 1, 2, 3, 4, 5], [5])])
def spec_l00Src_image.B16 : List Nat := [0, 0, 2, 7, 15, 31, 31, 63]
theorem spec_l00Src_image.tab16 : rtab .any (opsOf Tryz.f12 16) = spec_l00Src_image.T16 := by kernel_rfl
theorem spec_l00Src_image.bits16 : waitsOk spec_l00Src_image.T16.2 spec_l00Src_image.B16 = true := by kernel_rfl
def spec_l00Src_image.T18 : Bool × List (List Nat × List Nat) := (true, [([], []), ([], []), ([1], [1]), ([0, 2, 2], [0, 2]), ([3], [3]), ([4], [4]), ([4], [4]), ([5, 3, 0, 1, 2, 3, 4, 5], [5])])
def spec_l00Src_image.B18 : List Nat := [0, 0, 2, 7, 15, 31, 31, 63]
theorem spec_l00Src_image.tab18 : rtab .any (opsOf Tryz.f12 18) = spec_l00Src_image.T18 := by kernel_rfl
theorem spec_l00Src_image.bits18 : waitsOk spec_l00Src_image.T18.2 spec_l00Src_image.B18 = true := by kernel_rfl
set_option maxHeartbeats 8000000 in
set_option maxRecDepth 100000 in
theorem spec_l00Src_image.calls (k : Nat) (g : Nat) (u : List Int) (h7 : Int) (h8 : Int) (r1 : List Int) (r2 : List Int) (r3 : List (S66)) (r4 : List Int) (r5 : Int) (r6 : Int) (T w : World) (hI : IsS42 T w g u h7 h8) (hB : Below T.heap.size T w) (h : spec_l00Src_image.f k u h7 h8 = some (r1, r2, r3, r4, r5, r6)) :
    Calls Tryz.prog 12 #[.pointer (some ⟨g, 0, none⟩)] w fun e w' => ∃ l2 l3 I3 l4 : Value, e = .returned (.agg #[l2, l3, I3, l4]) ∧ Kd.R (Kd.int .i64) 3 w' w.heap.size (fun k_ => (w.heap.size ≤ k_) ∧ some k_ ≠ (l3 : Value).ownBlock ∧ some k_ ≠ (l4 : Value).ownBlock) l2 r1 ∧ Kd.R (Kd.int .i64) 3 w' w.heap.size (fun k_ => (w.heap.size ≤ k_) ∧ some k_ ≠ (l2 : Value).ownBlock ∧ some k_ ≠ (l4 : Value).ownBlock) l3 r2 ∧ Kd.N k66 66 w' w.heap.size (fun k_ => (w.heap.size ≤ k_) ∧ some k_ ≠ (l2 : Value).ownBlock ∧ some k_ ≠ (l3 : Value).ownBlock ∧ some k_ ≠ (l4 : Value).ownBlock) I3 r3 ∧ Kd.R (Kd.int .i64) 3 w' w.heap.size (fun k_ => (w.heap.size ≤ k_) ∧ some k_ ≠ (l2 : Value).ownBlock ∧ some k_ ≠ (l3 : Value).ownBlock) l4 r4 ∧ IsS42 T w' g u r5 r6 ∧ Below T.heap.size T w' ∧ KeepBut w w' g none := by
 have hu26 := Tryz.underlying26; have b := zm hI; have HK := zm (KeepBut.refl w g none); have HL := zm hB.size; clear hI; have I4 := zm hB.size; have HB := zm hB; clear hB; have H := h
 unfold spec_l00Src_image.f at H
 clear h; replace H := Option.bind_eq_some_iff.mp H
 obtain ⟨⟨m1, d8, d9⟩, q2, H⟩ := H
 try dsimp only at H
 have A2 := zm q2; clear q2; replace H := Option.bind_eq_some_iff.mp H
 obtain ⟨⟨b0, b1, c7, b2⟩, I5, H⟩ := H
 try dsimp only at H
 have A3 := zm I5; clear I5; replace H := Option.bind_eq_some_iff.mp H
 obtain ⟨⟨t8, e0, e1⟩, I6, H⟩ := H
 try dsimp only at H
 have A4 := zm I6; clear I6; have t9 := zm H; clear H
 go_enter Tryz.func12, Tryz.ntmps12
 go_upto_if 10 with (first | ((with_reducible refine gate_dst (N := 2) rfl ?_); refine box_event ?hg (N := 2) ?hd (cs := #[.slice none 0 0, .slice none 0 0, .slice none 0 0, .slice none 0 0]) (t := 26) ?hr ?_; (case hd => rfl); (case hg => rfl); (case hr => first | (go_simp; done) | (go_simp; rfl)); intro m hg w6 hbox hb; have x := zm (IsS42.below (zg_7 b.out) hb); have y := zm (KeepBut.trans (zg_9 HK.out) (KeepBut.of_below hb g none) (.inl rfl)); have z := zm (below_step (zg_8 HB.out b.out) hb); have A := zm (hbox); have B := zm ((by rw [hg]; exact (keep_size (w := w) (g := g) (row := none) (zg_9 HK.out)) : w.heap.size ≤ m)); have C := zm ((Nat.le_trans I4.out (by rw [hg]; exact (keep_size (w := w) (g := g) (row := none) (zg_9 HK.out)) : w.heap.size ≤ m) : T.heap.size ≤ m)); have D := zm ((by rw [hg]; exact Nat.ne_of_lt (IsS42.lt (show IsS42 T _ g u h7 h8 from zg_7 b.out)) : g ≠ m)); have E := zm ((by rw [hg]; exact Nat.ne_of_gt (IsS42.lt (show IsS42 T _ g u h7 h8 from zg_7 b.out)) : m ≠ g)); replace b := x; replace HK := y; replace HB := z; have Zh := A; have Zj := B; have Zn := C; have Zg := D; have Zp := E; clear x y z A B C D E; clear hb hbox hg) | ((with_reducible refine gate_callee (f := 20) rfl ?_); refine goesL_ (some 7) rfl rfl Tryz.func20 (by kernel_rfl) rfl #[.pointer (some ⟨g, 0, none⟩), .int .i64 13] rfl zq ?_; (with_reducible refine (spec_l00Src_next.calls g u h7 h8 13 m1 d8 d9 T _ ?side1 ?side2 A2.out).mono ?_); (case side1 => exact (zg_16 b.out Zg.out)); (case side2 => exact (zg_17 HB.out b.out Zn.out)); rintro e w7 ⟨rfl, hi, hb, hk⟩; refine ⟨_, rfl, ?_⟩; have x := zm (KeepBut.blk hk (g' := m) (o := .cells #[.slice none 0 0, .slice none 0 0, .slice none 0 0, .slice none 0 0] 26 (0, 0)) (zg_3 Zh.out) Zp.out (by simp)); have y := zm (KeepBut.trans (zg_18 HK.out Zj.out) hk (.inl rfl)); have z := zm (hb); have A := zm (hi); replace Zh := x; replace HK := y; replace HB := z; replace b := A; clear x y z A; (try clear hb); (try clear hb2); (try clear hk); (try clear hi)) | ((with_reducible refine gate_callee (f := 19) rfl ?_); refine goesL_ (some 8) rfl rfl Tryz.func19 (by kernel_rfl) rfl #[.int .i64 m1] rfl zq ?_; (with_reducible refine (spec_l10New.calls m1 b0 b1 c7 b2 _ A3.out).mono ?_); rintro e w8 ⟨J4, J5, BJ, J6, rfl, U, V, a8, X, hb⟩; refine ⟨_, rfl, ?_⟩; have x := zm (Kd.R_lower (Kd.R_newM (M := fun k_ => (w.heap.size ≤ k_)) U (keep_size (w := w) (g := g) (row := none) (zg_18 HK.out Zj.out)) (fun k_ h_ => h_)) (keep_size (w := w) (g := g) (row := none) (zg_18 HK.out Zj.out))); have y := zm (Kd.R_lower (Kd.R_newM (M := fun k_ => (w.heap.size ≤ k_)) V (keep_size (w := w) (g := g) (row := none) (zg_18 HK.out Zj.out)) (fun k_ h_ => h_)) (keep_size (w := w) (g := g) (row := none) (zg_18 HK.out Zj.out))); have z := zm (Kd.N_lower (Kd.N_mono (ok' := fun k_ => (w.heap.size ≤ k_) ∧ some k_ ≠ (J4 : Value).ownBlock ∧ some k_ ≠ (J5 : Value).ownBlock ∧ some k_ ≠ (J6 : Value).ownBlock ∧ k_ ≠ m ∧ k_ ≠ g) (Kd.S_N (Kd.S_bound a8)) (fun k_ hk_ => ⟨(Nat.le_trans (keep_size (w := w) (g := g) (row := none) (zg_18 HK.out Zj.out)) hk_.2.1), hk_.1.1, hk_.1.2.1, hk_.1.2.2, (Kd.freshB (g := m) (o := .cells #[.slice none 0 0, .slice none 0 0, .slice none 0 0, .slice none 0 0] 26 (0, 0)) (zg_3 Zh.out) k_ hk_.2.1), (IsS42.fresh (zg_16 b.out Zg.out) k_ hk_.2.1)⟩)) (keep_size (w := w) (g := g) (row := none) (zg_18 HK.out Zj.out))); have A := zm (Kd.R_lower (Kd.R_newM (M := fun k_ => (w.heap.size ≤ k_)) X (keep_size (w := w) (g := g) (row := none) (zg_18 HK.out Zj.out)) (fun k_ h_ => h_)) (keep_size (w := w) (g := g) (row := none) (zg_18 HK.out Zj.out))); have B := zm (IsS42.below (zg_16 b.out Zg.out) hb); have C := zm (blk_below (g := m) (o := .cells #[.slice none 0 0, .slice none 0 0, .slice none 0 0, .slice none 0 0] 26 (0, 0)) (zg_3 Zh.out) hb); have D := zm (KeepBut.trans (zg_18 HK.out Zj.out) (KeepBut.of_below hb g none) (.inl rfl)); have E := zm (below_step (zg_17 HB.out b.out Zn.out) hb); have Zq := x; have Zr := y; have Zt := z; have Zs := A; replace b := B; replace Zh := C; replace HK := D; replace HB := E; clear x y z A B C D E; (try clear hb); (try clear hb2); (try clear hk); (try clear hi); (try clear U); (try clear V); (try clear a8); (try clear X)) | ((with_reducible refine gate_dst (N := 3) rfl ?_); refine box_event ?hg (N := 3) ?hd (cs := #[.slice none 0 0, .slice none 0 0, .slice none 0 0, .slice none 0 0]) (t := 26) ?hr ?_; (case hd => rfl); (case hg => rfl); (case hr => first | (go_simp; done) | (go_simp; rfl)); intro c hg w9 hbox hb; have x := zm (Kd.R_below (zg_6 Zq.out) hb); have y := zm (Kd.R_below (zg_6 Zr.out) hb); have z := zm (Kd.N_below (Kd.N_elderB (zg_4 Zt.out) c (Nat.le_of_eq hg.symm)) hb); have A := zm (Kd.R_below (zg_6 Zs.out) hb); have B := zm (IsS42.below (zg_16 b.out Zg.out) hb); have C := zm (blk_below (g := m) (o := .cells #[.slice none 0 0, .slice none 0 0, .slice none 0 0, .slice none 0 0] 26 (0, 0)) (zg_3 Zh.out) hb); have D := zm (KeepBut.trans (zg_18 HK.out Zj.out) (KeepBut.of_below hb g none) (.inl rfl)); have E := zm (below_step (zg_17 HB.out b.out Zn.out) hb); have F := zm (hbox); have a9 := zm ((by rw [hg]; exact (keep_size (w := w) (g := g) (row := none) (zg_18 HK.out Zj.out)) : w.heap.size ≤ c)); have a5 := zm ((Nat.le_trans I4.out (by rw [hg]; exact (keep_size (w := w) (g := g) (row := none) (zg_18 HK.out Zj.out)) : w.heap.size ≤ c) : T.heap.size ≤ c)); have a6 := zm ((by rw [hg]; exact Nat.ne_of_lt (blk_lt (g := m) (o := .cells #[.slice none 0 0, .slice none 0 0, .slice none 0 0, .slice none 0 0] 26 (0, 0)) (zg_3 Zh.out)) : m ≠ c)); have a7 := zm ((by rw [hg]; exact Nat.ne_of_gt (blk_lt (g := m) (o := .cells #[.slice none 0 0, .slice none 0 0, .slice none 0 0, .slice none 0 0] 26 (0, 0)) (zg_3 Zh.out)) : c ≠ m)); have u0 := zm ((by rw [hg]; exact Nat.ne_of_lt (IsS42.lt (show IsS42 T _ g u d8 d9 from zg_16 b.out Zg.out)) : g ≠ c)); have u1 := zm ((by rw [hg]; exact Nat.ne_of_gt (IsS42.lt (show IsS42 T _ g u d8 d9 from zg_16 b.out Zg.out)) : c ≠ g)); replace Zq := x; replace Zr := y; replace Zt := z; replace Zs := A; replace b := B; replace Zh := C; replace HK := D; replace HB := E; have Zc := F; have Zk := a9; have Zo := a5; have Zi := a6; have Zl := a7; have Zf := u0; have Zm := u1; clear x y z A B C D E F a9 a5 a6 a7 u0 u1; clear hb hbox hg; obtain ⟨b5, b6, J7⟩ := Kd.R_slice Zq.out; subst J7; have Z6 := Zl.out; have Z7 := Zi.out; have Z8 := Zm.out; have Z9 := Zf.out; obtain ⟨_, _, _, _, _, _, _, _⟩ := zb4 Zc.out; obtain ⟨b7, b8, J8⟩ := Kd.R_slice Zr.out; subst J8; obtain ⟨d5, d6, J9⟩ := Kd.N_slice Zt.out; subst J9; obtain ⟨b9, c0, K0⟩ := Kd.R_slice Zs.out; subst K0) | ((with_reducible refine gate_store (t := 26) (p := 3) rfl ?_); refine store_event (t := 26) (p := 3) (v := ?vo_w17) (w1 := ((((w9.setCell ⟨c, 0, none⟩ (.slice b5 b0.length b6)).setCell ⟨c, 1, none⟩ (.slice b7 b1.length b8)).setCell ⟨c, 2, none⟩ (.slice d5 c7.length d6)).setCell ⟨c, 3, none⟩ (.slice b9 b2.length c0))) ?hg ?ho ?hn ?hr ?_; (case ho => rfl); (case hg => rfl); (case hn => rfl); (case hr => first | (go_simp; done) | (go_simp; rfl)); intro e5 hw; have x : Aside0 (Kd.R (Kd.int .i64) 3 e5 w.heap.size (fun k_ => (w.heap.size ≤ k_) ∧ some k_ ≠ (.slice b7 b1.length b8 : Value).ownBlock ∧ some k_ ≠ (.slice b9 b2.length c0 : Value).ownBlock) (.slice b5 b0.length b6) b0) := ⟨(by rw [hw]; exact (Kd.R_mono (zR4 (Kd.R_types Zq.out Zc.out (by decide))) (fun _ hk => ⟨hk.1.1, ⟨hk.1.2.1, hk.1.2.2⟩⟩)))⟩; have y : Aside0 (Kd.R (Kd.int .i64) 3 e5 w.heap.size (fun k_ => (w.heap.size ≤ k_) ∧ some k_ ≠ (.slice b5 b0.length b6 : Value).ownBlock ∧ some k_ ≠ (.slice b9 b2.length c0 : Value).ownBlock) (.slice b7 b1.length b8) b1) := ⟨(by rw [hw]; exact (Kd.R_mono (zR4 (Kd.R_types Zr.out Zc.out (by decide))) (fun _ hk => ⟨hk.1.1, ⟨hk.1.2.1, hk.1.2.2⟩⟩)))⟩; have z : Aside0 (Kd.N k66 66 e5 w.heap.size (fun k_ => (w.heap.size ≤ k_) ∧ some k_ ≠ (.slice b5 b0.length b6 : Value).ownBlock ∧ some k_ ≠ (.slice b7 b1.length b8 : Value).ownBlock ∧ some k_ ≠ (.slice b9 b2.length c0 : Value).ownBlock ∧ k_ ≠ m ∧ k_ ≠ g ∧ k_ ≠ c) (.slice d5 c7.length d6) c7) := ⟨(by rw [hw]; exact (Kd.N_mono (zN4 (Kd.N_mono Zt.out (fun k_ hk => (⟨hk, hk.2⟩ : _ ∧ k_ ≠ c)))) (fun _ hk => ⟨hk.1.1.1, ⟨hk.1.1.2.1, ⟨hk.1.1.2.2.1, ⟨hk.1.1.2.2.2.1, ⟨hk.1.1.2.2.2.2.1, ⟨hk.1.1.2.2.2.2.2, hk.1.2⟩⟩⟩⟩⟩⟩)))⟩; have A : Aside0 (Kd.R (Kd.int .i64) 3 e5 w.heap.size (fun k_ => (w.heap.size ≤ k_) ∧ some k_ ≠ (.slice b5 b0.length b6 : Value).ownBlock ∧ some k_ ≠ (.slice b7 b1.length b8 : Value).ownBlock) (.slice b9 b2.length c0) b2) := ⟨(by rw [hw]; exact (Kd.R_mono (zR4 (Kd.R_types Zs.out Zc.out (by decide))) (fun _ hk => ⟨hk.1.1, ⟨hk.1.2.1, hk.1.2.2⟩⟩)))⟩; have B : Aside0 (e5.heap[m]? = some (.cells #[.slice none 0 0, .slice none 0 0, .slice none 0 0, .slice none 0 0] 26 (0, 0))) := ⟨(by rw [hw]; exact (by exact zfar4 Zh.out Zi.out))⟩; have C : Aside0 (e5.heap[c]? = some (.cells #[.slice b5 b0.length b6, .slice b7 b1.length b8, .slice d5 c7.length d6, .slice b9 b2.length c0] 26 (0, 0))) := ⟨(by rw [hw]; exact (by exact zput4 Zc.out))⟩; have D : Aside0 (IsS42 T e5 g u d8 d9) := ⟨(by rw [hw]; exact (zg_19 b.out Zg.out Zf.out))⟩; have E : Aside0 (KeepBut w e5 g none) := ⟨(by rw [hw]; exact (zg_20 HK.out Zj.out Zk.out))⟩; have F : Aside0 (Below T.heap.size T e5) := ⟨(by rw [hw]; exact (zg_21 HB.out b.out Zn.out Zo.out))⟩; clear hw; replace Zq := x; replace Zr := y; replace Zt := z; replace Zs := A; replace Zh := B; replace Zc := C; replace b := D; replace HK := E; replace HB := F; clear x y z A B C D E F) | ((with_reducible refine gate_callee (f := 21) rfl ?_); refine goesL_ (some 10) rfl rfl Tryz.func21 (by kernel_rfl) rfl #[.pointer (some ⟨g, 0, none⟩), .int .i64 2] rfl zq ?_; (with_reducible refine (spec_l00Src_chance.calls g u d8 d9 2 t8 e0 e1 T _ ?side1 ?side2 A4.out).mono ?_); (case side1 => exact (zg_19 b.out Zg.out Zf.out)); (case side2 => exact (zg_21 HB.out b.out Zn.out Zo.out)); rintro e CP ⟨rfl, hi, hb, hk⟩; refine ⟨_, rfl, ?_⟩; have x := zm (KeepBut.blk hk (g' := m) (o := .cells #[.slice none 0 0, .slice none 0 0, .slice none 0 0, .slice none 0 0] 26 (0, 0)) (zg_3 Zh.out) Zp.out (by simp)); have y := zm (Kd.R_mono (Kd.R_keep (IsS42.apart (show IsS42 T _ g u d8 d9 from zg_19 b.out Zg.out Zf.out) (zg_6 Zq.out) (by decide)) hk (fun _ h => h.2)) (fun _ h => h.1)); have z := zm (Kd.R_mono (Kd.R_keep (IsS42.apart (show IsS42 T _ g u d8 d9 from zg_19 b.out Zg.out Zf.out) (zg_6 Zr.out) (by decide)) hk (fun _ h => h.2)) (fun _ h => h.1)); have A := zm (Kd.N_mono (Kd.N_keep (Kd.N_mono (ok := fun k_ => (((w.heap.size ≤ k_)) ∧ (some k_ ≠ (.slice b5 b0.length b6 : Value).ownBlock ∧ (some k_ ≠ (.slice b7 b1.length b8 : Value).ownBlock ∧ (some k_ ≠ (.slice b9 b2.length c0 : Value).ownBlock ∧ (k_ ≠ m ∧ (k_ ≠ g ∧ k_ ≠ c))))))) (zg_4 Zt.out) (fun k_ hk_ => (⟨hk_, hk_.2.2.2.2.2.1⟩ : _ ∧ k_ ≠ g))) hk (fun _ h => h.2)) (fun _ h => h.1)); have B := zm (Kd.R_mono (Kd.R_keep (IsS42.apart (show IsS42 T _ g u d8 d9 from zg_19 b.out Zg.out Zf.out) (zg_6 Zs.out) (by decide)) hk (fun _ h => h.2)) (fun _ h => h.1)); have C := zm (KeepBut.blk hk (g' := c) (o := .cells #[.slice b5 b0.length b6, .slice b7 b1.length b8, .slice d5 c7.length d6, .slice b9 b2.length c0] 26 (0, 0)) (zg_3 Zc.out) Zm.out (by simp)); have D := zm (KeepBut.trans (zg_20 HK.out Zj.out Zk.out) hk (.inl rfl)); have E := zm (hb); have F := zm (hi); replace Zh := x; replace Zq := y; replace Zr := z; replace Zt := A; replace Zs := B; replace Zc := C; replace HK := D; replace HB := E; replace b := F; clear x y z A B C D E F; (try clear hb); (try clear hb2); (try clear hk); (try clear hi)))
 (try simp only [Act.put, zs, zz, zt])
 go_cut [] (fun wc => ∃ (kq : Nat) (c8 : Int) (c9 : Int) (d1 : List Int) (d2 : List Int) (d3 : List (S66)) (d4 : List Int) (q : Value) (Z : Value) (O : Value) (s : Value), Aside0 (spec_l00Src_image.j0 kq u c8 c9 d1 d2 d3 d4 = some (r1, r2, r3, r4, r5, r6)) ∧ Aside0 (kq ≤ k) ∧ Aside0 (Kd.R (Kd.int .i64) 3 wc w.heap.size (fun k_ => (w.heap.size ≤ k_) ∧ some k_ ≠ (Z : Value).ownBlock ∧ some k_ ≠ (s : Value).ownBlock) q d1) ∧ Aside0 (Kd.R (Kd.int .i64) 3 wc w.heap.size (fun k_ => (w.heap.size ≤ k_) ∧ some k_ ≠ (q : Value).ownBlock ∧ some k_ ≠ (s : Value).ownBlock) Z d2) ∧ Aside0 (Kd.N k66 66 wc w.heap.size (fun k_ => (w.heap.size ≤ k_) ∧ some k_ ≠ (q : Value).ownBlock ∧ some k_ ≠ (Z : Value).ownBlock ∧ some k_ ≠ (s : Value).ownBlock ∧ k_ ≠ m ∧ k_ ≠ c ∧ k_ ≠ g) O d3) ∧ Aside0 (Kd.R (Kd.int .i64) 3 wc w.heap.size (fun k_ => (w.heap.size ≤ k_) ∧ some k_ ≠ (q : Value).ownBlock ∧ some k_ ≠ (Z : Value).ownBlock) s d4) ∧ Aside0 (wc.heap[m]? = some (.cells #[(.slice none 0 0), (.slice none 0 0), (.slice none 0 0), (.slice none 0 0)] 26 (0, 0))) ∧ Aside0 (wc.heap[c]? = some (.cells #[q, Z, O, s] 26 (0, 0))) ∧ Aside0 (IsS42 T wc g u c8 c9) ∧ Aside0 (KeepBut w wc g none) ∧ Aside0 (Below T.heap.size T wc))
 case first =>
  have H := t9.out; clear t9
  by_cases h9 : t8 = true
  rotate_left
  ·replace h9 := Bool.eq_false_iff.mpr h9
   subst h9
   replace H : (spec_l00Src_image.j0 k u e0 e1 b0 b1 c7 b2) = some (r1, r2, r3, r4, r5, r6) := by rw [if_neg (show ¬ (false = true) by decide)] at H; exact H
   have H' := zm H
   clear H
   go_wp2
   go_meet
   case rel => exact ⟨_, (e0), (e1), (b0), (b1), (c7), (b2), (.slice b5 b0.length b6), (.slice b7 b1.length b8), (.slice d5 c7.length d6), (.slice b9 b2.length c0), H', ⟨by first | omega | exact Nat.le_refl _⟩, ⟨zlR Zq.out⟩, ⟨zlR Zr.out⟩, ⟨by (with_reducible repeat (first | apply Kd.N_alloc | apply Kd.N_drewN | apply Kd.N_drew)); exact Kd.N_mono Zt.out (fun _ hk => ⟨hk.1, ⟨hk.2.1, ⟨hk.2.2.1, ⟨hk.2.2.2.1, ⟨hk.2.2.2.2.1, ⟨hk.2.2.2.2.2.2, hk.2.2.2.2.2.1⟩⟩⟩⟩⟩⟩)⟩, ⟨zlR Zs.out⟩, ⟨zl Zh.out⟩, ⟨zl Zc.out⟩, ⟨zg_19 b.out Zg.out Zf.out⟩, ⟨zg_20 HK.out Zj.out Zk.out⟩, ⟨zg_21 HB.out b.out Zn.out Zo.out⟩⟩
  subst h9
  replace H : ((spec_l00Src_next.f u e0 e1 7).bind fun k8 => ((spec_l10New.f (wrap64 (6 + k8.1))).bind fun g1 => (spec_l00Src_image.j0 k u k8.2.1 k8.2.2 g1.1 g1.2.1 g1.2.2.1 g1.2.2.2))) = some (r1, r2, r3, r4, r5, r6) := by rw [if_pos rfl] at H; exact H
  replace H := Option.bind_eq_some_iff.mp H
  obtain ⟨⟨m2, u2, u3⟩, u4, H⟩ := H
  try dsimp only at H
  have q2 := zm u4; clear u4; replace H := Option.bind_eq_some_iff.mp H
  obtain ⟨⟨m3, m4, m5, m6⟩, u5, H⟩ := H
  try dsimp only at H
  have U9 := zm u5; clear u5
  have H' := zm H
  clear H
  go_wp2_with (first | ((with_reducible refine gate_callee (f := 20) rfl ?_); refine goesL_ (some 12) rfl rfl Tryz.func20 (by kernel_rfl) rfl #[.pointer (some ⟨g, 0, none⟩), .int .i64 7] rfl zq ?_; (with_reducible refine (spec_l00Src_next.calls g u e0 e1 7 m2 u2 u3 T _ ?side1 ?side2 q2.out).mono ?_); (case side1 => exact (zg_19 b.out Zg.out Zf.out)); (case side2 => exact (zg_21 HB.out b.out Zn.out Zo.out)); rintro e CQ ⟨rfl, hi, hb, hk⟩; refine ⟨_, rfl, ?_⟩; have x := zm (KeepBut.blk hk (g' := m) (o := .cells #[.slice none 0 0, .slice none 0 0, .slice none 0 0, .slice none 0 0] 26 (0, 0)) (zg_3 Zh.out) Zp.out (by simp)); have y := zm (Kd.R_mono (Kd.R_keep (IsS42.apart (show IsS42 T _ g u e0 e1 from zg_19 b.out Zg.out Zf.out) (zg_6 Zq.out) (by decide)) hk (fun _ h => h.2)) (fun _ h => h.1)); have z := zm (Kd.R_mono (Kd.R_keep (IsS42.apart (show IsS42 T _ g u e0 e1 from zg_19 b.out Zg.out Zf.out) (zg_6 Zr.out) (by decide)) hk (fun _ h => h.2)) (fun _ h => h.1)); have A := zm (Kd.N_mono (Kd.N_keep (Kd.N_mono (ok := fun k_ => (((w.heap.size ≤ k_)) ∧ (some k_ ≠ (.slice b5 b0.length b6 : Value).ownBlock ∧ (some k_ ≠ (.slice b7 b1.length b8 : Value).ownBlock ∧ (some k_ ≠ (.slice b9 b2.length c0 : Value).ownBlock ∧ (k_ ≠ m ∧ (k_ ≠ g ∧ k_ ≠ c))))))) (zg_4 Zt.out) (fun k_ hk_ => (⟨hk_, hk_.2.2.2.2.2.1⟩ : _ ∧ k_ ≠ g))) hk (fun _ h => h.2)) (fun _ h => h.1)); have B := zm (Kd.R_mono (Kd.R_keep (IsS42.apart (show IsS42 T _ g u e0 e1 from zg_19 b.out Zg.out Zf.out) (zg_6 Zs.out) (by decide)) hk (fun _ h => h.2)) (fun _ h => h.1)); have C := zm (KeepBut.blk hk (g' := c) (o := .cells #[.slice b5 b0.length b6, .slice b7 b1.length b8, .slice d5 c7.length d6, .slice b9 b2.length c0] 26 (0, 0)) (zg_3 Zc.out) Zm.out (by simp)); have D := zm (KeepBut.trans (zg_20 HK.out Zj.out Zk.out) hk (.inl rfl)); have E := zm (hb); have F := zm (hi); replace Zh := x; replace Zq := y; replace Zr := z; replace Zt := A; replace Zs := B; replace Zc := C; replace HK := D; replace HB := E; replace b := F; clear x y z A B C D E F; (try clear hb); (try clear hb2); (try clear hk); (try clear hi)) | ((with_reducible refine gate_callee (f := 19) rfl ?_); refine goesL_ (some 14) rfl rfl Tryz.func19 (by kernel_rfl) rfl #[.int .i64 (wrap64 (6 + m2))] rfl zq ?_; (with_reducible refine (spec_l10New.calls (wrap64 (6 + m2)) m3 m4 m5 m6 _ U9.out).mono ?_); rintro e CR ⟨K1, K2, BL, K3, rfl, U, V, a8, X, hb⟩; refine ⟨_, rfl, ?_⟩; have x := zm (Kd.R_mono (Kd.R_told (Kd.R_told (Kd.R_told (Kd.R_old (zg_6 Zq.out) hb) (Kd.R_base U)) (Kd.R_base V)) (Kd.R_base X)) (fun _ h_ => h_.1)); have y := zm (Kd.R_mono (Kd.R_told (Kd.R_told (Kd.R_told (Kd.R_old (zg_6 Zr.out) hb) (Kd.R_base U)) (Kd.R_base V)) (Kd.R_base X)) (fun _ h_ => h_.1)); have z := zm (Kd.N_mono (Kd.N_told (Kd.N_told (Kd.N_told (Kd.N_told (Kd.N_old (zg_4 Zt.out) hb) (Kd.R_base U)) (Kd.R_base V)) (Kd.N_base (Kd.S_N a8))) (Kd.R_base X)) (fun _ h_ => h_.1)); have A := zm (Kd.R_mono (Kd.R_told (Kd.R_told (Kd.R_told (Kd.R_old (zg_6 Zs.out) hb) (Kd.R_base U)) (Kd.R_base V)) (Kd.R_base X)) (fun _ h_ => h_.1)); have B := zm (Kd.R_lower (Kd.R_new' (Kd.R_new' (Kd.R_new' (Kd.R_newM (M := fun k_ => (w.heap.size ≤ k_)) U (keep_size (w := w) (g := g) (row := none) (zg_20 HK.out Zj.out Zk.out)) (fun k_ h_ => h_)) (Kd.R_lt (zg_6 Zq.out))) (Kd.R_lt (zg_6 Zr.out))) (Kd.R_lt (zg_6 Zs.out))) (keep_size (w := w) (g := g) (row := none) (zg_20 HK.out Zj.out Zk.out))); have C := zm (Kd.R_lower (Kd.R_new' (Kd.R_new' (Kd.R_new' (Kd.R_newM (M := fun k_ => (w.heap.size ≤ k_)) V (keep_size (w := w) (g := g) (row := none) (zg_20 HK.out Zj.out Zk.out)) (fun k_ h_ => h_)) (Kd.R_lt (zg_6 Zq.out))) (Kd.R_lt (zg_6 Zr.out))) (Kd.R_lt (zg_6 Zs.out))) (keep_size (w := w) (g := g) (row := none) (zg_20 HK.out Zj.out Zk.out))); have D := zm (Kd.N_lower (Kd.N_mono (ok' := fun k_ => (w.heap.size ≤ k_) ∧ some k_ ≠ (K1 : Value).ownBlock ∧ some k_ ≠ (K2 : Value).ownBlock ∧ some k_ ≠ (K3 : Value).ownBlock ∧ some k_ ≠ (.slice b5 b0.length b6 : Value).ownBlock ∧ some k_ ≠ (.slice b7 b1.length b8 : Value).ownBlock ∧ some k_ ≠ (.slice d5 c7.length d6 : Value).ownBlock ∧ some k_ ≠ (.slice b9 b2.length c0 : Value).ownBlock ∧ k_ ≠ m ∧ k_ ≠ c ∧ k_ ≠ g) (Kd.S_N (Kd.S_bound a8)) (fun k_ hk_ => ⟨(Nat.le_trans (keep_size (w := w) (g := g) (row := none) (zg_20 HK.out Zj.out Zk.out)) hk_.2.1), hk_.1.1, hk_.1.2.1, hk_.1.2.2, (Kd.fresh' (Kd.R_lt (zg_6 Zq.out)) k_ hk_.2.1), (Kd.fresh' (Kd.R_lt (zg_6 Zr.out)) k_ hk_.2.1), (Kd.fresh' (Kd.N_lt (zg_4 Zt.out)) k_ hk_.2.1), (Kd.fresh' (Kd.R_lt (zg_6 Zs.out)) k_ hk_.2.1), (Kd.freshB (g := m) (o := .cells #[.slice none 0 0, .slice none 0 0, .slice none 0 0, .slice none 0 0] 26 (0, 0)) (zg_3 Zh.out) k_ hk_.2.1), (Kd.freshB (g := c) (o := .cells #[.slice b5 b0.length b6, .slice b7 b1.length b8, .slice d5 c7.length d6, .slice b9 b2.length c0] 26 (0, 0)) (zg_3 Zc.out) k_ hk_.2.1), (IsS42.fresh (zg_19 b.out Zg.out Zf.out) k_ hk_.2.1)⟩)) (keep_size (w := w) (g := g) (row := none) (zg_20 HK.out Zj.out Zk.out))); have E := zm (Kd.R_lower (Kd.R_new' (Kd.R_new' (Kd.R_new' (Kd.R_newM (M := fun k_ => (w.heap.size ≤ k_)) X (keep_size (w := w) (g := g) (row := none) (zg_20 HK.out Zj.out Zk.out)) (fun k_ h_ => h_)) (Kd.R_lt (zg_6 Zq.out))) (Kd.R_lt (zg_6 Zr.out))) (Kd.R_lt (zg_6 Zs.out))) (keep_size (w := w) (g := g) (row := none) (zg_20 HK.out Zj.out Zk.out))); have F := zm (IsS42.below (zg_19 b.out Zg.out Zf.out) hb); have a9 := zm (blk_below (g := m) (o := .cells #[.slice none 0 0, .slice none 0 0, .slice none 0 0, .slice none 0 0] 26 (0, 0)) (zg_3 Zh.out) hb); have a5 := zm (blk_below (g := c) (o := .cells #[.slice b5 b0.length b6, .slice b7 b1.length b8, .slice d5 c7.length d6, .slice b9 b2.length c0] 26 (0, 0)) (zg_3 Zc.out) hb); have a6 := zm (KeepBut.trans (zg_20 HK.out Zj.out Zk.out) (KeepBut.of_below hb g none) (.inl rfl)); have a7 := zm (below_step (zg_21 HB.out b.out Zn.out Zo.out) hb); replace Zq := x; replace Zr := y; replace Zt := z; replace Zs := A; have Zu := B; have Zv := C; have Zw := D; have Zx := E; replace b := F; replace Zh := a9; replace Zc := a5; replace HK := a6; replace HB := a7; clear x y z A B C D E F a9 a5 a6 a7; (try clear hb); (try clear hb2); (try clear hk); (try clear hi); (try clear U); (try clear V); (try clear a8); (try clear X); obtain ⟨K4, K5, K6⟩ := Kd.R_slice Zu.out; subst K6; have AA := Zl.out; have AB := Zi.out; have AC := Zm.out; have AD := Zf.out; obtain ⟨_, _, _, _, _, _, _, _⟩ := zb4 Zc.out; obtain ⟨K7, K8, K9⟩ := Kd.R_slice Zv.out; subst K9; obtain ⟨L0, L1, L2⟩ := Kd.N_slice Zw.out; subst L2; obtain ⟨L3, L4, L5⟩ := Kd.R_slice Zx.out; subst L5))
  go_meet
  case rel => exact ⟨_, (u2), (u3), (m3), (m4), (m5), (m6), (.slice K4 m3.length K5), (.slice K7 m4.length K8), (.slice L0 m5.length L1), (.slice L3 m6.length L4), H', ⟨by first | omega | exact Nat.le_refl _⟩, ⟨Kd.R_mono (zR4 (Kd.R_types Zu.out Zc.out (by decide))) (fun _ hk => ⟨hk.1.1.1.1.1, ⟨hk.1.1.1.1.2.1, hk.1.1.1.1.2.2⟩⟩)⟩, ⟨Kd.R_mono (zR4 (Kd.R_types Zv.out Zc.out (by decide))) (fun _ hk => ⟨hk.1.1.1.1.1, ⟨hk.1.1.1.1.2.1, hk.1.1.1.1.2.2⟩⟩)⟩, ⟨Kd.N_mono (zN4 (Kd.N_mono Zw.out (fun k_ hk => (⟨hk, hk.2.2.2.2.2.2.2.2.2.1⟩ : _ ∧ k_ ≠ c)))) (fun _ hk => ⟨hk.1.1, ⟨hk.1.2.1, ⟨hk.1.2.2.1, ⟨hk.1.2.2.2.1, ⟨hk.1.2.2.2.2.2.2.2.2.1, ⟨hk.1.2.2.2.2.2.2.2.2.2.1, hk.1.2.2.2.2.2.2.2.2.2.2⟩⟩⟩⟩⟩⟩)⟩, ⟨Kd.R_mono (zR4 (Kd.R_types Zx.out Zc.out (by decide))) (fun _ hk => ⟨hk.1.1.1.1.1, ⟨hk.1.1.1.1.2.1, hk.1.1.1.1.2.2⟩⟩)⟩, ⟨by exact zfar4 Zh.out Zi.out⟩, ⟨by exact zput4 Zc.out⟩, ⟨zg_19 b.out Zg.out Zf.out⟩, ⟨zg_20 HK.out Zj.out Zk.out⟩, ⟨zg_21 HB.out b.out Zn.out Zo.out⟩⟩
 case rest =>
  clear t9
  try clear c1
  try clear c2
  try clear p2
  try clear p6
  try clear I7
  try clear I8
  try clear h9
  try clear I9
  try clear J0
  try clear J1
  try clear J2
  obtain ⟨kq, c8, c9, d1, d2, d3, d4, q, Z, O, s, HA, HJ4, Za, Zd, Ze, Zb, Zh, Zc, b, HK, HB⟩ := hcut
  cases kq with
  | zero => exact absurd HA.out (by simp [spec_l00Src_image.j0])
  | succ J3 =>
   have H := HA.out; clear HA
   simp only [spec_l00Src_image.j0] at H
   replace H := Option.bind_eq_some_iff.mp H
   obtain ⟨⟨m7, i0, i1⟩, u6, H⟩ := H
   try dsimp only at H
   have V2 := zm u6; clear u6; replace H := Option.bind_eq_some_iff.mp H
   obtain ⟨⟨u7, u8, u9⟩, v0, H⟩ := H
   try dsimp only at H
   have V3 := zm v0; clear v0
   have H' := zm H
   clear H
   go_wp2_with (first | ((with_reducible refine gate_callee (f := 22) rfl ?_); refine goesL_ (some 17) rfl rfl Tryz.func22 (by kernel_rfl) rfl #[.pointer (some ⟨g, 0, none⟩), .int .i64 20] rfl zq ?_; (with_reducible refine (spec_l00Src_size.calls g u c8 c9 20 m7 i0 i1 T _ ?side1 ?side2 V2.out).mono ?_); (case side1 => exact (zg_19 b.out Zg.out Zf.out)); (case side2 => exact (zg_21 HB.out b.out Zn.out Zo.out)); rintro e CS ⟨rfl, hi, hb, hk⟩; refine ⟨_, rfl, ?_⟩; have x := zm (Kd.R_mono (Kd.R_keep (IsS42.apart (show IsS42 T _ g u c8 c9 from zg_19 b.out Zg.out Zf.out) (zg_6 Za.out) (by decide)) hk (fun _ h => h.2)) (fun _ h => h.1)); have y := zm (Kd.R_mono (Kd.R_keep (IsS42.apart (show IsS42 T _ g u c8 c9 from zg_19 b.out Zg.out Zf.out) (zg_6 Zd.out) (by decide)) hk (fun _ h => h.2)) (fun _ h => h.1)); have z := zm (Kd.N_mono (Kd.N_keep (Kd.N_mono (ok := fun k_ => (((w.heap.size ≤ k_)) ∧ (some k_ ≠ (q : Value).ownBlock ∧ (some k_ ≠ (Z : Value).ownBlock ∧ (some k_ ≠ (s : Value).ownBlock ∧ (k_ ≠ m ∧ (k_ ≠ c ∧ k_ ≠ g))))))) (zg_4 Ze.out) (fun k_ hk_ => (⟨hk_, hk_.2.2.2.2.2.2⟩ : _ ∧ k_ ≠ g))) hk (fun _ h => h.2)) (fun _ h => h.1)); have A := zm (Kd.R_mono (Kd.R_keep (IsS42.apart (show IsS42 T _ g u c8 c9 from zg_19 b.out Zg.out Zf.out) (zg_6 Zb.out) (by decide)) hk (fun _ h => h.2)) (fun _ h => h.1)); have B := zm (KeepBut.blk hk (g' := m) (o := .cells #[.slice none 0 0, .slice none 0 0, .slice none 0 0, .slice none 0 0] 26 (0, 0)) (zg_3 Zh.out) Zp.out (by simp)); have C := zm (KeepBut.blk hk (g' := c) (o := .cells #[q, Z, O, s] 26 (0, 0)) (zg_3 Zc.out) Zm.out (by simp)); have D := zm (KeepBut.trans (zg_20 HK.out Zj.out Zk.out) hk (.inl rfl)); have E := zm (hb); have F := zm (hi); replace Za := x; replace Zd := y; replace Ze := z; replace Zb := A; replace Zh := B; replace Zc := C; replace HK := D; replace HB := E; replace b := F; clear x y z A B C D E F; (try clear hb); (try clear hb2); (try clear hk); (try clear hi)) | ((with_reducible refine gate_callee (f := 20) rfl ?_); refine goesL_ (some 19) rfl rfl Tryz.func20 (by kernel_rfl) rfl #[.pointer (some ⟨g, 0, none⟩), .int .i64 (wrap64 (m7 + 12))] rfl zq ?_; (with_reducible refine (spec_l00Src_next.calls g u i0 i1 (wrap64 (m7 + 12)) u7 u8 u9 T _ ?side1 ?side2 V3.out).mono ?_); (case side1 => exact (zg_19 b.out Zg.out Zf.out)); (case side2 => exact (zg_21 HB.out b.out Zn.out Zo.out)); rintro e CT ⟨rfl, hi, hb, hk⟩; refine ⟨_, rfl, ?_⟩; have x := zm (Kd.R_mono (Kd.R_keep (IsS42.apart (show IsS42 T _ g u i0 i1 from zg_19 b.out Zg.out Zf.out) (zg_6 Za.out) (by decide)) hk (fun _ h => h.2)) (fun _ h => h.1)); have y := zm (Kd.R_mono (Kd.R_keep (IsS42.apart (show IsS42 T _ g u i0 i1 from zg_19 b.out Zg.out Zf.out) (zg_6 Zd.out) (by decide)) hk (fun _ h => h.2)) (fun _ h => h.1)); have z := zm (Kd.N_mono (Kd.N_keep (Kd.N_mono (ok := fun k_ => (((w.heap.size ≤ k_)) ∧ (some k_ ≠ (q : Value).ownBlock ∧ (some k_ ≠ (Z : Value).ownBlock ∧ (some k_ ≠ (s : Value).ownBlock ∧ (k_ ≠ m ∧ (k_ ≠ c ∧ k_ ≠ g))))))) (zg_4 Ze.out) (fun k_ hk_ => (⟨hk_, hk_.2.2.2.2.2.2⟩ : _ ∧ k_ ≠ g))) hk (fun _ h => h.2)) (fun _ h => h.1)); have A := zm (Kd.R_mono (Kd.R_keep (IsS42.apart (show IsS42 T _ g u i0 i1 from zg_19 b.out Zg.out Zf.out) (zg_6 Zb.out) (by decide)) hk (fun _ h => h.2)) (fun _ h => h.1)); have B := zm (KeepBut.blk hk (g' := m) (o := .cells #[.slice none 0 0, .slice none 0 0, .slice none 0 0, .slice none 0 0] 26 (0, 0)) (zg_3 Zh.out) Zp.out (by simp)); have C := zm (KeepBut.blk hk (g' := c) (o := .cells #[q, Z, O, s] 26 (0, 0)) (zg_3 Zc.out) Zm.out (by simp)); have D := zm (KeepBut.trans (zg_20 HK.out Zj.out Zk.out) hk (.inl rfl)); have E := zm (hb); have F := zm (hi); replace Za := x; replace Zd := y; replace Ze := z; replace Zb := A; replace Zh := B; replace Zc := C; replace HK := D; replace HB := E; replace b := F; clear x y z A B C D E F; (try clear hb); (try clear hb2); (try clear hk); (try clear hi)))
   go_loopg [4] J3 (fun kq v4 w' => ∃ (d0 : Int) (b3 : Int) (b4 : Int) (d : List Int) (a : List Int) (j : List (S66)) (l : List Int) (q : Value) (Z : Value) (O : Value) (s : Value), v4 = .int .i64 d0 ∧ Aside0 (spec_l00Src_image.l0 kq d0 u b3 b4 d a j l = some (r1, r2, r3, r4, r5, r6)) ∧ Aside0 (kq ≤ J3) ∧ Aside0 (Kd.R (Kd.int .i64) 3 w' w.heap.size (fun k_ => (w.heap.size ≤ k_) ∧ some k_ ≠ (Z : Value).ownBlock ∧ some k_ ≠ (s : Value).ownBlock) q d) ∧ Aside0 (Kd.R (Kd.int .i64) 3 w' w.heap.size (fun k_ => (w.heap.size ≤ k_) ∧ some k_ ≠ (q : Value).ownBlock ∧ some k_ ≠ (s : Value).ownBlock) Z a) ∧ Aside0 (Kd.N k66 66 w' w.heap.size (fun k_ => (w.heap.size ≤ k_) ∧ some k_ ≠ (q : Value).ownBlock ∧ some k_ ≠ (Z : Value).ownBlock ∧ some k_ ≠ (s : Value).ownBlock ∧ k_ ≠ m ∧ k_ ≠ c ∧ k_ ≠ g) O j) ∧ Aside0 (Kd.R (Kd.int .i64) 3 w' w.heap.size (fun k_ => (w.heap.size ≤ k_) ∧ some k_ ≠ (q : Value).ownBlock ∧ some k_ ≠ (Z : Value).ownBlock) s l) ∧ Aside0 (w'.heap[m]? = some (.cells #[(.slice none 0 0), (.slice none 0 0), (.slice none 0 0), (.slice none 0 0)] 26 (0, 0))) ∧ Aside0 (w'.heap[c]? = some (.cells #[q, Z, O, s] 26 (0, 0))) ∧ Aside0 (IsS42 T w' g u b3 b4) ∧ Aside0 (KeepBut w w' g none) ∧ Aside0 (Below T.heap.size T w'))
   case atStart => exact ⟨(u7), (u8), (u9), (d1), (d2), (d3), (d4), (q), (Z), (O), (s), zr, H', ⟨Nat.le_refl _⟩, ⟨zlR Za.out⟩, ⟨zlR Zd.out⟩, ⟨zlN Ze.out⟩, ⟨zlR Zb.out⟩, ⟨zl Zh.out⟩, ⟨zl Zc.out⟩, ⟨zg_19 b.out Zg.out Zf.out⟩, ⟨zg_20 HK.out Zj.out Zk.out⟩, ⟨zg_21 HB.out b.out Zn.out Zo.out⟩⟩
   case round =>
    clear H'
    try clear c1
    try clear c2
    try clear p2
    try clear p6
    try clear I7
    try clear I8
    try clear h9
    try clear I9
    try clear J0
    try clear V4
    try clear J1
    try clear J2
    try clear p2
    try clear p6
    obtain ⟨d0, b3, b4, d, a, j, l, q, Z, O, s, rfl, HA, c6, Za, Zd, Ze, Zb, Zh, Zc, b, HK, HB⟩ := hrel
    cases gk with
    | zero => exact absurd HA.out (by simp [spec_l00Src_image.l0])
    | succ k2 =>
     have H := HA.out; clear HA
     simp only [spec_l00Src_image.l0] at H
     by_cases i2 : d0 > 0
     rotate_left
     ·rw [if_neg i2] at H
      have q3 := decide_eq_false i2; clear i2; replace H := Option.bind_eq_some_iff.mp H
      obtain ⟨⟨v1, v2, v3, v6⟩, q4, H⟩ := H
      try dsimp only at H
      have L6 := zm q4; clear q4
      simp only [Option.some.injEq, Prod.mk.injEq] at H
      obtain ⟨rfl, rfl, rfl, rfl, rfl, rfl⟩ := H
      have V5 := Zl.out; have V6 := Zi.out; have V7 := Zm.out; have V8 := Zf.out
      obtain ⟨_, _, _, _, _, _, _, _⟩ := zb4 Zc.out
      obtain ⟨g2, g3, C8⟩ := Kd.R_slice Za.out
      subst C8
      obtain ⟨g4, g5, C9⟩ := Kd.R_slice Zd.out
      subst C9
      obtain ⟨g6, g7, D0⟩ := Kd.N_slice Ze.out
      subst D0
      obtain ⟨g8, g9, D1⟩ := Kd.R_slice Zb.out
      subst D1
      go_wp2_with (first | ((with_reducible refine gate_callee (f := 31) rfl ?_); refine goesL_ (some 90) rfl rfl Tryz.func31 (by kernel_rfl) rfl #[.agg #[.slice g2 d.length g3, .slice g4 a.length g5, .slice g6 j.length g7, .slice g8 l.length g9]] rfl zq ?_; (with_reducible refine (spec_l10Own.calls k2 _ _ d _ _ a _ _ j _ _ l v1 v2 v3 v6 _ ?side1 ?side2 ?side3 ?side4 ?side5 ?side6 ?side7 ?side8 L6.out).mono ?_); (case side1 => exact zC ((Kd.R_reads' Za.out).2.2)); (case side2 => exact (Kd.R_reads' Za.out).2.1); (case side3 => exact zC ((Kd.R_reads' Zd.out).2.2)); (case side4 => exact (Kd.R_reads' Zd.out).2.1); (case side5 => exact zC ((Kd.N_reads' Ze.out).2.2)); (case side6 => exact (Kd.N_reads' Ze.out).2.1); (case side7 => exact zC ((Kd.R_reads' Zb.out).2.2)); (case side8 => exact (Kd.R_reads' Zb.out).2.1); rintro e BN ⟨L7, L8, BO, L9, rfl, U, V, a8, X, hb⟩; refine ⟨_, rfl, ?_⟩; have x := zm (Kd.R_mono (Kd.R_told (Kd.R_told (Kd.R_told (Kd.R_old (zg_6 Za.out) hb) (Kd.R_base U)) (Kd.R_base V)) (Kd.R_base X)) (fun _ h_ => h_.1)); have y := zm (Kd.R_mono (Kd.R_told (Kd.R_told (Kd.R_told (Kd.R_old (zg_6 Zd.out) hb) (Kd.R_base U)) (Kd.R_base V)) (Kd.R_base X)) (fun _ h_ => h_.1)); have z := zm (Kd.N_mono (Kd.N_told (Kd.N_told (Kd.N_told (Kd.N_told (Kd.N_old (zg_4 Ze.out) hb) (Kd.R_base U)) (Kd.R_base V)) (Kd.N_base (Kd.S_N a8))) (Kd.R_base X)) (fun _ h_ => h_.1)); have A := zm (Kd.R_mono (Kd.R_told (Kd.R_told (Kd.R_told (Kd.R_old (zg_6 Zb.out) hb) (Kd.R_base U)) (Kd.R_base V)) (Kd.R_base X)) (fun _ h_ => h_.1)); have B := zm (Kd.R_lower (Kd.R_new' (Kd.R_new' (Kd.R_new' (Kd.R_newM (M := fun k_ => (w.heap.size ≤ k_)) U (keep_size (w := w) (g := g) (row := none) (zg_20 HK.out Zj.out Zk.out)) (fun k_ h_ => h_)) (Kd.R_lt (zg_6 Za.out))) (Kd.R_lt (zg_6 Zd.out))) (Kd.R_lt (zg_6 Zb.out))) (keep_size (w := w) (g := g) (row := none) (zg_20 HK.out Zj.out Zk.out))); have C := zm (Kd.R_lower (Kd.R_new' (Kd.R_new' (Kd.R_new' (Kd.R_newM (M := fun k_ => (w.heap.size ≤ k_)) V (keep_size (w := w) (g := g) (row := none) (zg_20 HK.out Zj.out Zk.out)) (fun k_ h_ => h_)) (Kd.R_lt (zg_6 Za.out))) (Kd.R_lt (zg_6 Zd.out))) (Kd.R_lt (zg_6 Zb.out))) (keep_size (w := w) (g := g) (row := none) (zg_20 HK.out Zj.out Zk.out))); have D := zm (Kd.N_lower (Kd.N_mono (ok' := fun k_ => (w.heap.size ≤ k_) ∧ some k_ ≠ (L7 : Value).ownBlock ∧ some k_ ≠ (L8 : Value).ownBlock ∧ some k_ ≠ (L9 : Value).ownBlock ∧ some k_ ≠ (.slice g2 d.length g3 : Value).ownBlock ∧ some k_ ≠ (.slice g4 a.length g5 : Value).ownBlock ∧ some k_ ≠ (.slice g6 j.length g7 : Value).ownBlock ∧ some k_ ≠ (.slice g8 l.length g9 : Value).ownBlock ∧ k_ ≠ m ∧ k_ ≠ c ∧ k_ ≠ g) (Kd.S_N (Kd.S_bound a8)) (fun k_ hk_ => ⟨(Nat.le_trans (keep_size (w := w) (g := g) (row := none) (zg_20 HK.out Zj.out Zk.out)) hk_.2.1), hk_.1.1, hk_.1.2.1, hk_.1.2.2, (Kd.fresh' (Kd.R_lt (zg_6 Za.out)) k_ hk_.2.1), (Kd.fresh' (Kd.R_lt (zg_6 Zd.out)) k_ hk_.2.1), (Kd.fresh' (Kd.N_lt (zg_4 Ze.out)) k_ hk_.2.1), (Kd.fresh' (Kd.R_lt (zg_6 Zb.out)) k_ hk_.2.1), (Kd.freshB (g := m) (o := .cells #[.slice none 0 0, .slice none 0 0, .slice none 0 0, .slice none 0 0] 26 (0, 0)) (zg_3 Zh.out) k_ hk_.2.1), (Kd.freshB (g := c) (o := .cells #[.slice g2 d.length g3, .slice g4 a.length g5, .slice g6 j.length g7, .slice g8 l.length g9] 26 (0, 0)) (zg_3 Zc.out) k_ hk_.2.1), (IsS42.fresh (zg_19 b.out Zg.out Zf.out) k_ hk_.2.1)⟩)) (keep_size (w := w) (g := g) (row := none) (zg_20 HK.out Zj.out Zk.out))); have E := zm (Kd.R_lower (Kd.R_new' (Kd.R_new' (Kd.R_new' (Kd.R_newM (M := fun k_ => (w.heap.size ≤ k_)) X (keep_size (w := w) (g := g) (row := none) (zg_20 HK.out Zj.out Zk.out)) (fun k_ h_ => h_)) (Kd.R_lt (zg_6 Za.out))) (Kd.R_lt (zg_6 Zd.out))) (Kd.R_lt (zg_6 Zb.out))) (keep_size (w := w) (g := g) (row := none) (zg_20 HK.out Zj.out Zk.out))); have F := zm (blk_below (g := m) (o := .cells #[.slice none 0 0, .slice none 0 0, .slice none 0 0, .slice none 0 0] 26 (0, 0)) (zg_3 Zh.out) hb); have a9 := zm (blk_below (g := c) (o := .cells #[.slice g2 d.length g3, .slice g4 a.length g5, .slice g6 j.length g7, .slice g8 l.length g9] 26 (0, 0)) (zg_3 Zc.out) hb); have a5 := zm (IsS42.below (zg_19 b.out Zg.out Zf.out) hb); have a6 := zm (KeepBut.trans (zg_20 HK.out Zj.out Zk.out) (KeepBut.of_below hb g none) (.inl rfl)); have a7 := zm (below_step (zg_21 HB.out b.out Zn.out Zo.out) hb); replace Za := x; replace Zd := y; replace Ze := z; replace Zb := A; have ZW := B; have ZX := C; have ZY := D; have ZZ := E; replace Zh := F; replace Zc := a9; replace b := a5; replace HK := a6; replace HB := a7; clear x y z A B C D E F a9 a5 a6 a7; (try clear hb); (try clear hb2); (try clear hk); (try clear hi); (try clear U); (try clear V); (try clear a8); (try clear X); obtain ⟨D2, D3, D4⟩ := Kd.R_slice ZW.out; subst D4; have V9 := Zp.out; have W0 := Zg.out; obtain ⟨_, _, _, _, _, _, _, _⟩ := zb4 Zh.out; obtain ⟨D5, D6, D7⟩ := Kd.R_slice ZX.out; subst D7; obtain ⟨D8, D9, E0⟩ := Kd.N_slice ZY.out; subst E0; obtain ⟨E1, E2, E3⟩ := Kd.R_slice ZZ.out; subst E3))
      refine bodyPost_ret (results_cell_row rfl _ _ m 26 #[.slice D2 v1.length D3, .slice D5 v2.length D6, .slice D8 v3.length D9, .slice E1 v6.length E2] (0, 0) _ rfl (by exact zput4 Zh.out) Tryz.underlying26 rfl (by kernel_rfl)) rfl ?_
      exact ⟨_, _, _, _, ze, Kd.R_mono (zR4 (Kd.R_types ZW.out Zh.out (by decide))) (fun _ hk => ⟨hk.1.1.1.1.1, ⟨hk.1.1.1.1.2.1, hk.1.1.1.1.2.2⟩⟩), Kd.R_mono (zR4 (Kd.R_types ZX.out Zh.out (by decide))) (fun _ hk => ⟨hk.1.1.1.1.1, ⟨hk.1.1.1.1.2.1, hk.1.1.1.1.2.2⟩⟩), Kd.N_mono (zN4 (Kd.N_mono ZY.out (fun k_ hk => (⟨hk, hk.2.2.2.2.2.2.2.2.1⟩ : _ ∧ k_ ≠ m)))) (fun _ hk => ⟨hk.1.1, ⟨hk.1.2.1, ⟨hk.1.2.2.1, hk.1.2.2.2.1⟩⟩⟩), Kd.R_mono (zR4 (Kd.R_types ZZ.out Zh.out (by decide))) (fun _ hk => ⟨hk.1.1.1.1.1, ⟨hk.1.1.1.1.2.1, hk.1.1.1.1.2.2⟩⟩), zg_19 b.out Zg.out Zf.out, zg_21 HB.out b.out Zn.out Zo.out, zg_20 HK.out Zj.out Zk.out⟩
     rw [if_pos i2] at H; have q3 := decide_eq_true i2; clear i2; have Zaa := zm H; clear H; have AE := Zl.out; have AF := Zi.out; have AG := Zm.out; have AH := Zf.out
     obtain ⟨_, _, _, _, _, _, _, _⟩ := zb4 Zc.out
     obtain ⟨J, L, M0⟩ := Kd.R_slice Zd.out
     subst M0
     go_upto_if 27 with (fail)
     go_cut [5] (fun v5 wc => ∃ (kq : Nat) (d7 : Int) (G : Int) (I : Int), v5 = .int .i64 d7 ∧ Aside0 (spec_l00Src_image.j2 kq d0 d7 u G I d a j l = some (r1, r2, r3, r4, r5, r6)) ∧ Aside0 (kq ≤ k2) ∧ Aside0 (Kd.R (Kd.int .i64) 3 wc w.heap.size (fun k_ => (w.heap.size ≤ k_) ∧ some k_ ≠ ((.slice J a.length L) : Value).ownBlock ∧ some k_ ≠ (s : Value).ownBlock) q d) ∧ Aside0 (Kd.R (Kd.int .i64) 3 wc w.heap.size (fun k_ => (w.heap.size ≤ k_) ∧ some k_ ≠ (q : Value).ownBlock ∧ some k_ ≠ (s : Value).ownBlock) (.slice J a.length L) a) ∧ Aside0 (Kd.N k66 66 wc w.heap.size (fun k_ => (w.heap.size ≤ k_) ∧ some k_ ≠ (q : Value).ownBlock ∧ some k_ ≠ ((.slice J a.length L) : Value).ownBlock ∧ some k_ ≠ (s : Value).ownBlock ∧ k_ ≠ m ∧ k_ ≠ c ∧ k_ ≠ g) O j) ∧ Aside0 (Kd.R (Kd.int .i64) 3 wc w.heap.size (fun k_ => (w.heap.size ≤ k_) ∧ some k_ ≠ (q : Value).ownBlock ∧ some k_ ≠ ((.slice J a.length L) : Value).ownBlock) s l) ∧ Aside0 (wc.heap[m]? = some (.cells #[(.slice none 0 0), (.slice none 0 0), (.slice none 0 0), (.slice none 0 0)] 26 (0, 0))) ∧ Aside0 (wc.heap[c]? = some (.cells #[q, (.slice J a.length L), O, s] 26 (0, 0))) ∧ Aside0 (IsS42 T wc g u G I) ∧ Aside0 (KeepBut w wc g none) ∧ Aside0 (Below T.heap.size T wc))
     case first =>
      have H := Zaa.out; clear Zaa
      by_cases i3 : (a.length : Int) > 0
      rotate_left
      ·rw [if_neg i3] at H
       have e2 := decide_eq_false i3
       have h0 : decide (0 < a.length) = false := decide_eq_false (by omega)
       clear i3
       (first | rw [e2] | rw [h0] | (simp only [i64_w, i32_w]; rw [e2]) | skip)
       have H' := zm H
       clear H
       go_wp2
       go_meet
       case rel => exact ⟨_, (0), (b3), (b4), zr, H', ⟨by have := HJ4.out; have := c6.out; first | omega | exact Nat.le_refl _⟩, ⟨zlR Za.out⟩, ⟨zlR Zd.out⟩, ⟨zlN Ze.out⟩, ⟨zlR Zb.out⟩, ⟨zl Zh.out⟩, ⟨zl Zc.out⟩, ⟨zg_19 b.out Zg.out Zf.out⟩, ⟨zg_20 HK.out Zj.out Zk.out⟩, ⟨zg_21 HB.out b.out Zn.out Zo.out⟩⟩
      rw [if_pos i3] at H; have e2 := decide_eq_true i3
      have h0 : decide (0 < a.length) = true := decide_eq_true (by omega)
      clear i3
      (first | rw [e2] | rw [h0] | (simp only [i64_w, i32_w]; rw [e2]) | skip)
      replace H := Option.bind_eq_some_iff.mp H
      obtain ⟨⟨v7, v8, v9⟩, w2, H⟩ := H
      try dsimp only at H
      have W1 := zm w2; clear w2
      have H' := zm H
      clear H; have AI := Zl.out; have AJ := Zi.out; have AK := Zm.out; have AL := Zf.out
      obtain ⟨_, _, _, _, _, _, _, _⟩ := zb4 Zc.out
      go_wp2_with (first | ((with_reducible refine gate_callee (f := 20) rfl ?_); refine goesL_ (some 32) rfl rfl Tryz.func20 (by kernel_rfl) rfl #[.pointer (some ⟨g, 0, none⟩), .int .i64 (a.length : Int)] rfl zq ?_; (with_reducible refine (spec_l00Src_next.calls g u b3 b4 (a.length : Int) v7 v8 v9 T _ ?side1 ?side2 W1.out).mono ?_); (case side1 => exact (zg_19 b.out Zg.out Zf.out)); (case side2 => exact (zg_21 HB.out b.out Zn.out Zo.out)); rintro e CU ⟨rfl, hi, hb, hk⟩; refine ⟨_, rfl, ?_⟩; have x := zm (Kd.R_mono (Kd.R_keep (IsS42.apart (show IsS42 T _ g u b3 b4 from zg_19 b.out Zg.out Zf.out) (zg_6 Za.out) (by decide)) hk (fun _ h => h.2)) (fun _ h => h.1)); have y := zm (Kd.R_mono (Kd.R_keep (IsS42.apart (show IsS42 T _ g u b3 b4 from zg_19 b.out Zg.out Zf.out) (zg_6 Zd.out) (by decide)) hk (fun _ h => h.2)) (fun _ h => h.1)); have z := zm (Kd.N_mono (Kd.N_keep (Kd.N_mono (ok := fun k_ => (((w.heap.size ≤ k_)) ∧ (some k_ ≠ (q : Value).ownBlock ∧ (some k_ ≠ (.slice J a.length L : Value).ownBlock ∧ (some k_ ≠ (s : Value).ownBlock ∧ (k_ ≠ m ∧ (k_ ≠ c ∧ k_ ≠ g))))))) (zg_4 Ze.out) (fun k_ hk_ => (⟨hk_, hk_.2.2.2.2.2.2⟩ : _ ∧ k_ ≠ g))) hk (fun _ h => h.2)) (fun _ h => h.1)); have A := zm (Kd.R_mono (Kd.R_keep (IsS42.apart (show IsS42 T _ g u b3 b4 from zg_19 b.out Zg.out Zf.out) (zg_6 Zb.out) (by decide)) hk (fun _ h => h.2)) (fun _ h => h.1)); have B := zm (KeepBut.blk hk (g' := m) (o := .cells #[.slice none 0 0, .slice none 0 0, .slice none 0 0, .slice none 0 0] 26 (0, 0)) (zg_3 Zh.out) Zp.out (by simp)); have C := zm (KeepBut.blk hk (g' := c) (o := .cells #[q, .slice J a.length L, O, s] 26 (0, 0)) (zg_3 Zc.out) Zm.out (by simp)); have D := zm (KeepBut.trans (zg_20 HK.out Zj.out Zk.out) hk (.inl rfl)); have E := zm (hb); have F := zm (hi); replace Za := x; replace Zd := y; replace Ze := z; replace Zb := A; replace Zh := B; replace Zc := C; replace HK := D; replace HB := E; replace b := F; clear x y z A B C D E F; (try clear hb); (try clear hb2); (try clear hk); (try clear hi)))
      go_meet
      case rel => exact ⟨_, (v7), (v8), (v9), zr, H', ⟨by have := HJ4.out; have := c6.out; first | omega | exact Nat.le_refl _⟩, ⟨zlR Za.out⟩, ⟨zlR Zd.out⟩, ⟨zlN Ze.out⟩, ⟨zlR Zb.out⟩, ⟨zl Zh.out⟩, ⟨zl Zc.out⟩, ⟨zg_19 b.out Zg.out Zf.out⟩, ⟨zg_20 HK.out Zj.out Zk.out⟩, ⟨zg_21 HB.out b.out Zn.out Zo.out⟩⟩
     case rest =>
      clear Zaa
      try clear c1
      try clear c2
      try clear p2
      try clear c3
      try clear c4
      try clear p6
      try clear I7
      try clear I8
      try clear h9
      try clear I9
      try clear J0
      try clear V4
      try clear J1
      try clear J2
      try clear i2
      try clear q3
      try clear CV
      try clear CW
      try clear i3
      try clear e2
      try clear h0
      try clear CX
      try clear CY
      try clear p2
      try clear p6
      obtain ⟨kq, d7, G, I, rfl, HA, HJ35, Za, Zd, Ze, Zb, Zh, Zc, b, HK, HB⟩ := hcut
      cases kq with
      | zero => exact absurd HA.out (by simp [spec_l00Src_image.j2])
      | succ c5 =>
       have H := HA.out; clear HA
       simp only [spec_l00Src_image.j2] at H
       replace H := Option.bind_eq_some_iff.mp H
       obtain ⟨⟨Y, a3, a4⟩, w3, H⟩ := H
       try dsimp only at H
       have g0 := zm w3; clear w3
       by_cases i4 : Y = 0
       ·rw [if_pos i4] at H
        have E4 : (Y == 0) = true := beq_iff_eq.mpr i4
        have E5 : (Y != 0) = false := bne_eq_false_iff_eq.mpr i4
        clear i4; replace H := Option.bind_eq_some_iff.mp H
        obtain ⟨⟨m8, w4, w5⟩, x0, H⟩ := H
        try dsimp only at H
        have W2 := zm x0; clear x0; replace H := Option.bind_eq_some_iff.mp H
        obtain ⟨⟨m9, n0, n1, n2, M1⟩, x1, H⟩ := H
        try dsimp only at H
        have W3 := zm x1; clear x1
        have H' := zm H
        clear H
        try go_wp2_with (first | ((with_reducible refine gate_callee (f := 20) rfl ?_); refine goesL_ (some 34) rfl rfl Tryz.func20 (by kernel_rfl) rfl #[.pointer (some ⟨g, 0, none⟩), .int .i64 9] rfl zq ?_; (with_reducible refine (spec_l00Src_next.calls g u G I 9 Y a3 a4 T _ ?side1 ?side2 g0.out).mono ?_); (case side1 => exact (zg_19 b.out Zg.out Zf.out)); (case side2 => exact (zg_21 HB.out b.out Zn.out Zo.out)); rintro e W4 ⟨rfl, hi, hb, hk⟩; refine ⟨_, rfl, ?_⟩; have x := zm (Kd.R_mono (Kd.R_keep (IsS42.apart (show IsS42 T _ g u G I from zg_19 b.out Zg.out Zf.out) (zg_6 Za.out) (by decide)) hk (fun _ h => h.2)) (fun _ h => h.1)); have y := zm (Kd.R_mono (Kd.R_keep (IsS42.apart (show IsS42 T _ g u G I from zg_19 b.out Zg.out Zf.out) (zg_6 Zd.out) (by decide)) hk (fun _ h => h.2)) (fun _ h => h.1)); have z := zm (Kd.N_mono (Kd.N_keep (Kd.N_mono (ok := fun k_ => (((w.heap.size ≤ k_)) ∧ (some k_ ≠ (q : Value).ownBlock ∧ (some k_ ≠ (.slice J a.length L : Value).ownBlock ∧ (some k_ ≠ (s : Value).ownBlock ∧ (k_ ≠ m ∧ (k_ ≠ c ∧ k_ ≠ g))))))) (zg_4 Ze.out) (fun k_ hk_ => (⟨hk_, hk_.2.2.2.2.2.2⟩ : _ ∧ k_ ≠ g))) hk (fun _ h => h.2)) (fun _ h => h.1)); have A := zm (Kd.R_mono (Kd.R_keep (IsS42.apart (show IsS42 T _ g u G I from zg_19 b.out Zg.out Zf.out) (zg_6 Zb.out) (by decide)) hk (fun _ h => h.2)) (fun _ h => h.1)); have B := zm (KeepBut.blk hk (g' := m) (o := .cells #[.slice none 0 0, .slice none 0 0, .slice none 0 0, .slice none 0 0] 26 (0, 0)) (zg_3 Zh.out) Zp.out (by simp)); have C := zm (KeepBut.blk hk (g' := c) (o := .cells #[q, .slice J a.length L, O, s] 26 (0, 0)) (zg_3 Zc.out) Zm.out (by simp)); have D := zm (KeepBut.trans (zg_20 HK.out Zj.out Zk.out) hk (.inl rfl)); have E := zm (hb); have F := zm (hi); replace Za := x; replace Zd := y; replace Ze := z; replace Zb := A; replace Zh := B; replace Zc := C; replace HK := D; replace HB := E; replace b := F; clear x y z A B C D E F; (try clear hb); (try clear hb2); (try clear hk); (try clear hi)))
        have x := zm (Kd.R_drew Za.out); have y := zm (Kd.R_drew Zd.out); have z := zm (Kd.N_drew Ze.out); have A := zm (Kd.R_drew Zb.out); have B := zm (blk_drew Zh.out); have C := zm (blk_drew Zc.out); have D := zm (IsS42.drew b.out); have E := zm (keep_drew HK.out); have F := zm (below_drew1 HB.out); clear Za; clear Zd; clear Ze; clear Zb; clear Zh; clear Zc; clear b; clear HK; clear HB; have Za := x; have Zd := y; have Ze := z; have Zb := A; have Zh := B; have Zc := C; have b := D; have HK := E; have HB := F; clear x y z A B C D E F
        refine start_ (n := 8) (S := fun w' => w'.cell? ⟨c, 0, none⟩ = some (q) ∧ w'.cell? ⟨c, 1, none⟩ = some (.slice J a.length L) ∧ w'.cell? ⟨c, 2, none⟩ = some (O) ∧ w'.cell? ⟨c, 3, none⟩ = some (s)) (ds := [7]) #[ff, ff, ff, ff, ff, ff, ff, ff] (by kernel_rfl) rfl rfl ⟨(blk_cell Zc.out 0).trans rfl, (blk_cell Zc.out 1).trans rfl, (blk_cell Zc.out 2).trans rfl, (blk_cell Zc.out 3).trans rfl⟩ (fun hHeld => ?_); refine with_tabW spec_l00Src_image.tab14 spec_l00Src_image.bits14 (fun HT_ HW_ => ?_)
        generalize W4.drew = CZ at Za Zd Ze Zb Zh Zc b HK HB hHeld ⊢
        refine pure_ (i := 1) (N := some 51) (v := ?_) (a' := ?_) #[ff, tt, ff, ff, ff, ff, ff, ff] rfl rfl (any_of HT_.out (by kernel_rfl)) (fun _ _ _ h => h) (Or.inl ⟨by rfl, ?_⟩) ?_ ?_
        rotate_left
        ·intro w'
         go_simp
         with_reducible rfl
        rotate_left
        ·simp only [Act.put, zs, zz, zt, i64_w, i32_w]
         rfl
        refine take_ (i := 0) (N := some 50) (v := ?_) (a' := ?_) #[tt, tt, ff, ff, ff, ff, ff, ff] rfl rfl (take_ofW HT_.out HW_.out (by kernel_rfl)) (fun _ _ _ h => h) (Or.inl ⟨by rfl, ?_⟩) hHeld ?_ ?_
        rotate_left
        ·rintro w' ⟨s0, s1, s2, s3⟩
         go_simp
         with_reducible rfl
        rotate_left
        ·simp only [Act.put, zs, zz, zt, i64_w, i32_w]
         rfl
        refine one_ (i := 2) (N := some 52) #[tt, tt, tt, ff, ff, ff, ff, ff] rfl rfl (one_of HT_.out (by kernel_rfl)) (by decide) (fun K hK => ?_)
        refine goes_ Tryz.func24 (by kernel_rfl) rfl #[.pointer (some ⟨g, 0, none⟩)] (by rfl) rfl rfl zq ?_
        with_reducible refine (spec_l00Src_snapName.calls g u a3 a4 m8 w4 w5 T _ ?side1 ?side2 W2.out).mono ?_
        (case side1 => exact (zg_19 b.out Zg.out Zf.out))
        (case side2 => exact (zg_21 HB.out b.out Zn.out Zo.out))
        rintro e DA ⟨rfl, hi, hb, hk⟩
        refine ⟨_, rfl, ?_⟩
        have x := zm (Kd.R_mono (Kd.R_keep (IsS42.apart (show IsS42 T _ g u a3 a4 from zg_19 b.out Zg.out Zf.out) (zg_6 Za.out) (by decide)) hk (fun _ h => h.2)) (fun _ h => h.1)); have y := zm (Kd.R_mono (Kd.R_keep (IsS42.apart (show IsS42 T _ g u a3 a4 from zg_19 b.out Zg.out Zf.out) (zg_6 Zd.out) (by decide)) hk (fun _ h => h.2)) (fun _ h => h.1)); have z := zm (Kd.N_mono (Kd.N_keep (Kd.N_mono (ok := fun k_ => (((w.heap.size ≤ k_)) ∧ (some k_ ≠ (q : Value).ownBlock ∧ (some k_ ≠ (.slice J a.length L : Value).ownBlock ∧ (some k_ ≠ (s : Value).ownBlock ∧ (k_ ≠ m ∧ (k_ ≠ c ∧ k_ ≠ g))))))) (zg_4 Ze.out) (fun k_ hk_ => (⟨hk_, hk_.2.2.2.2.2.2⟩ : _ ∧ k_ ≠ g))) hk (fun _ h => h.2)) (fun _ h => h.1)); have A := zm (Kd.R_mono (Kd.R_keep (IsS42.apart (show IsS42 T _ g u a3 a4 from zg_19 b.out Zg.out Zf.out) (zg_6 Zb.out) (by decide)) hk (fun _ h => h.2)) (fun _ h => h.1)); have B := zm (KeepBut.blk hk (g' := m) (o := .cells #[.slice none 0 0, .slice none 0 0, .slice none 0 0, .slice none 0 0] 26 (0, 0)) (zg_3 Zh.out) Zp.out (by simp)); have C := zm (KeepBut.blk hk (g' := c) (o := .cells #[q, .slice J a.length L, O, s] 26 (0, 0)) (zg_3 Zc.out) Zm.out (by simp)); have D := zm (KeepBut.trans (zg_20 HK.out Zj.out Zk.out) hk (.inl rfl)); have E := zm (hb); have F := zm (hi); clear Za; clear Zd; clear Ze; clear Zb; clear Zh; clear Zc; clear HK; clear HB; clear b; have Za := x; have Zd := y; have Ze := z; have Zb := A; have Zh := B; have Zc := C; have HK := D; have HB := E; have b := F; clear x y z A B C D E F
        (try clear hb)
        (try clear hb2)
        (try clear hk)
        (try clear hi)
        obtain ⟨i5, i6, x2⟩ := Kd.R_slice Za.out
        (first | subst x2 | (injection x2 with f1_ f2_ f3_; have f4_ := f1_.symm; have f5_ := f3_.symm; clear f1_ f2_ f3_; subst f4_; subst f5_))
        obtain ⟨i7, i8, x3⟩ := Kd.N_slice Ze.out
        (first | subst x3 | (injection x3 with f1_ f2_ f3_; have f4_ := f1_.symm; have f5_ := f3_.symm; clear f1_ f2_ f3_; subst f4_; subst f5_))
        obtain ⟨i9, j1, x6⟩ := Kd.R_slice Zb.out
        (first | subst x6 | (injection x6 with f1_ f2_ f3_; have f4_ := f1_.symm; have f5_ := f3_.symm; clear f1_ f2_ f3_; subst f4_; subst f5_))
        refine hK.out _ _ ⟨(blk_cell Zc.out 0).trans rfl, (blk_cell Zc.out 1).trans rfl, (blk_cell Zc.out 2).trans rfl, (blk_cell Zc.out 3).trans rfl⟩ (fun hHeld => ?_)
        clear hK K
        refine norm_ (a' := ?_) ?_ ?_
        rotate_left
        ·show Act.put _ (some 52) _ = _
         simp only [Act.put, zs, zz, zt, i64_w, i32_w]
         rfl
        refine one_ (i := 3) (N := some 53) #[tt, tt, tt, tt, ff, ff, ff, ff] rfl rfl (one_of HT_.out (by kernel_rfl)) (by decide) (fun K hK => ?_)
        refine goes_ Tryz.func23 (by kernel_rfl) rfl #[.agg #[.slice i5 d.length i6, .slice J a.length L, .slice i7 j.length i8, .slice i9 l.length j1], .string m8] (by rfl) rfl rfl zq ?_
        with_reducible refine (spec_l10Create.calls c5 _ _ d _ _ a _ _ j _ _ l m8 m9 n0 n1 n2 M1 _ ?side1 ?side2 ?side3 ?side4 ?side5 ?side6 ?side7 ?side8 W3.out).mono ?_
        (case side1 => exact zC ((Kd.R_reads' Za.out).2.2))
        (case side2 => exact (Kd.R_reads' Za.out).2.1)
        (case side3 => exact zC ((Kd.R_reads' Zd.out).2.2))
        (case side4 => exact (Kd.R_reads' Zd.out).2.1)
        (case side5 => exact zC ((Kd.N_reads' Ze.out).2.2))
        (case side6 => exact (Kd.N_reads' Ze.out).2.1)
        (case side7 => exact zC ((Kd.R_reads' Zb.out).2.2))
        (case side8 => exact (Kd.R_reads' Zb.out).2.1)
        rintro e q5 ⟨M2, M3, BQ, M4, rfl, U, V, a8, X, hb⟩
        refine ⟨_, rfl, ?_⟩
        have x := zm (Kd.R_mono (Kd.R_told (Kd.R_told (Kd.R_told (Kd.R_old (zg_6 Za.out) hb) (Kd.R_base U)) (Kd.R_base V)) (Kd.R_base X)) (fun _ h_ => h_.1)); have y := zm (Kd.R_mono (Kd.R_told (Kd.R_told (Kd.R_told (Kd.R_old (zg_6 Zd.out) hb) (Kd.R_base U)) (Kd.R_base V)) (Kd.R_base X)) (fun _ h_ => h_.1)); have z := zm (Kd.N_mono (Kd.N_told (Kd.N_told (Kd.N_told (Kd.N_told (Kd.N_old (zg_4 Ze.out) hb) (Kd.R_base U)) (Kd.R_base V)) (Kd.N_base (Kd.S_N a8))) (Kd.R_base X)) (fun _ h_ => h_.1)); have A := zm (Kd.R_mono (Kd.R_told (Kd.R_told (Kd.R_told (Kd.R_old (zg_6 Zb.out) hb) (Kd.R_base U)) (Kd.R_base V)) (Kd.R_base X)) (fun _ h_ => h_.1)); have B := zm (Kd.R_lower (Kd.R_new' (Kd.R_new' (Kd.R_new' (Kd.R_newM (M := fun k_ => (w.heap.size ≤ k_)) U (keep_size (w := w) (g := g) (row := none) (zg_20 HK.out Zj.out Zk.out)) (fun k_ h_ => h_)) (Kd.R_lt (zg_6 Za.out))) (Kd.R_lt (zg_6 Zd.out))) (Kd.R_lt (zg_6 Zb.out))) (keep_size (w := w) (g := g) (row := none) (zg_20 HK.out Zj.out Zk.out))); have C := zm (Kd.R_lower (Kd.R_new' (Kd.R_new' (Kd.R_new' (Kd.R_newM (M := fun k_ => (w.heap.size ≤ k_)) V (keep_size (w := w) (g := g) (row := none) (zg_20 HK.out Zj.out Zk.out)) (fun k_ h_ => h_)) (Kd.R_lt (zg_6 Za.out))) (Kd.R_lt (zg_6 Zd.out))) (Kd.R_lt (zg_6 Zb.out))) (keep_size (w := w) (g := g) (row := none) (zg_20 HK.out Zj.out Zk.out))); have D := zm (Kd.N_lower (Kd.N_mono (ok' := fun k_ => (w.heap.size ≤ k_) ∧ some k_ ≠ (M2 : Value).ownBlock ∧ some k_ ≠ (M3 : Value).ownBlock ∧ some k_ ≠ (M4 : Value).ownBlock ∧ some k_ ≠ (.slice i5 d.length i6 : Value).ownBlock ∧ some k_ ≠ (.slice J a.length L : Value).ownBlock ∧ some k_ ≠ (.slice i7 j.length i8 : Value).ownBlock ∧ some k_ ≠ (.slice i9 l.length j1 : Value).ownBlock ∧ k_ ≠ m ∧ k_ ≠ c ∧ k_ ≠ g) (Kd.S_N (Kd.S_bound a8)) (fun k_ hk_ => ⟨(Nat.le_trans (keep_size (w := w) (g := g) (row := none) (zg_20 HK.out Zj.out Zk.out)) hk_.2.1), hk_.1.1, hk_.1.2.1, hk_.1.2.2, (Kd.fresh' (Kd.R_lt (zg_6 Za.out)) k_ hk_.2.1), (Kd.fresh' (Kd.R_lt (zg_6 Zd.out)) k_ hk_.2.1), (Kd.fresh' (Kd.N_lt (zg_4 Ze.out)) k_ hk_.2.1), (Kd.fresh' (Kd.R_lt (zg_6 Zb.out)) k_ hk_.2.1), (Kd.freshB (g := m) (o := .cells #[.slice none 0 0, .slice none 0 0, .slice none 0 0, .slice none 0 0] 26 (0, 0)) (zg_3 Zh.out) k_ hk_.2.1), (Kd.freshB (g := c) (o := .cells #[.slice i5 d.length i6, .slice J a.length L, .slice i7 j.length i8, .slice i9 l.length j1] 26 (0, 0)) (zg_3 Zc.out) k_ hk_.2.1), (IsS42.fresh (zg_19 b.out Zg.out Zf.out) k_ hk_.2.1)⟩)) (keep_size (w := w) (g := g) (row := none) (zg_20 HK.out Zj.out Zk.out))); have E := zm (Kd.R_lower (Kd.R_new' (Kd.R_new' (Kd.R_new' (Kd.R_newM (M := fun k_ => (w.heap.size ≤ k_)) X (keep_size (w := w) (g := g) (row := none) (zg_20 HK.out Zj.out Zk.out)) (fun k_ h_ => h_)) (Kd.R_lt (zg_6 Za.out))) (Kd.R_lt (zg_6 Zd.out))) (Kd.R_lt (zg_6 Zb.out))) (keep_size (w := w) (g := g) (row := none) (zg_20 HK.out Zj.out Zk.out))); have F := zm (blk_below (g := m) (o := .cells #[.slice none 0 0, .slice none 0 0, .slice none 0 0, .slice none 0 0] 26 (0, 0)) (zg_3 Zh.out) hb); have a9 := zm (blk_below (g := c) (o := .cells #[.slice i5 d.length i6, .slice J a.length L, .slice i7 j.length i8, .slice i9 l.length j1] 26 (0, 0)) (zg_3 Zc.out) hb); have a5 := zm (IsS42.below (zg_19 b.out Zg.out Zf.out) hb); have a6 := zm (KeepBut.trans (zg_20 HK.out Zj.out Zk.out) (KeepBut.of_below hb g none) (.inl rfl)); have a7 := zm (below_step (zg_21 HB.out b.out Zn.out Zo.out) hb); clear Za; clear Zd; clear Ze; clear Zb; clear Zh; clear Zc; clear b; clear HK; clear HB; have Za := x; have Zd := y; have Ze := z; have Zb := A; have Zy := B; have Zz := C; have ZA := D; have ZB := E; have Zh := F; have Zc := a9; have b := a5; have HK := a6; have HB := a7; clear x y z A B C D E F a9 a5 a6 a7
        (try clear hb)
        (try clear hb2)
        (try clear hk)
        (try clear hi)
        (try clear U)
        (try clear V)
        (try clear a8)
        (try clear X)
        obtain ⟨M5, M6, x7⟩ := Kd.R_slice Zy.out
        (first | subst x7 | (injection x7 with f1_ f2_ f3_; have f4_ := f1_.symm; have f5_ := f3_.symm; clear f1_ f2_ f3_; subst f4_; subst f5_))
        obtain ⟨M7, M8, x8⟩ := Kd.R_slice Zz.out
        (first | subst x8 | (injection x8 with f1_ f2_ f3_; have f4_ := f1_.symm; have f5_ := f3_.symm; clear f1_ f2_ f3_; subst f4_; subst f5_))
        obtain ⟨M9, N0, x9⟩ := Kd.N_slice ZA.out
        (first | subst x9 | (injection x9 with f1_ f2_ f3_; have f4_ := f1_.symm; have f5_ := f3_.symm; clear f1_ f2_ f3_; subst f4_; subst f5_))
        obtain ⟨N1, N2, y9⟩ := Kd.R_slice ZB.out
        (first | subst y9 | (injection y9 with f1_ f2_ f3_; have f4_ := f1_.symm; have f5_ := f3_.symm; clear f1_ f2_ f3_; subst f4_; subst f5_))
        refine hK.out _ _ ⟨(blk_cell Zc.out 0).trans rfl, (blk_cell Zc.out 1).trans rfl, (blk_cell Zc.out 2).trans rfl, (blk_cell Zc.out 3).trans rfl⟩ (fun hHeld => ?_)
        clear hK K
        refine norm_ (a' := ?_) ?_ ?_
        rotate_left
        ·show Act.put _ (some 53) _ = _
         simp only [Act.put, zs, zz, zt, i64_w, i32_w]
         rfl
        refine pure_ (i := 4) (N := some 49) (v := ?_) (a' := ?_) #[tt, tt, tt, tt, tt, ff, ff, ff] rfl rfl (any_of HT_.out (by kernel_rfl)) (fun _ _ _ h => h) (Or.inl ⟨by rfl, ?_⟩) ?_ ?_
        rotate_left
        ·intro w'
         go_simp
         with_reducible rfl
        rotate_left
        ·simp only [Act.put, zs, zz, zt, i64_w, i32_w]
         rfl
        refine pure_ (i := 5) (N := some 54) (v := ?_) (a' := ?_) #[tt, tt, tt, tt, tt, tt, ff, ff] rfl rfl (any_of HT_.out (by kernel_rfl)) (fun _ _ _ h => h) (Or.inl ⟨by rfl, ?_⟩) ?_ ?_
        rotate_left
        ·intro w'
         go_simp
         with_reducible rfl
        rotate_left
        ·simp only [Act.put, zs, zz, zt, i64_w, i32_w]
         rfl
        refine pure_ (i := 6) (N := some 55) (v := ?_) (a' := ?_) #[tt, tt, tt, tt, tt, tt, tt, ff] rfl rfl (any_of HT_.out (by kernel_rfl)) (fun _ _ _ h => h) (Or.inl ⟨by rfl, ?_⟩) ?_ ?_
        rotate_left
        ·intro w'
         go_simp
         with_reducible rfl
        rotate_left
        ·simp only [Act.put, zs, zz, zt, i64_w, i32_w]
         rfl
        refine last_ (i := 7) (N := none) #[tt, tt, tt, tt, tt, tt, tt, tt] rfl rfl (one_of HT_.out (by kernel_rfl)) (by decide) (fun K hK => ?_)
        have BR : q5.cell? ⟨c, 0, none⟩ = some (.slice i5 d.length i6) := (blk_cell Zc.out 0).trans rfl
        have AM := blk_frozen Zc.out 0; have S7 := Zi.out; have S8 := Zl.out
        have BS : q5.cell? ⟨c, 1, none⟩ = some (.slice J a.length L) := (blk_cell Zc.out 1).trans rfl
        have AN := blk_frozen Zc.out 1; have S9 := Zi.out; have T0 := Zl.out
        have BT : q5.cell? ⟨c, 2, none⟩ = some (.slice i7 j.length i8) := (blk_cell Zc.out 2).trans rfl
        have AO := blk_frozen Zc.out 2; have T1 := Zi.out; have T2 := Zl.out
        have BU : q5.cell? ⟨c, 3, none⟩ = some (.slice i9 l.length j1) := (blk_cell Zc.out 3).trans rfl
        have AP := blk_frozen Zc.out 3; have T3 := Zi.out; have T4 := Zl.out
        refine skip_ (w1 := ?_) (by rfl) rfl ?_ ?_
        rotate_left
        ·go_simp
         rfl
        refine hK.out _ _ ?_
        clear hK K
        refine done_ (done_of HT_.out (by kernel_rfl)) ?_
        try go_wp2
        go_roundg c5
        case measure => have := HJ4.out; have := c6.out; have := HJ35.out; omega
        case rel => exact ⟨(wrap64 (d0 - 1)), (w4), (w5), (m9), (n0), (n1), (n2), (.slice M5 m9.length M6), (.slice M7 n0.length M8), (.slice M9 n1.length N0), (.slice N1 n2.length N2), zr, H', ⟨by have := HJ4.out; have := c6.out; have := HJ35.out; omega⟩, ⟨Kd.R_mono (zR4 (Kd.R_types Zy.out Zc.out (by decide))) (fun _ hk => ⟨hk.1.1.1.1.1, ⟨hk.1.1.1.1.2.1, hk.1.1.1.1.2.2⟩⟩)⟩, ⟨Kd.R_mono (zR4 (Kd.R_types Zz.out Zc.out (by decide))) (fun _ hk => ⟨hk.1.1.1.1.1, ⟨hk.1.1.1.1.2.1, hk.1.1.1.1.2.2⟩⟩)⟩, ⟨Kd.N_mono (zN4 (Kd.N_mono ZA.out (fun k_ hk => (⟨hk, hk.2.2.2.2.2.2.2.2.2.1⟩ : _ ∧ k_ ≠ c)))) (fun _ hk => ⟨hk.1.1, ⟨hk.1.2.1, ⟨hk.1.2.2.1, ⟨hk.1.2.2.2.1, ⟨hk.1.2.2.2.2.2.2.2.2.1, ⟨hk.1.2.2.2.2.2.2.2.2.2.1, hk.1.2.2.2.2.2.2.2.2.2.2⟩⟩⟩⟩⟩⟩)⟩, ⟨Kd.R_mono (zR4 (Kd.R_types ZB.out Zc.out (by decide))) (fun _ hk => ⟨hk.1.1.1.1.1, ⟨hk.1.1.1.1.2.1, hk.1.1.1.1.2.2⟩⟩)⟩, ⟨by exact zfar4 Zh.out Zi.out⟩, ⟨by exact zput4 Zc.out⟩, ⟨zg_19 b.out Zg.out Zf.out⟩, ⟨zg_20 HK.out Zj.out Zk.out⟩, ⟨zg_21 HB.out b.out Zn.out Zo.out⟩⟩
       rw [if_neg i4] at H
       have E4 : (Y == 0) = false := beq_eq_false_iff_ne.mpr i4
       have E5 : (Y != 0) = true := bne_iff_ne.mpr i4
       by_cases j3 : Y = 1
       ·rw [if_pos j3] at H
        have E6 : (Y == 1) = true := beq_iff_eq.mpr j3
        have E7 : (Y != 1) = false := bne_eq_false_iff_eq.mpr j3
        clear j3; replace H := Option.bind_eq_some_iff.mp H
        obtain ⟨⟨n3, z0, z1⟩, z2, H⟩ := H
        try dsimp only at H
        have W5 := zm z2; clear z2; replace H := Option.bind_eq_some_iff.mp H
        obtain ⟨⟨n4, n5, n6, n7, N3⟩, z3, H⟩ := H
        try dsimp only at H
        have W6 := zm z3; clear z3
        have H' := zm H
        clear H
        try go_wp2_with (first | ((with_reducible refine gate_callee (f := 20) rfl ?_); refine goesL_ (some 34) rfl rfl Tryz.func20 (by kernel_rfl) rfl #[.pointer (some ⟨g, 0, none⟩), .int .i64 9] rfl zq ?_; (with_reducible refine (spec_l00Src_next.calls g u G I 9 Y a3 a4 T _ ?side1 ?side2 g0.out).mono ?_); (case side1 => exact (zg_19 b.out Zg.out Zf.out)); (case side2 => exact (zg_21 HB.out b.out Zn.out Zo.out)); rintro e W7 ⟨rfl, hi, hb, hk⟩; refine ⟨_, rfl, ?_⟩; have x := zm (Kd.R_mono (Kd.R_keep (IsS42.apart (show IsS42 T _ g u G I from zg_19 b.out Zg.out Zf.out) (zg_6 Za.out) (by decide)) hk (fun _ h => h.2)) (fun _ h => h.1)); have y := zm (Kd.R_mono (Kd.R_keep (IsS42.apart (show IsS42 T _ g u G I from zg_19 b.out Zg.out Zf.out) (zg_6 Zd.out) (by decide)) hk (fun _ h => h.2)) (fun _ h => h.1)); have z := zm (Kd.N_mono (Kd.N_keep (Kd.N_mono (ok := fun k_ => (((w.heap.size ≤ k_)) ∧ (some k_ ≠ (q : Value).ownBlock ∧ (some k_ ≠ (.slice J a.length L : Value).ownBlock ∧ (some k_ ≠ (s : Value).ownBlock ∧ (k_ ≠ m ∧ (k_ ≠ c ∧ k_ ≠ g))))))) (zg_4 Ze.out) (fun k_ hk_ => (⟨hk_, hk_.2.2.2.2.2.2⟩ : _ ∧ k_ ≠ g))) hk (fun _ h => h.2)) (fun _ h => h.1)); have A := zm (Kd.R_mono (Kd.R_keep (IsS42.apart (show IsS42 T _ g u G I from zg_19 b.out Zg.out Zf.out) (zg_6 Zb.out) (by decide)) hk (fun _ h => h.2)) (fun _ h => h.1)); have B := zm (KeepBut.blk hk (g' := m) (o := .cells #[.slice none 0 0, .slice none 0 0, .slice none 0 0, .slice none 0 0] 26 (0, 0)) (zg_3 Zh.out) Zp.out (by simp)); have C := zm (KeepBut.blk hk (g' := c) (o := .cells #[q, .slice J a.length L, O, s] 26 (0, 0)) (zg_3 Zc.out) Zm.out (by simp)); have D := zm (KeepBut.trans (zg_20 HK.out Zj.out Zk.out) hk (.inl rfl)); have E := zm (hb); have F := zm (hi); replace Za := x; replace Zd := y; replace Ze := z; replace Zb := A; replace Zh := B; replace Zc := C; replace HK := D; replace HB := E; replace b := F; clear x y z A B C D E F; (try clear hb); (try clear hb2); (try clear hk); (try clear hi)))
        have x := zm (Kd.R_drew Za.out); have y := zm (Kd.R_drew Zd.out); have z := zm (Kd.N_drew Ze.out); have A := zm (Kd.R_drew Zb.out); have B := zm (blk_drew Zh.out); have C := zm (blk_drew Zc.out); have D := zm (IsS42.drew b.out); have E := zm (keep_drew HK.out); have F := zm (below_drew1 HB.out); clear Za; clear Zd; clear Ze; clear Zb; clear Zh; clear Zc; clear b; clear HK; clear HB; have Za := x; have Zd := y; have Ze := z; have Zb := A; have Zh := B; have Zc := C; have b := D; have HK := E; have HB := F; clear x y z A B C D E F
        refine start_ (n := 8) (S := fun w' => w'.cell? ⟨c, 0, none⟩ = some (q) ∧ w'.cell? ⟨c, 1, none⟩ = some (.slice J a.length L) ∧ w'.cell? ⟨c, 2, none⟩ = some (O) ∧ w'.cell? ⟨c, 3, none⟩ = some (s)) (ds := [7]) #[ff, ff, ff, ff, ff, ff, ff, ff] (by kernel_rfl) rfl rfl ⟨(blk_cell Zc.out 0).trans rfl, (blk_cell Zc.out 1).trans rfl, (blk_cell Zc.out 2).trans rfl, (blk_cell Zc.out 3).trans rfl⟩ (fun hHeld => ?_); refine with_tabW spec_l00Src_image.tab16 spec_l00Src_image.bits16 (fun HT_ HW_ => ?_)
        generalize W7.drew = DB at Za Zd Ze Zb Zh Zc b HK HB hHeld ⊢
        refine pure_ (i := 1) (N := some 60) (v := ?_) (a' := ?_) #[ff, tt, ff, ff, ff, ff, ff, ff] rfl rfl (any_of HT_.out (by kernel_rfl)) (fun _ _ _ h => h) (Or.inl ⟨by rfl, ?_⟩) ?_ ?_
        rotate_left
        ·intro w'
         go_simp
         with_reducible rfl
        rotate_left
        ·simp only [Act.put, zs, zz, zt, i64_w, i32_w]
         rfl
        refine take_ (i := 0) (N := some 59) (v := ?_) (a' := ?_) #[tt, tt, ff, ff, ff, ff, ff, ff] rfl rfl (take_ofW HT_.out HW_.out (by kernel_rfl)) (fun _ _ _ h => h) (Or.inl ⟨by rfl, ?_⟩) hHeld ?_ ?_
        rotate_left
        ·rintro w' ⟨s0, s1, s2, s3⟩
         go_simp
         with_reducible rfl
        rotate_left
        ·simp only [Act.put, zs, zz, zt, i64_w, i32_w]
         rfl
        refine one_ (i := 2) (N := some 61) #[tt, tt, tt, ff, ff, ff, ff, ff] rfl rfl (one_of HT_.out (by kernel_rfl)) (by decide) (fun K hK => ?_)
        refine goes_ Tryz.func24 (by kernel_rfl) rfl #[.pointer (some ⟨g, 0, none⟩)] (by rfl) rfl rfl zq ?_
        with_reducible refine (spec_l00Src_snapName.calls g u a3 a4 n3 z0 z1 T _ ?side1 ?side2 W5.out).mono ?_
        (case side1 => exact (zg_19 b.out Zg.out Zf.out))
        (case side2 => exact (zg_21 HB.out b.out Zn.out Zo.out))
        rintro e DC ⟨rfl, hi, hb, hk⟩
        refine ⟨_, rfl, ?_⟩
        have x := zm (Kd.R_mono (Kd.R_keep (IsS42.apart (show IsS42 T _ g u a3 a4 from zg_19 b.out Zg.out Zf.out) (zg_6 Za.out) (by decide)) hk (fun _ h => h.2)) (fun _ h => h.1)); have y := zm (Kd.R_mono (Kd.R_keep (IsS42.apart (show IsS42 T _ g u a3 a4 from zg_19 b.out Zg.out Zf.out) (zg_6 Zd.out) (by decide)) hk (fun _ h => h.2)) (fun _ h => h.1)); have z := zm (Kd.N_mono (Kd.N_keep (Kd.N_mono (ok := fun k_ => (((w.heap.size ≤ k_)) ∧ (some k_ ≠ (q : Value).ownBlock ∧ (some k_ ≠ (.slice J a.length L : Value).ownBlock ∧ (some k_ ≠ (s : Value).ownBlock ∧ (k_ ≠ m ∧ (k_ ≠ c ∧ k_ ≠ g))))))) (zg_4 Ze.out) (fun k_ hk_ => (⟨hk_, hk_.2.2.2.2.2.2⟩ : _ ∧ k_ ≠ g))) hk (fun _ h => h.2)) (fun _ h => h.1)); have A := zm (Kd.R_mono (Kd.R_keep (IsS42.apart (show IsS42 T _ g u a3 a4 from zg_19 b.out Zg.out Zf.out) (zg_6 Zb.out) (by decide)) hk (fun _ h => h.2)) (fun _ h => h.1)); have B := zm (KeepBut.blk hk (g' := m) (o := .cells #[.slice none 0 0, .slice none 0 0, .slice none 0 0, .slice none 0 0] 26 (0, 0)) (zg_3 Zh.out) Zp.out (by simp)); have C := zm (KeepBut.blk hk (g' := c) (o := .cells #[q, .slice J a.length L, O, s] 26 (0, 0)) (zg_3 Zc.out) Zm.out (by simp)); have D := zm (KeepBut.trans (zg_20 HK.out Zj.out Zk.out) hk (.inl rfl)); have E := zm (hb); have F := zm (hi); clear Za; clear Zd; clear Ze; clear Zb; clear Zh; clear Zc; clear HK; clear HB; clear b; have Za := x; have Zd := y; have Ze := z; have Zb := A; have Zh := B; have Zc := C; have HK := D; have HB := E; have b := F; clear x y z A B C D E F
        (try clear hb)
        (try clear hb2)
        (try clear hk)
        (try clear hi)
        obtain ⟨j4, j5, z4⟩ := Kd.R_slice Za.out
        (first | subst z4 | (injection z4 with f1_ f2_ f3_; have f4_ := f1_.symm; have f5_ := f3_.symm; clear f1_ f2_ f3_; subst f4_; subst f5_))
        obtain ⟨j6, j7, z5⟩ := Kd.N_slice Ze.out
        (first | subst z5 | (injection z5 with f1_ f2_ f3_; have f4_ := f1_.symm; have f5_ := f3_.symm; clear f1_ f2_ f3_; subst f4_; subst f5_))
        obtain ⟨j8, j9, z6⟩ := Kd.R_slice Zb.out
        (first | subst z6 | (injection z6 with f1_ f2_ f3_; have f4_ := f1_.symm; have f5_ := f3_.symm; clear f1_ f2_ f3_; subst f4_; subst f5_))
        refine hK.out _ _ ⟨(blk_cell Zc.out 0).trans rfl, (blk_cell Zc.out 1).trans rfl, (blk_cell Zc.out 2).trans rfl, (blk_cell Zc.out 3).trans rfl⟩ (fun hHeld => ?_)
        clear hK K
        refine norm_ (a' := ?_) ?_ ?_
        rotate_left
        ·show Act.put _ (some 61) _ = _
         simp only [Act.put, zs, zz, zt, i64_w, i32_w]
         rfl
        refine one_ (i := 3) (N := some 62) #[tt, tt, tt, tt, ff, ff, ff, ff] rfl rfl (one_of HT_.out (by kernel_rfl)) (by decide) (fun K hK => ?_)
        refine goes_ Tryz.func25 (by kernel_rfl) rfl #[.agg #[.slice j4 d.length j5, .slice J a.length L, .slice j6 j.length j7, .slice j8 l.length j9], .string n3] (by rfl) rfl rfl zq ?_
        with_reducible refine (spec_l10Delete.calls c5 _ _ d _ _ a _ _ j _ _ l n3 n4 n5 n6 n7 N3 _ ?side1 ?side2 ?side3 ?side4 ?side5 ?side6 ?side7 ?side8 W6.out).mono ?_
        (case side1 => exact zC ((Kd.R_reads' Za.out).2.2))
        (case side2 => exact (Kd.R_reads' Za.out).2.1)
        (case side3 => exact zC ((Kd.R_reads' Zd.out).2.2))
        (case side4 => exact (Kd.R_reads' Zd.out).2.1)
        (case side5 => exact zC ((Kd.N_reads' Ze.out).2.2))
        (case side6 => exact (Kd.N_reads' Ze.out).2.1)
        (case side7 => exact zC ((Kd.R_reads' Zb.out).2.2))
        (case side8 => exact (Kd.R_reads' Zb.out).2.1)
        rintro e q6 ⟨n8, n9, BV, o0, rfl, U, V, a8, X, hb⟩
        refine ⟨_, rfl, ?_⟩
        have x := zm (Kd.R_mono (Kd.R_told (Kd.R_told (Kd.R_told (Kd.R_old (zg_6 Za.out) hb) (Kd.R_base U)) (Kd.R_base V)) (Kd.R_base X)) (fun _ h_ => h_.1)); have y := zm (Kd.R_mono (Kd.R_told (Kd.R_told (Kd.R_told (Kd.R_old (zg_6 Zd.out) hb) (Kd.R_base U)) (Kd.R_base V)) (Kd.R_base X)) (fun _ h_ => h_.1)); have z := zm (Kd.N_mono (Kd.N_told (Kd.N_told (Kd.N_told (Kd.N_told (Kd.N_old (zg_4 Ze.out) hb) (Kd.R_base U)) (Kd.R_base V)) (Kd.N_base a8)) (Kd.R_base X)) (fun _ h_ => h_.1)); have A := zm (Kd.R_mono (Kd.R_told (Kd.R_told (Kd.R_told (Kd.R_old (zg_6 Zb.out) hb) (Kd.R_base U)) (Kd.R_base V)) (Kd.R_base X)) (fun _ h_ => h_.1)); have B := zm (Kd.R_lower (Kd.R_new' (Kd.R_new' (Kd.R_new' (Kd.R_newM (M := fun k_ => (w.heap.size ≤ k_)) (Kd.R_mono (ok' := fun k_ => some k_ ≠ (n9 : Value).ownBlock ∧ some k_ ≠ (o0 : Value).ownBlock) U (fun _ hk_ => hk_.2)) (keep_size (w := w) (g := g) (row := none) (zg_20 HK.out Zj.out Zk.out)) (fun k_ h_ => h_)) (Kd.R_lt (zg_6 Za.out))) (Kd.R_lt (zg_6 Zd.out))) (Kd.R_lt (zg_6 Zb.out))) (keep_size (w := w) (g := g) (row := none) (zg_20 HK.out Zj.out Zk.out))); have C := zm (Kd.R_lower (Kd.R_new' (Kd.R_new' (Kd.R_new' (Kd.R_newM (M := fun k_ => (w.heap.size ≤ k_)) (Kd.R_mono (ok' := fun k_ => some k_ ≠ (n8 : Value).ownBlock ∧ some k_ ≠ (o0 : Value).ownBlock) V (fun _ hk_ => hk_.2)) (keep_size (w := w) (g := g) (row := none) (zg_20 HK.out Zj.out Zk.out)) (fun k_ h_ => h_)) (Kd.R_lt (zg_6 Za.out))) (Kd.R_lt (zg_6 Zd.out))) (Kd.R_lt (zg_6 Zb.out))) (keep_size (w := w) (g := g) (row := none) (zg_20 HK.out Zj.out Zk.out))); have D := zm (Kd.N_lower (Kd.N_mono (ok' := fun k_ => (w.heap.size ≤ k_) ∧ some k_ ≠ (n8 : Value).ownBlock ∧ some k_ ≠ (n9 : Value).ownBlock ∧ some k_ ≠ (o0 : Value).ownBlock ∧ some k_ ≠ (.slice j4 d.length j5 : Value).ownBlock ∧ some k_ ≠ (.slice J a.length L : Value).ownBlock ∧ some k_ ≠ (.slice j6 j.length j7 : Value).ownBlock ∧ some k_ ≠ (.slice j8 l.length j9 : Value).ownBlock ∧ k_ ≠ m ∧ k_ ≠ c ∧ k_ ≠ g) a8 (fun k_ hk_ => ⟨(Nat.le_trans (keep_size (w := w) (g := g) (row := none) (zg_20 HK.out Zj.out Zk.out)) hk_.1), hk_.2.1, hk_.2.2.1, hk_.2.2.2, (Kd.fresh' (Kd.R_lt (zg_6 Za.out)) k_ hk_.1), (Kd.fresh' (Kd.R_lt (zg_6 Zd.out)) k_ hk_.1), (Kd.fresh' (Kd.N_lt (zg_4 Ze.out)) k_ hk_.1), (Kd.fresh' (Kd.R_lt (zg_6 Zb.out)) k_ hk_.1), (Kd.freshB (g := m) (o := .cells #[.slice none 0 0, .slice none 0 0, .slice none 0 0, .slice none 0 0] 26 (0, 0)) (zg_3 Zh.out) k_ hk_.1), (Kd.freshB (g := c) (o := .cells #[.slice j4 d.length j5, .slice J a.length L, .slice j6 j.length j7, .slice j8 l.length j9] 26 (0, 0)) (zg_3 Zc.out) k_ hk_.1), (IsS42.fresh (zg_19 b.out Zg.out Zf.out) k_ hk_.1)⟩)) (keep_size (w := w) (g := g) (row := none) (zg_20 HK.out Zj.out Zk.out))); have E := zm (Kd.R_lower (Kd.R_new' (Kd.R_new' (Kd.R_new' (Kd.R_newM (M := fun k_ => (w.heap.size ≤ k_)) (Kd.R_mono (ok' := fun k_ => some k_ ≠ (n8 : Value).ownBlock ∧ some k_ ≠ (n9 : Value).ownBlock) X (fun _ hk_ => hk_.2)) (keep_size (w := w) (g := g) (row := none) (zg_20 HK.out Zj.out Zk.out)) (fun k_ h_ => h_)) (Kd.R_lt (zg_6 Za.out))) (Kd.R_lt (zg_6 Zd.out))) (Kd.R_lt (zg_6 Zb.out))) (keep_size (w := w) (g := g) (row := none) (zg_20 HK.out Zj.out Zk.out))); have F := zm (blk_below (g := m) (o := .cells #[.slice none 0 0, .slice none 0 0, .slice none 0 0, .slice none 0 0] 26 (0, 0)) (zg_3 Zh.out) hb); have a9 := zm (blk_below (g := c) (o := .cells #[.slice j4 d.length j5, .slice J a.length L, .slice j6 j.length j7, .slice j8 l.length j9] 26 (0, 0)) (zg_3 Zc.out) hb); have a5 := zm (IsS42.below (zg_19 b.out Zg.out Zf.out) hb); have a6 := zm (KeepBut.trans (zg_20 HK.out Zj.out Zk.out) (KeepBut.of_below hb g none) (.inl rfl)); have a7 := zm (below_step (zg_21 HB.out b.out Zn.out Zo.out) hb); clear Za; clear Zd; clear Ze; clear Zb; clear Zh; clear Zc; clear b; clear HK; clear HB; have Za := x; have Zd := y; have Ze := z; have Zb := A; have ZC := B; have ZD := C; have ZE := D; have ZF := E; have Zh := F; have Zc := a9; have b := a5; have HK := a6; have HB := a7; clear x y z A B C D E F a9 a5 a6 a7
        (try clear hb)
        (try clear hb2)
        (try clear hk)
        (try clear hi)
        (try clear U)
        (try clear V)
        (try clear a8)
        (try clear X)
        obtain ⟨N4, N5, z7⟩ := Kd.R_slice ZC.out
        (first | subst z7 | (injection z7 with f1_ f2_ f3_; have f4_ := f1_.symm; have f5_ := f3_.symm; clear f1_ f2_ f3_; subst f4_; subst f5_))
        obtain ⟨N6, N7, z8⟩ := Kd.R_slice ZD.out
        (first | subst z8 | (injection z8 with f1_ f2_ f3_; have f4_ := f1_.symm; have f5_ := f3_.symm; clear f1_ f2_ f3_; subst f4_; subst f5_))
        obtain ⟨N8, N9, z9⟩ := Kd.N_slice ZE.out
        (first | subst z9 | (injection z9 with f1_ f2_ f3_; have f4_ := f1_.symm; have f5_ := f3_.symm; clear f1_ f2_ f3_; subst f4_; subst f5_))
        obtain ⟨O0, O1, A0⟩ := Kd.R_slice ZF.out
        (first | subst A0 | (injection A0 with f1_ f2_ f3_; have f4_ := f1_.symm; have f5_ := f3_.symm; clear f1_ f2_ f3_; subst f4_; subst f5_))
        refine hK.out _ _ ⟨(blk_cell Zc.out 0).trans rfl, (blk_cell Zc.out 1).trans rfl, (blk_cell Zc.out 2).trans rfl, (blk_cell Zc.out 3).trans rfl⟩ (fun hHeld => ?_)
        clear hK K
        refine norm_ (a' := ?_) ?_ ?_
        rotate_left
        ·show Act.put _ (some 62) _ = _
         simp only [Act.put, zs, zz, zt, i64_w, i32_w]
         rfl
        refine pure_ (i := 4) (N := some 58) (v := ?_) (a' := ?_) #[tt, tt, tt, tt, tt, ff, ff, ff] rfl rfl (any_of HT_.out (by kernel_rfl)) (fun _ _ _ h => h) (Or.inl ⟨by rfl, ?_⟩) ?_ ?_
        rotate_left
        ·intro w'
         go_simp
         with_reducible rfl
        rotate_left
        ·simp only [Act.put, zs, zz, zt, i64_w, i32_w]
         rfl
        refine pure_ (i := 5) (N := some 63) (v := ?_) (a' := ?_) #[tt, tt, tt, tt, tt, tt, ff, ff] rfl rfl (any_of HT_.out (by kernel_rfl)) (fun _ _ _ h => h) (Or.inl ⟨by rfl, ?_⟩) ?_ ?_
        rotate_left
        ·intro w'
         go_simp
         with_reducible rfl
        rotate_left
        ·simp only [Act.put, zs, zz, zt, i64_w, i32_w]
         rfl
        refine pure_ (i := 6) (N := some 64) (v := ?_) (a' := ?_) #[tt, tt, tt, tt, tt, tt, tt, ff] rfl rfl (any_of HT_.out (by kernel_rfl)) (fun _ _ _ h => h) (Or.inl ⟨by rfl, ?_⟩) ?_ ?_
        rotate_left
        ·intro w'
         go_simp
         with_reducible rfl
        rotate_left
        ·simp only [Act.put, zs, zz, zt, i64_w, i32_w]
         rfl
        refine last_ (i := 7) (N := none) #[tt, tt, tt, tt, tt, tt, tt, tt] rfl rfl (one_of HT_.out (by kernel_rfl)) (by decide) (fun K hK => ?_)
        have BW : q6.cell? ⟨c, 0, none⟩ = some (.slice j4 d.length j5) := (blk_cell Zc.out 0).trans rfl
        have AQ := blk_frozen Zc.out 0; have T5 := Zi.out; have T6 := Zl.out
        have BX : q6.cell? ⟨c, 1, none⟩ = some (.slice J a.length L) := (blk_cell Zc.out 1).trans rfl
        have AR := blk_frozen Zc.out 1; have T7 := Zi.out; have T8 := Zl.out
        have BY : q6.cell? ⟨c, 2, none⟩ = some (.slice j6 j.length j7) := (blk_cell Zc.out 2).trans rfl
        have AS := blk_frozen Zc.out 2; have T9 := Zi.out; have U0 := Zl.out
        have BZ : q6.cell? ⟨c, 3, none⟩ = some (.slice j8 l.length j9) := (blk_cell Zc.out 3).trans rfl
        have AT := blk_frozen Zc.out 3; have U1 := Zi.out; have U2 := Zl.out
        refine skip_ (w1 := ?_) (by rfl) rfl ?_ ?_
        rotate_left
        ·go_simp
         rfl
        refine hK.out _ _ ?_
        clear hK K
        refine done_ (done_of HT_.out (by kernel_rfl)) ?_
        try go_wp2
        go_roundg c5
        case measure => have := HJ4.out; have := c6.out; have := HJ35.out; omega
        case rel => exact ⟨(wrap64 (d0 - 1)), (z0), (z1), (n4), (n5), (n6), (n7), (.slice N4 n4.length N5), (.slice N6 n5.length N7), (.slice N8 n6.length N9), (.slice O0 n7.length O1), zr, H', ⟨by have := HJ4.out; have := c6.out; have := HJ35.out; omega⟩, ⟨Kd.R_mono (zR4 (Kd.R_types ZC.out Zc.out (by decide))) (fun _ hk => ⟨hk.1.1.1.1.1, ⟨hk.1.1.1.1.2.1, hk.1.1.1.1.2.2⟩⟩)⟩, ⟨Kd.R_mono (zR4 (Kd.R_types ZD.out Zc.out (by decide))) (fun _ hk => ⟨hk.1.1.1.1.1, ⟨hk.1.1.1.1.2.1, hk.1.1.1.1.2.2⟩⟩)⟩, ⟨Kd.N_mono (zN4 (Kd.N_mono ZE.out (fun k_ hk => (⟨hk, hk.2.2.2.2.2.2.2.2.2.1⟩ : _ ∧ k_ ≠ c)))) (fun _ hk => ⟨hk.1.1, ⟨hk.1.2.1, ⟨hk.1.2.2.1, ⟨hk.1.2.2.2.1, ⟨hk.1.2.2.2.2.2.2.2.2.1, ⟨hk.1.2.2.2.2.2.2.2.2.2.1, hk.1.2.2.2.2.2.2.2.2.2.2⟩⟩⟩⟩⟩⟩)⟩, ⟨Kd.R_mono (zR4 (Kd.R_types ZF.out Zc.out (by decide))) (fun _ hk => ⟨hk.1.1.1.1.1, ⟨hk.1.1.1.1.2.1, hk.1.1.1.1.2.2⟩⟩)⟩, ⟨by exact zfar4 Zh.out Zi.out⟩, ⟨by exact zput4 Zc.out⟩, ⟨zg_19 b.out Zg.out Zf.out⟩, ⟨zg_20 HK.out Zj.out Zk.out⟩, ⟨zg_21 HB.out b.out Zn.out Zo.out⟩⟩
       rw [if_neg j3] at H
       have E6 : (Y == 1) = false := beq_eq_false_iff_ne.mpr j3
       have E7 : (Y != 1) = true := bne_iff_ne.mpr j3
       by_cases k0 : Y = 2
       ·rw [if_pos k0] at H
        have E8 : (Y == 2) = true := beq_iff_eq.mpr k0
        have E9 : (Y != 2) = false := bne_eq_false_iff_eq.mpr k0
        clear k0; replace H := Option.bind_eq_some_iff.mp H
        obtain ⟨⟨o1, A1, A5⟩, A6, H⟩ := H
        try dsimp only at H
        have W8 := zm A6; clear A6; replace H := Option.bind_eq_some_iff.mp H
        obtain ⟨⟨o2, o3, o4, o5, O2⟩, A7, H⟩ := H
        try dsimp only at H
        have W9 := zm A7; clear A7
        have H' := zm H
        clear H
        try go_wp2_with (first | ((with_reducible refine gate_callee (f := 20) rfl ?_); refine goesL_ (some 34) rfl rfl Tryz.func20 (by kernel_rfl) rfl #[.pointer (some ⟨g, 0, none⟩), .int .i64 9] rfl zq ?_; (with_reducible refine (spec_l00Src_next.calls g u G I 9 Y a3 a4 T _ ?side1 ?side2 g0.out).mono ?_); (case side1 => exact (zg_19 b.out Zg.out Zf.out)); (case side2 => exact (zg_21 HB.out b.out Zn.out Zo.out)); rintro e X0 ⟨rfl, hi, hb, hk⟩; refine ⟨_, rfl, ?_⟩; have x := zm (Kd.R_mono (Kd.R_keep (IsS42.apart (show IsS42 T _ g u G I from zg_19 b.out Zg.out Zf.out) (zg_6 Za.out) (by decide)) hk (fun _ h => h.2)) (fun _ h => h.1)); have y := zm (Kd.R_mono (Kd.R_keep (IsS42.apart (show IsS42 T _ g u G I from zg_19 b.out Zg.out Zf.out) (zg_6 Zd.out) (by decide)) hk (fun _ h => h.2)) (fun _ h => h.1)); have z := zm (Kd.N_mono (Kd.N_keep (Kd.N_mono (ok := fun k_ => (((w.heap.size ≤ k_)) ∧ (some k_ ≠ (q : Value).ownBlock ∧ (some k_ ≠ (.slice J a.length L : Value).ownBlock ∧ (some k_ ≠ (s : Value).ownBlock ∧ (k_ ≠ m ∧ (k_ ≠ c ∧ k_ ≠ g))))))) (zg_4 Ze.out) (fun k_ hk_ => (⟨hk_, hk_.2.2.2.2.2.2⟩ : _ ∧ k_ ≠ g))) hk (fun _ h => h.2)) (fun _ h => h.1)); have A := zm (Kd.R_mono (Kd.R_keep (IsS42.apart (show IsS42 T _ g u G I from zg_19 b.out Zg.out Zf.out) (zg_6 Zb.out) (by decide)) hk (fun _ h => h.2)) (fun _ h => h.1)); have B := zm (KeepBut.blk hk (g' := m) (o := .cells #[.slice none 0 0, .slice none 0 0, .slice none 0 0, .slice none 0 0] 26 (0, 0)) (zg_3 Zh.out) Zp.out (by simp)); have C := zm (KeepBut.blk hk (g' := c) (o := .cells #[q, .slice J a.length L, O, s] 26 (0, 0)) (zg_3 Zc.out) Zm.out (by simp)); have D := zm (KeepBut.trans (zg_20 HK.out Zj.out Zk.out) hk (.inl rfl)); have E := zm (hb); have F := zm (hi); replace Za := x; replace Zd := y; replace Ze := z; replace Zb := A; replace Zh := B; replace Zc := C; replace HK := D; replace HB := E; replace b := F; clear x y z A B C D E F; (try clear hb); (try clear hb2); (try clear hk); (try clear hi)))
        have x := zm (Kd.R_drew Za.out); have y := zm (Kd.R_drew Zd.out); have z := zm (Kd.N_drew Ze.out); have A := zm (Kd.R_drew Zb.out); have B := zm (blk_drew Zh.out); have C := zm (blk_drew Zc.out); have D := zm (IsS42.drew b.out); have E := zm (keep_drew HK.out); have F := zm (below_drew1 HB.out); clear Za; clear Zd; clear Ze; clear Zb; clear Zh; clear Zc; clear b; clear HK; clear HB; have Za := x; have Zd := y; have Ze := z; have Zb := A; have Zh := B; have Zc := C; have b := D; have HK := E; have HB := F; clear x y z A B C D E F
        refine start_ (n := 8) (S := fun w' => w'.cell? ⟨c, 0, none⟩ = some (q) ∧ w'.cell? ⟨c, 1, none⟩ = some (.slice J a.length L) ∧ w'.cell? ⟨c, 2, none⟩ = some (O) ∧ w'.cell? ⟨c, 3, none⟩ = some (s)) (ds := [7]) #[ff, ff, ff, ff, ff, ff, ff, ff] (by kernel_rfl) rfl rfl ⟨(blk_cell Zc.out 0).trans rfl, (blk_cell Zc.out 1).trans rfl, (blk_cell Zc.out 2).trans rfl, (blk_cell Zc.out 3).trans rfl⟩ (fun hHeld => ?_); refine with_tabW spec_l00Src_image.tab18 spec_l00Src_image.bits18 (fun HT_ HW_ => ?_)
        generalize X0.drew = DD at Za Zd Ze Zb Zh Zc b HK HB hHeld ⊢
        refine pure_ (i := 1) (N := some 69) (v := ?_) (a' := ?_) #[ff, tt, ff, ff, ff, ff, ff, ff] rfl rfl (any_of HT_.out (by kernel_rfl)) (fun _ _ _ h => h) (Or.inl ⟨by rfl, ?_⟩) ?_ ?_
        rotate_left
        ·intro w'
         go_simp
         with_reducible rfl
        rotate_left
        ·simp only [Act.put, zs, zz, zt, i64_w, i32_w]
         rfl
        refine take_ (i := 0) (N := some 68) (v := ?_) (a' := ?_) #[tt, tt, ff, ff, ff, ff, ff, ff] rfl rfl (take_ofW HT_.out HW_.out (by kernel_rfl)) (fun _ _ _ h => h) (Or.inl ⟨by rfl, ?_⟩) hHeld ?_ ?_
        rotate_left
        ·rintro w' ⟨s0, s1, s2, s3⟩
         go_simp
         with_reducible rfl
        rotate_left
        ·simp only [Act.put, zs, zz, zt, i64_w, i32_w]
         rfl
        refine one_ (i := 2) (N := some 70) #[tt, tt, tt, ff, ff, ff, ff, ff] rfl rfl (one_of HT_.out (by kernel_rfl)) (by decide) (fun K hK => ?_)
        refine goes_ Tryz.func24 (by kernel_rfl) rfl #[.pointer (some ⟨g, 0, none⟩)] (by rfl) rfl rfl zq ?_
        with_reducible refine (spec_l00Src_snapName.calls g u a3 a4 o1 A1 A5 T _ ?side1 ?side2 W8.out).mono ?_
        (case side1 => exact (zg_19 b.out Zg.out Zf.out))
        (case side2 => exact (zg_21 HB.out b.out Zn.out Zo.out))
        rintro e DE ⟨rfl, hi, hb, hk⟩
        refine ⟨_, rfl, ?_⟩
        have x := zm (Kd.R_mono (Kd.R_keep (IsS42.apart (show IsS42 T _ g u a3 a4 from zg_19 b.out Zg.out Zf.out) (zg_6 Za.out) (by decide)) hk (fun _ h => h.2)) (fun _ h => h.1)); have y := zm (Kd.R_mono (Kd.R_keep (IsS42.apart (show IsS42 T _ g u a3 a4 from zg_19 b.out Zg.out Zf.out) (zg_6 Zd.out) (by decide)) hk (fun _ h => h.2)) (fun _ h => h.1)); have z := zm (Kd.N_mono (Kd.N_keep (Kd.N_mono (ok := fun k_ => (((w.heap.size ≤ k_)) ∧ (some k_ ≠ (q : Value).ownBlock ∧ (some k_ ≠ (.slice J a.length L : Value).ownBlock ∧ (some k_ ≠ (s : Value).ownBlock ∧ (k_ ≠ m ∧ (k_ ≠ c ∧ k_ ≠ g))))))) (zg_4 Ze.out) (fun k_ hk_ => (⟨hk_, hk_.2.2.2.2.2.2⟩ : _ ∧ k_ ≠ g))) hk (fun _ h => h.2)) (fun _ h => h.1)); have A := zm (Kd.R_mono (Kd.R_keep (IsS42.apart (show IsS42 T _ g u a3 a4 from zg_19 b.out Zg.out Zf.out) (zg_6 Zb.out) (by decide)) hk (fun _ h => h.2)) (fun _ h => h.1)); have B := zm (KeepBut.blk hk (g' := m) (o := .cells #[.slice none 0 0, .slice none 0 0, .slice none 0 0, .slice none 0 0] 26 (0, 0)) (zg_3 Zh.out) Zp.out (by simp)); have C := zm (KeepBut.blk hk (g' := c) (o := .cells #[q, .slice J a.length L, O, s] 26 (0, 0)) (zg_3 Zc.out) Zm.out (by simp)); have D := zm (KeepBut.trans (zg_20 HK.out Zj.out Zk.out) hk (.inl rfl)); have E := zm (hb); have F := zm (hi); clear Za; clear Zd; clear Ze; clear Zb; clear Zh; clear Zc; clear HK; clear HB; clear b; have Za := x; have Zd := y; have Ze := z; have Zb := A; have Zh := B; have Zc := C; have HK := D; have HB := E; have b := F; clear x y z A B C D E F
        (try clear hb)
        (try clear hb2)
        (try clear hk)
        (try clear hi)
        obtain ⟨k1, k3, A8⟩ := Kd.R_slice Za.out
        (first | subst A8 | (injection A8 with f1_ f2_ f3_; have f4_ := f1_.symm; have f5_ := f3_.symm; clear f1_ f2_ f3_; subst f4_; subst f5_))
        obtain ⟨k4, k5, A9⟩ := Kd.N_slice Ze.out
        (first | subst A9 | (injection A9 with f1_ f2_ f3_; have f4_ := f1_.symm; have f5_ := f3_.symm; clear f1_ f2_ f3_; subst f4_; subst f5_))
        obtain ⟨k6, k7, B0⟩ := Kd.R_slice Zb.out
        (first | subst B0 | (injection B0 with f1_ f2_ f3_; have f4_ := f1_.symm; have f5_ := f3_.symm; clear f1_ f2_ f3_; subst f4_; subst f5_))
        refine hK.out _ _ ⟨(blk_cell Zc.out 0).trans rfl, (blk_cell Zc.out 1).trans rfl, (blk_cell Zc.out 2).trans rfl, (blk_cell Zc.out 3).trans rfl⟩ (fun hHeld => ?_)
        clear hK K
        refine norm_ (a' := ?_) ?_ ?_
        rotate_left
        ·show Act.put _ (some 70) _ = _
         simp only [Act.put, zs, zz, zt, i64_w, i32_w]
         rfl
        refine one_ (i := 3) (N := some 71) #[tt, tt, tt, tt, ff, ff, ff, ff] rfl rfl (one_of HT_.out (by kernel_rfl)) (by decide) (fun K hK => ?_)
        refine goes_ Tryz.func26 (by kernel_rfl) rfl #[.agg #[.slice k1 d.length k3, .slice J a.length L, .slice k4 j.length k5, .slice k6 l.length k7], .string o1] (by rfl) rfl rfl zq ?_
        with_reducible refine (spec_l10Revert.calls c5 _ _ d _ _ a _ _ j _ _ l o1 o2 o3 o4 o5 O2 _ ?side1 ?side2 ?side3 ?side4 ?side5 ?side6 ?side7 ?side8 W9.out).mono ?_
        (case side1 => exact zC ((Kd.R_reads' Za.out).2.2))
        (case side2 => exact (Kd.R_reads' Za.out).2.1)
        (case side3 => exact zC ((Kd.R_reads' Zd.out).2.2))
        (case side4 => exact (Kd.R_reads' Zd.out).2.1)
        (case side5 => exact zC ((Kd.N_reads' Ze.out).2.2))
        (case side6 => exact (Kd.N_reads' Ze.out).2.1)
        (case side7 => exact zC ((Kd.R_reads' Zb.out).2.2))
        (case side8 => exact (Kd.R_reads' Zb.out).2.1)
        rintro e q7 ⟨O3, O4, CA, O5, rfl, U, V, a8, X, hb⟩
        refine ⟨_, rfl, ?_⟩
        have x := zm (Kd.R_mono (Kd.R_told (Kd.R_told (Kd.R_told (Kd.R_old (zg_6 Za.out) hb) (Kd.R_base U)) (Kd.R_base V)) (Kd.R_base X)) (fun _ h_ => h_.1)); have y := zm (Kd.R_mono (Kd.R_told (Kd.R_told (Kd.R_told (Kd.R_old (zg_6 Zd.out) hb) (Kd.R_base U)) (Kd.R_base V)) (Kd.R_base X)) (fun _ h_ => h_.1)); have z := zm (Kd.N_mono (Kd.N_told (Kd.N_told (Kd.N_told (Kd.N_told (Kd.N_old (zg_4 Ze.out) hb) (Kd.R_base U)) (Kd.R_base V)) (Kd.N_base (Kd.S_N a8))) (Kd.R_base X)) (fun _ h_ => h_.1)); have A := zm (Kd.R_mono (Kd.R_told (Kd.R_told (Kd.R_told (Kd.R_old (zg_6 Zb.out) hb) (Kd.R_base U)) (Kd.R_base V)) (Kd.R_base X)) (fun _ h_ => h_.1)); have B := zm (Kd.R_lower (Kd.R_new' (Kd.R_new' (Kd.R_new' (Kd.R_newM (M := fun k_ => (w.heap.size ≤ k_)) U (keep_size (w := w) (g := g) (row := none) (zg_20 HK.out Zj.out Zk.out)) (fun k_ h_ => h_)) (Kd.R_lt (zg_6 Za.out))) (Kd.R_lt (zg_6 Zd.out))) (Kd.R_lt (zg_6 Zb.out))) (keep_size (w := w) (g := g) (row := none) (zg_20 HK.out Zj.out Zk.out))); have C := zm (Kd.R_lower (Kd.R_new' (Kd.R_new' (Kd.R_new' (Kd.R_newM (M := fun k_ => (w.heap.size ≤ k_)) V (keep_size (w := w) (g := g) (row := none) (zg_20 HK.out Zj.out Zk.out)) (fun k_ h_ => h_)) (Kd.R_lt (zg_6 Za.out))) (Kd.R_lt (zg_6 Zd.out))) (Kd.R_lt (zg_6 Zb.out))) (keep_size (w := w) (g := g) (row := none) (zg_20 HK.out Zj.out Zk.out))); have D := zm (Kd.N_lower (Kd.N_mono (ok' := fun k_ => (w.heap.size ≤ k_) ∧ some k_ ≠ (O3 : Value).ownBlock ∧ some k_ ≠ (O4 : Value).ownBlock ∧ some k_ ≠ (O5 : Value).ownBlock ∧ some k_ ≠ (.slice k1 d.length k3 : Value).ownBlock ∧ some k_ ≠ (.slice J a.length L : Value).ownBlock ∧ some k_ ≠ (.slice k4 j.length k5 : Value).ownBlock ∧ some k_ ≠ (.slice k6 l.length k7 : Value).ownBlock ∧ k_ ≠ m ∧ k_ ≠ c ∧ k_ ≠ g) (Kd.S_N (Kd.S_bound a8)) (fun k_ hk_ => ⟨(Nat.le_trans (keep_size (w := w) (g := g) (row := none) (zg_20 HK.out Zj.out Zk.out)) hk_.2.1), hk_.1.1, hk_.1.2.1, hk_.1.2.2, (Kd.fresh' (Kd.R_lt (zg_6 Za.out)) k_ hk_.2.1), (Kd.fresh' (Kd.R_lt (zg_6 Zd.out)) k_ hk_.2.1), (Kd.fresh' (Kd.N_lt (zg_4 Ze.out)) k_ hk_.2.1), (Kd.fresh' (Kd.R_lt (zg_6 Zb.out)) k_ hk_.2.1), (Kd.freshB (g := m) (o := .cells #[.slice none 0 0, .slice none 0 0, .slice none 0 0, .slice none 0 0] 26 (0, 0)) (zg_3 Zh.out) k_ hk_.2.1), (Kd.freshB (g := c) (o := .cells #[.slice k1 d.length k3, .slice J a.length L, .slice k4 j.length k5, .slice k6 l.length k7] 26 (0, 0)) (zg_3 Zc.out) k_ hk_.2.1), (IsS42.fresh (zg_19 b.out Zg.out Zf.out) k_ hk_.2.1)⟩)) (keep_size (w := w) (g := g) (row := none) (zg_20 HK.out Zj.out Zk.out))); have E := zm (Kd.R_lower (Kd.R_new' (Kd.R_new' (Kd.R_new' (Kd.R_newM (M := fun k_ => (w.heap.size ≤ k_)) X (keep_size (w := w) (g := g) (row := none) (zg_20 HK.out Zj.out Zk.out)) (fun k_ h_ => h_)) (Kd.R_lt (zg_6 Za.out))) (Kd.R_lt (zg_6 Zd.out))) (Kd.R_lt (zg_6 Zb.out))) (keep_size (w := w) (g := g) (row := none) (zg_20 HK.out Zj.out Zk.out))); have F := zm (blk_below (g := m) (o := .cells #[.slice none 0 0, .slice none 0 0, .slice none 0 0, .slice none 0 0] 26 (0, 0)) (zg_3 Zh.out) hb); have a9 := zm (blk_below (g := c) (o := .cells #[.slice k1 d.length k3, .slice J a.length L, .slice k4 j.length k5, .slice k6 l.length k7] 26 (0, 0)) (zg_3 Zc.out) hb); have a5 := zm (IsS42.below (zg_19 b.out Zg.out Zf.out) hb); have a6 := zm (KeepBut.trans (zg_20 HK.out Zj.out Zk.out) (KeepBut.of_below hb g none) (.inl rfl)); have a7 := zm (below_step (zg_21 HB.out b.out Zn.out Zo.out) hb); clear Za; clear Zd; clear Ze; clear Zb; clear Zh; clear Zc; clear b; clear HK; clear HB; have Za := x; have Zd := y; have Ze := z; have Zb := A; have ZG := B; have ZH := C; have ZI := D; have ZJ := E; have Zh := F; have Zc := a9; have b := a5; have HK := a6; have HB := a7; clear x y z A B C D E F a9 a5 a6 a7
        (try clear hb)
        (try clear hb2)
        (try clear hk)
        (try clear hi)
        (try clear U)
        (try clear V)
        (try clear a8)
        (try clear X)
        obtain ⟨O6, O7, B1⟩ := Kd.R_slice ZG.out
        (first | subst B1 | (injection B1 with f1_ f2_ f3_; have f4_ := f1_.symm; have f5_ := f3_.symm; clear f1_ f2_ f3_; subst f4_; subst f5_))
        obtain ⟨O8, O9, B2⟩ := Kd.R_slice ZH.out
        (first | subst B2 | (injection B2 with f1_ f2_ f3_; have f4_ := f1_.symm; have f5_ := f3_.symm; clear f1_ f2_ f3_; subst f4_; subst f5_))
        obtain ⟨P0, P1, B3⟩ := Kd.N_slice ZI.out
        (first | subst B3 | (injection B3 with f1_ f2_ f3_; have f4_ := f1_.symm; have f5_ := f3_.symm; clear f1_ f2_ f3_; subst f4_; subst f5_))
        obtain ⟨F0, F1, q8⟩ := Kd.R_slice ZJ.out
        (first | subst q8 | (injection q8 with f1_ f2_ f3_; have f4_ := f1_.symm; have f5_ := f3_.symm; clear f1_ f2_ f3_; subst f4_; subst f5_))
        refine hK.out _ _ ⟨(blk_cell Zc.out 0).trans rfl, (blk_cell Zc.out 1).trans rfl, (blk_cell Zc.out 2).trans rfl, (blk_cell Zc.out 3).trans rfl⟩ (fun hHeld => ?_)
        clear hK K
        refine norm_ (a' := ?_) ?_ ?_
        rotate_left
        ·show Act.put _ (some 71) _ = _
         simp only [Act.put, zs, zz, zt, i64_w, i32_w]
         rfl
        refine pure_ (i := 4) (N := some 67) (v := ?_) (a' := ?_) #[tt, tt, tt, tt, tt, ff, ff, ff] rfl rfl (any_of HT_.out (by kernel_rfl)) (fun _ _ _ h => h) (Or.inl ⟨by rfl, ?_⟩) ?_ ?_
        rotate_left
        ·intro w'
         go_simp
         with_reducible rfl
        rotate_left
        ·simp only [Act.put, zs, zz, zt, i64_w, i32_w]
         rfl
        refine pure_ (i := 5) (N := some 72) (v := ?_) (a' := ?_) #[tt, tt, tt, tt, tt, tt, ff, ff] rfl rfl (any_of HT_.out (by kernel_rfl)) (fun _ _ _ h => h) (Or.inl ⟨by rfl, ?_⟩) ?_ ?_
        rotate_left
        ·intro w'
         go_simp
         with_reducible rfl
        rotate_left
        ·simp only [Act.put, zs, zz, zt, i64_w, i32_w]
         rfl
        refine pure_ (i := 6) (N := some 73) (v := ?_) (a' := ?_) #[tt, tt, tt, tt, tt, tt, tt, ff] rfl rfl (any_of HT_.out (by kernel_rfl)) (fun _ _ _ h => h) (Or.inl ⟨by rfl, ?_⟩) ?_ ?_
        rotate_left
        ·intro w'
         go_simp
         with_reducible rfl
        rotate_left
        ·simp only [Act.put, zs, zz, zt, i64_w, i32_w]
         rfl
        refine last_ (i := 7) (N := none) #[tt, tt, tt, tt, tt, tt, tt, tt] rfl rfl (one_of HT_.out (by kernel_rfl)) (by decide) (fun K hK => ?_)
        have CB : q7.cell? ⟨c, 0, none⟩ = some (.slice k1 d.length k3) := (blk_cell Zc.out 0).trans rfl
        have AU := blk_frozen Zc.out 0; have U3 := Zi.out; have U4 := Zl.out
        have CC : q7.cell? ⟨c, 1, none⟩ = some (.slice J a.length L) := (blk_cell Zc.out 1).trans rfl
        have AV := blk_frozen Zc.out 1; have U5 := Zi.out; have U6 := Zl.out
        have CD : q7.cell? ⟨c, 2, none⟩ = some (.slice k4 j.length k5) := (blk_cell Zc.out 2).trans rfl
        have AW := blk_frozen Zc.out 2; have U7 := Zi.out; have U8 := Zl.out
        have AX : q7.cell? ⟨c, 3, none⟩ = some (.slice k6 l.length k7) := (blk_cell Zc.out 3).trans rfl
        have X1 := blk_frozen Zc.out 3; have P2 := Zi.out; have P3 := Zl.out
        refine skip_ (w1 := ?_) (by rfl) rfl ?_ ?_
        rotate_left
        ·go_simp
         rfl
        refine hK.out _ _ ?_
        clear hK K
        refine done_ (done_of HT_.out (by kernel_rfl)) ?_
        try go_wp2
        go_roundg c5
        case measure => have := HJ4.out; have := c6.out; have := HJ35.out; omega
        case rel => exact ⟨(wrap64 (d0 - 1)), (A1), (A5), (o2), (o3), (o4), (o5), (.slice O6 o2.length O7), (.slice O8 o3.length O9), (.slice P0 o4.length P1), (.slice F0 o5.length F1), zr, H', ⟨by have := HJ4.out; have := c6.out; have := HJ35.out; omega⟩, ⟨Kd.R_mono (zR4 (Kd.R_types ZG.out Zc.out (by decide))) (fun _ hk => ⟨hk.1.1.1.1.1, ⟨hk.1.1.1.1.2.1, hk.1.1.1.1.2.2⟩⟩)⟩, ⟨Kd.R_mono (zR4 (Kd.R_types ZH.out Zc.out (by decide))) (fun _ hk => ⟨hk.1.1.1.1.1, ⟨hk.1.1.1.1.2.1, hk.1.1.1.1.2.2⟩⟩)⟩, ⟨Kd.N_mono (zN4 (Kd.N_mono ZI.out (fun k_ hk => (⟨hk, hk.2.2.2.2.2.2.2.2.2.1⟩ : _ ∧ k_ ≠ c)))) (fun _ hk => ⟨hk.1.1, ⟨hk.1.2.1, ⟨hk.1.2.2.1, ⟨hk.1.2.2.2.1, ⟨hk.1.2.2.2.2.2.2.2.2.1, ⟨hk.1.2.2.2.2.2.2.2.2.2.1, hk.1.2.2.2.2.2.2.2.2.2.2⟩⟩⟩⟩⟩⟩)⟩, ⟨Kd.R_mono (zR4 (Kd.R_types ZJ.out Zc.out (by decide))) (fun _ hk => ⟨hk.1.1.1.1.1, ⟨hk.1.1.1.1.2.1, hk.1.1.1.1.2.2⟩⟩)⟩, ⟨by exact zfar4 Zh.out Zi.out⟩, ⟨by exact zput4 Zc.out⟩, ⟨zg_19 b.out Zg.out Zf.out⟩, ⟨zg_20 HK.out Zj.out Zk.out⟩, ⟨zg_21 HB.out b.out Zn.out Zo.out⟩⟩
       rw [if_neg k0] at H
       have E8 : (Y == 2) = false := beq_eq_false_iff_ne.mpr k0
       have E9 : (Y != 2) = true := bne_iff_ne.mpr k0
       by_cases e3 : Y = 3
       ·rw [if_pos e3] at H
        have B4 : (Y == 3) = true := beq_iff_eq.mpr e3
        have B5 : (Y != 3) = false := bne_eq_false_iff_eq.mpr e3
        clear e3; replace H := Option.bind_eq_some_iff.mp H
        obtain ⟨⟨o6, B6, B7⟩, q9, H⟩ := H
        try dsimp only at H
        have P4 := zm q9; clear q9; replace H := Option.bind_eq_some_iff.mp H
        obtain ⟨⟨o7, o8, o9, p0⟩, r0, H⟩ := H
        try dsimp only at H
        have P5 := zm r0; clear r0
        have H' := zm H
        clear H
        try go_wp2_with (first | ((with_reducible refine gate_callee (f := 20) rfl ?_); refine goesL_ (some 34) rfl rfl Tryz.func20 (by kernel_rfl) rfl #[.pointer (some ⟨g, 0, none⟩), .int .i64 9] rfl zq ?_; (with_reducible refine (spec_l00Src_next.calls g u G I 9 Y a3 a4 T _ ?side1 ?side2 g0.out).mono ?_); (case side1 => exact (zg_19 b.out Zg.out Zf.out)); (case side2 => exact (zg_21 HB.out b.out Zn.out Zo.out)); rintro e P6 ⟨rfl, hi, hb, hk⟩; refine ⟨_, rfl, ?_⟩; have x := zm (Kd.R_mono (Kd.R_keep (IsS42.apart (show IsS42 T _ g u G I from zg_19 b.out Zg.out Zf.out) (zg_6 Za.out) (by decide)) hk (fun _ h => h.2)) (fun _ h => h.1)); have y := zm (Kd.R_mono (Kd.R_keep (IsS42.apart (show IsS42 T _ g u G I from zg_19 b.out Zg.out Zf.out) (zg_6 Zd.out) (by decide)) hk (fun _ h => h.2)) (fun _ h => h.1)); have z := zm (Kd.N_mono (Kd.N_keep (Kd.N_mono (ok := fun k_ => (((w.heap.size ≤ k_)) ∧ (some k_ ≠ (q : Value).ownBlock ∧ (some k_ ≠ (.slice J a.length L : Value).ownBlock ∧ (some k_ ≠ (s : Value).ownBlock ∧ (k_ ≠ m ∧ (k_ ≠ c ∧ k_ ≠ g))))))) (zg_4 Ze.out) (fun k_ hk_ => (⟨hk_, hk_.2.2.2.2.2.2⟩ : _ ∧ k_ ≠ g))) hk (fun _ h => h.2)) (fun _ h => h.1)); have A := zm (Kd.R_mono (Kd.R_keep (IsS42.apart (show IsS42 T _ g u G I from zg_19 b.out Zg.out Zf.out) (zg_6 Zb.out) (by decide)) hk (fun _ h => h.2)) (fun _ h => h.1)); have B := zm (KeepBut.blk hk (g' := m) (o := .cells #[.slice none 0 0, .slice none 0 0, .slice none 0 0, .slice none 0 0] 26 (0, 0)) (zg_3 Zh.out) Zp.out (by simp)); have C := zm (KeepBut.blk hk (g' := c) (o := .cells #[q, .slice J a.length L, O, s] 26 (0, 0)) (zg_3 Zc.out) Zm.out (by simp)); have D := zm (KeepBut.trans (zg_20 HK.out Zj.out Zk.out) hk (.inl rfl)); have E := zm (hb); have F := zm (hi); replace Za := x; replace Zd := y; replace Ze := z; replace Zb := A; replace Zh := B; replace Zc := C; replace HK := D; replace HB := E; replace b := F; clear x y z A B C D E F; (try clear hb); (try clear hb2); (try clear hk); (try clear hi)))
        have x := zm (Kd.R_drew Za.out); have y := zm (Kd.R_drew Zd.out); have z := zm (Kd.N_drew Ze.out); have A := zm (Kd.R_drew Zb.out); have B := zm (blk_drew Zh.out); have C := zm (blk_drew Zc.out); have D := zm (IsS42.drew b.out); have E := zm (keep_drew HK.out); have F := zm (below_drew1 HB.out); clear Za; clear Zd; clear Ze; clear Zb; clear Zh; clear Zc; clear b; clear HK; clear HB; have Za := x; have Zd := y; have Ze := z; have Zb := A; have Zh := B; have Zc := C; have b := D; have HK := E; have HB := F; clear x y z A B C D E F
        refine start_ (n := 5) (S := fun w' => w'.cell? ⟨c, 0, none⟩ = some (q) ∧ w'.cell? ⟨c, 1, none⟩ = some (.slice J a.length L) ∧ w'.cell? ⟨c, 2, none⟩ = some (O) ∧ w'.cell? ⟨c, 3, none⟩ = some (s)) (ds := [4]) #[ff, ff, ff, ff, ff] (by kernel_rfl) rfl rfl ⟨(blk_cell Zc.out 0).trans rfl, (blk_cell Zc.out 1).trans rfl, (blk_cell Zc.out 2).trans rfl, (blk_cell Zc.out 3).trans rfl⟩ (fun hHeld => ?_)
        generalize P6.drew = CE at Za Zd Ze Zb Zh Zc b HK HB hHeld ⊢
        refine pure_ (i := 1) (N := some 77) (v := ?_) (a' := ?_) #[ff, tt, ff, ff, ff] rfl rfl (by kernel_rfl) (fun _ _ _ h => h) (Or.inl ⟨by rfl, ?_⟩) ?_ ?_
        rotate_left
        ·intro w'
         go_simp
         with_reducible rfl
        rotate_left
        ·simp only [Act.put, zs, zz, zt, i64_w, i32_w]
         rfl
        refine take_ (i := 0) (N := some 76) (v := ?_) (a' := ?_) #[tt, tt, ff, ff, ff] rfl rfl (by kernel_rfl) (fun _ _ _ h => h) (Or.inl ⟨by rfl, ?_⟩) hHeld ?_ ?_
        rotate_left
        ·rintro w' ⟨s0, s1, s2, s3⟩
         go_simp
         with_reducible rfl
        rotate_left
        ·simp only [Act.put, zs, zz, zt, i64_w, i32_w]
         rfl
        refine one_ (i := 2) (N := some 78) #[tt, tt, tt, ff, ff] rfl rfl (by kernel_rfl) (by decide) (fun K hK => ?_)
        refine goes_ Tryz.func20 (by kernel_rfl) rfl #[.pointer (some ⟨g, 0, none⟩), .int .i64 13] (by rfl) rfl rfl zq ?_
        with_reducible refine (spec_l00Src_next.calls g u a3 a4 13 o6 B6 B7 T _ ?side1 ?side2 P4.out).mono ?_
        (case side1 => exact (zg_19 b.out Zg.out Zf.out))
        (case side2 => exact (zg_21 HB.out b.out Zn.out Zo.out))
        rintro e CF ⟨rfl, hi, hb, hk⟩
        refine ⟨_, rfl, ?_⟩
        have x := zm (Kd.R_mono (Kd.R_keep (IsS42.apart (show IsS42 T _ g u a3 a4 from zg_19 b.out Zg.out Zf.out) (zg_6 Za.out) (by decide)) hk (fun _ h => h.2)) (fun _ h => h.1)); have y := zm (Kd.R_mono (Kd.R_keep (IsS42.apart (show IsS42 T _ g u a3 a4 from zg_19 b.out Zg.out Zf.out) (zg_6 Zd.out) (by decide)) hk (fun _ h => h.2)) (fun _ h => h.1)); have z := zm (Kd.N_mono (Kd.N_keep (Kd.N_mono (ok := fun k_ => (((w.heap.size ≤ k_)) ∧ (some k_ ≠ (q : Value).ownBlock ∧ (some k_ ≠ (.slice J a.length L : Value).ownBlock ∧ (some k_ ≠ (s : Value).ownBlock ∧ (k_ ≠ m ∧ (k_ ≠ c ∧ k_ ≠ g))))))) (zg_4 Ze.out) (fun k_ hk_ => (⟨hk_, hk_.2.2.2.2.2.2⟩ : _ ∧ k_ ≠ g))) hk (fun _ h => h.2)) (fun _ h => h.1)); have A := zm (Kd.R_mono (Kd.R_keep (IsS42.apart (show IsS42 T _ g u a3 a4 from zg_19 b.out Zg.out Zf.out) (zg_6 Zb.out) (by decide)) hk (fun _ h => h.2)) (fun _ h => h.1)); have B := zm (KeepBut.blk hk (g' := m) (o := .cells #[.slice none 0 0, .slice none 0 0, .slice none 0 0, .slice none 0 0] 26 (0, 0)) (zg_3 Zh.out) Zp.out (by simp)); have C := zm (KeepBut.blk hk (g' := c) (o := .cells #[q, .slice J a.length L, O, s] 26 (0, 0)) (zg_3 Zc.out) Zm.out (by simp)); have D := zm (KeepBut.trans (zg_20 HK.out Zj.out Zk.out) hk (.inl rfl)); have E := zm (hb); have F := zm (hi); clear Za; clear Zd; clear Ze; clear Zb; clear Zh; clear Zc; clear HK; clear HB; clear b; have Za := x; have Zd := y; have Ze := z; have Zb := A; have Zh := B; have Zc := C; have HK := D; have HB := E; have b := F; clear x y z A B C D E F
        (try clear hb)
        (try clear hb2)
        (try clear hk)
        (try clear hi)
        obtain ⟨e6, e7, r7⟩ := Kd.R_slice Za.out
        (first | subst r7 | (injection r7 with f1_ f2_ f3_; have f4_ := f1_.symm; have f5_ := f3_.symm; clear f1_ f2_ f3_; subst f4_; subst f5_))
        obtain ⟨e8, e9, r8⟩ := Kd.N_slice Ze.out
        (first | subst r8 | (injection r8 with f1_ f2_ f3_; have f4_ := f1_.symm; have f5_ := f3_.symm; clear f1_ f2_ f3_; subst f4_; subst f5_))
        obtain ⟨f0, f1, r9⟩ := Kd.R_slice Zb.out
        (first | subst r9 | (injection r9 with f1_ f2_ f3_; have f4_ := f1_.symm; have f5_ := f3_.symm; clear f1_ f2_ f3_; subst f4_; subst f5_))
        refine hK.out _ _ ⟨(blk_cell Zc.out 0).trans rfl, (blk_cell Zc.out 1).trans rfl, (blk_cell Zc.out 2).trans rfl, (blk_cell Zc.out 3).trans rfl⟩ (fun hHeld => ?_)
        clear hK K
        refine norm_ (a' := ?_) ?_ ?_
        rotate_left
        ·show Act.put _ (some 78) _ = _
         simp only [Act.put, zs, zz, zt, i64_w, i32_w]
         rfl
        refine one_ (i := 3) (N := some 79) #[tt, tt, tt, tt, ff] rfl rfl (by kernel_rfl) (by decide) (fun K hK => ?_)
        refine goes_ Tryz.func27 (by kernel_rfl) rfl #[.agg #[.slice e6 d.length e7, .slice J a.length L, .slice e8 j.length e9, .slice f0 l.length f1], .int .i64 o6] (by rfl) rfl rfl zq ?_
        with_reducible refine (spec_l10Resize.calls c5 _ _ d _ _ a _ _ j _ _ l o6 o7 o8 o9 p0 _ ?side1 ?side2 ?side3 ?side4 ?side5 ?side6 ?side7 ?side8 P5.out).mono ?_
        (case side1 => exact zC ((Kd.R_reads' Za.out).2.2))
        (case side2 => exact (Kd.R_reads' Za.out).2.1)
        (case side3 => exact zC ((Kd.R_reads' Zd.out).2.2))
        (case side4 => exact (Kd.R_reads' Zd.out).2.1)
        (case side5 => exact zC ((Kd.N_reads' Ze.out).2.2))
        (case side6 => exact (Kd.N_reads' Ze.out).2.1)
        (case side7 => exact zC ((Kd.R_reads' Zb.out).2.2))
        (case side8 => exact (Kd.R_reads' Zb.out).2.1)
        rintro e k9 ⟨P7, P8, CG, P9, rfl, U, V, a8, X, hb⟩
        refine ⟨_, rfl, ?_⟩
        have x := zm (Kd.R_mono (Kd.R_told (Kd.R_told (Kd.R_told (Kd.R_old (zg_6 Za.out) hb) (Kd.R_base U)) (Kd.R_base V)) (Kd.R_base X)) (fun _ h_ => h_.1)); have y := zm (Kd.R_mono (Kd.R_told (Kd.R_told (Kd.R_told (Kd.R_old (zg_6 Zd.out) hb) (Kd.R_base U)) (Kd.R_base V)) (Kd.R_base X)) (fun _ h_ => h_.1)); have z := zm (Kd.N_mono (Kd.N_told (Kd.N_told (Kd.N_told (Kd.N_told (Kd.N_old (zg_4 Ze.out) hb) (Kd.R_base U)) (Kd.R_base V)) (Kd.N_base (Kd.S_N a8))) (Kd.R_base X)) (fun _ h_ => h_.1)); have A := zm (Kd.R_mono (Kd.R_told (Kd.R_told (Kd.R_told (Kd.R_old (zg_6 Zb.out) hb) (Kd.R_base U)) (Kd.R_base V)) (Kd.R_base X)) (fun _ h_ => h_.1)); have B := zm (Kd.R_lower (Kd.R_new' (Kd.R_new' (Kd.R_new' (Kd.R_newM (M := fun k_ => (w.heap.size ≤ k_)) U (keep_size (w := w) (g := g) (row := none) (zg_20 HK.out Zj.out Zk.out)) (fun k_ h_ => h_)) (Kd.R_lt (zg_6 Za.out))) (Kd.R_lt (zg_6 Zd.out))) (Kd.R_lt (zg_6 Zb.out))) (keep_size (w := w) (g := g) (row := none) (zg_20 HK.out Zj.out Zk.out))); have C := zm (Kd.R_lower (Kd.R_new' (Kd.R_new' (Kd.R_new' (Kd.R_newM (M := fun k_ => (w.heap.size ≤ k_)) V (keep_size (w := w) (g := g) (row := none) (zg_20 HK.out Zj.out Zk.out)) (fun k_ h_ => h_)) (Kd.R_lt (zg_6 Za.out))) (Kd.R_lt (zg_6 Zd.out))) (Kd.R_lt (zg_6 Zb.out))) (keep_size (w := w) (g := g) (row := none) (zg_20 HK.out Zj.out Zk.out))); have D := zm (Kd.N_lower (Kd.N_mono (ok' := fun k_ => (w.heap.size ≤ k_) ∧ some k_ ≠ (P7 : Value).ownBlock ∧ some k_ ≠ (P8 : Value).ownBlock ∧ some k_ ≠ (P9 : Value).ownBlock ∧ some k_ ≠ (.slice e6 d.length e7 : Value).ownBlock ∧ some k_ ≠ (.slice J a.length L : Value).ownBlock ∧ some k_ ≠ (.slice e8 j.length e9 : Value).ownBlock ∧ some k_ ≠ (.slice f0 l.length f1 : Value).ownBlock ∧ k_ ≠ m ∧ k_ ≠ c ∧ k_ ≠ g) (Kd.S_N (Kd.S_bound a8)) (fun k_ hk_ => ⟨(Nat.le_trans (keep_size (w := w) (g := g) (row := none) (zg_20 HK.out Zj.out Zk.out)) hk_.2.1), hk_.1.1, hk_.1.2.1, hk_.1.2.2, (Kd.fresh' (Kd.R_lt (zg_6 Za.out)) k_ hk_.2.1), (Kd.fresh' (Kd.R_lt (zg_6 Zd.out)) k_ hk_.2.1), (Kd.fresh' (Kd.N_lt (zg_4 Ze.out)) k_ hk_.2.1), (Kd.fresh' (Kd.R_lt (zg_6 Zb.out)) k_ hk_.2.1), (Kd.freshB (g := m) (o := .cells #[.slice none 0 0, .slice none 0 0, .slice none 0 0, .slice none 0 0] 26 (0, 0)) (zg_3 Zh.out) k_ hk_.2.1), (Kd.freshB (g := c) (o := .cells #[.slice e6 d.length e7, .slice J a.length L, .slice e8 j.length e9, .slice f0 l.length f1] 26 (0, 0)) (zg_3 Zc.out) k_ hk_.2.1), (IsS42.fresh (zg_19 b.out Zg.out Zf.out) k_ hk_.2.1)⟩)) (keep_size (w := w) (g := g) (row := none) (zg_20 HK.out Zj.out Zk.out))); have E := zm (Kd.R_lower (Kd.R_new' (Kd.R_new' (Kd.R_new' (Kd.R_newM (M := fun k_ => (w.heap.size ≤ k_)) X (keep_size (w := w) (g := g) (row := none) (zg_20 HK.out Zj.out Zk.out)) (fun k_ h_ => h_)) (Kd.R_lt (zg_6 Za.out))) (Kd.R_lt (zg_6 Zd.out))) (Kd.R_lt (zg_6 Zb.out))) (keep_size (w := w) (g := g) (row := none) (zg_20 HK.out Zj.out Zk.out))); have F := zm (blk_below (g := m) (o := .cells #[.slice none 0 0, .slice none 0 0, .slice none 0 0, .slice none 0 0] 26 (0, 0)) (zg_3 Zh.out) hb); have a9 := zm (blk_below (g := c) (o := .cells #[.slice e6 d.length e7, .slice J a.length L, .slice e8 j.length e9, .slice f0 l.length f1] 26 (0, 0)) (zg_3 Zc.out) hb); have a5 := zm (IsS42.below (zg_19 b.out Zg.out Zf.out) hb); have a6 := zm (KeepBut.trans (zg_20 HK.out Zj.out Zk.out) (KeepBut.of_below hb g none) (.inl rfl)); have a7 := zm (below_step (zg_21 HB.out b.out Zn.out Zo.out) hb); clear Za; clear Zd; clear Ze; clear Zb; clear Zh; clear Zc; clear b; clear HK; clear HB; have Za := x; have Zd := y; have Ze := z; have Zb := A; have ZK := B; have ZL := C; have ZM := D; have ZN := E; have Zh := F; have Zc := a9; have b := a5; have HK := a6; have HB := a7; clear x y z A B C D E F a9 a5 a6 a7
        (try clear hb)
        (try clear hb2)
        (try clear hk)
        (try clear hi)
        (try clear U)
        (try clear V)
        (try clear a8)
        (try clear X)
        obtain ⟨F2, F3, s4⟩ := Kd.R_slice ZK.out
        (first | subst s4 | (injection s4 with f1_ f2_ f3_; have f4_ := f1_.symm; have f5_ := f3_.symm; clear f1_ f2_ f3_; subst f4_; subst f5_))
        obtain ⟨F4, F5, s5⟩ := Kd.R_slice ZL.out
        (first | subst s5 | (injection s5 with f1_ f2_ f3_; have f4_ := f1_.symm; have f5_ := f3_.symm; clear f1_ f2_ f3_; subst f4_; subst f5_))
        obtain ⟨F6, F7, s6⟩ := Kd.N_slice ZM.out
        (first | subst s6 | (injection s6 with f1_ f2_ f3_; have f4_ := f1_.symm; have f5_ := f3_.symm; clear f1_ f2_ f3_; subst f4_; subst f5_))
        obtain ⟨F8, F9, s7⟩ := Kd.R_slice ZN.out
        (first | subst s7 | (injection s7 with f1_ f2_ f3_; have f4_ := f1_.symm; have f5_ := f3_.symm; clear f1_ f2_ f3_; subst f4_; subst f5_))
        refine hK.out _ _ ⟨(blk_cell Zc.out 0).trans rfl, (blk_cell Zc.out 1).trans rfl, (blk_cell Zc.out 2).trans rfl, (blk_cell Zc.out 3).trans rfl⟩ (fun hHeld => ?_)
        clear hK K
        refine norm_ (a' := ?_) ?_ ?_
        rotate_left
        ·show Act.put _ (some 79) _ = _
         simp only [Act.put, zs, zz, zt, i64_w, i32_w]
         rfl
        refine last_ (i := 4) (N := none) #[tt, tt, tt, tt, tt] rfl rfl (by kernel_rfl) (by decide) (fun K hK => ?_)
        have AY : k9.cell? ⟨c, 0, none⟩ = some (.slice e6 d.length e7) := (blk_cell Zc.out 0).trans rfl
        have X2 := blk_frozen Zc.out 0; have Q0 := Zi.out; have Q1 := Zl.out
        have AZ : k9.cell? ⟨c, 1, none⟩ = some (.slice J a.length L) := (blk_cell Zc.out 1).trans rfl
        have X3 := blk_frozen Zc.out 1; have Q2 := Zi.out; have Q3 := Zl.out
        have BA : k9.cell? ⟨c, 2, none⟩ = some (.slice e8 j.length e9) := (blk_cell Zc.out 2).trans rfl
        have X4 := blk_frozen Zc.out 2; have Q4 := Zi.out; have Q5 := Zl.out
        have BB : k9.cell? ⟨c, 3, none⟩ = some (.slice f0 l.length f1) := (blk_cell Zc.out 3).trans rfl
        have X5 := blk_frozen Zc.out 3; have Q6 := Zi.out; have Q7 := Zl.out
        refine skip_ (w1 := ?_) (by rfl) rfl ?_ ?_
        rotate_left
        ·go_simp
         rfl
        refine hK.out _ _ ?_
        clear hK K
        refine done_ (by kernel_rfl) ?_
        try go_wp2
        go_roundg c5
        case measure => have := HJ4.out; have := c6.out; have := HJ35.out; omega
        case rel => exact ⟨(wrap64 (d0 - 1)), (B6), (B7), (o7), (o8), (o9), (p0), (.slice F2 o7.length F3), (.slice F4 o8.length F5), (.slice F6 o9.length F7), (.slice F8 p0.length F9), zr, H', ⟨by have := HJ4.out; have := c6.out; have := HJ35.out; omega⟩, ⟨Kd.R_mono (zR4 (Kd.R_types ZK.out Zc.out (by decide))) (fun _ hk => ⟨hk.1.1.1.1.1, ⟨hk.1.1.1.1.2.1, hk.1.1.1.1.2.2⟩⟩)⟩, ⟨Kd.R_mono (zR4 (Kd.R_types ZL.out Zc.out (by decide))) (fun _ hk => ⟨hk.1.1.1.1.1, ⟨hk.1.1.1.1.2.1, hk.1.1.1.1.2.2⟩⟩)⟩, ⟨Kd.N_mono (zN4 (Kd.N_mono ZM.out (fun k_ hk => (⟨hk, hk.2.2.2.2.2.2.2.2.2.1⟩ : _ ∧ k_ ≠ c)))) (fun _ hk => ⟨hk.1.1, ⟨hk.1.2.1, ⟨hk.1.2.2.1, ⟨hk.1.2.2.2.1, ⟨hk.1.2.2.2.2.2.2.2.2.1, ⟨hk.1.2.2.2.2.2.2.2.2.2.1, hk.1.2.2.2.2.2.2.2.2.2.2⟩⟩⟩⟩⟩⟩)⟩, ⟨Kd.R_mono (zR4 (Kd.R_types ZN.out Zc.out (by decide))) (fun _ hk => ⟨hk.1.1.1.1.1, ⟨hk.1.1.1.1.2.1, hk.1.1.1.1.2.2⟩⟩)⟩, ⟨by exact zfar4 Zh.out Zi.out⟩, ⟨by exact zput4 Zc.out⟩, ⟨zg_19 b.out Zg.out Zf.out⟩, ⟨zg_20 HK.out Zj.out Zk.out⟩, ⟨zg_21 HB.out b.out Zn.out Zo.out⟩⟩
       rw [if_neg e3] at H
       have B4 : (Y == 3) = false := beq_eq_false_iff_ne.mpr e3
       have B5 : (Y != 3) = true := bne_iff_ne.mpr e3
       by_cases e4 : Y = 4
       ·rw [if_pos e4] at H
        have B8 : (Y == 4) = true := beq_iff_eq.mpr e4
        have B9 : (Y != 4) = false := bne_eq_false_iff_eq.mpr e4
        clear e4
        by_cases f8 : (a.length : Int) > 0
        rotate_left
        ·rw [if_neg f8] at H
         have C0 := decide_eq_false f8
         have C1 : decide (0 < a.length) = false := decide_eq_false (by omega)
         clear f8
         have H' := zm H
         clear H
         go_wp2_with (first | ((with_reducible refine gate_callee (f := 20) rfl ?_); refine goesL_ (some 34) rfl rfl Tryz.func20 (by kernel_rfl) rfl #[.pointer (some ⟨g, 0, none⟩), .int .i64 9] rfl zq ?_; (with_reducible refine (spec_l00Src_next.calls g u G I 9 Y a3 a4 T _ ?side1 ?side2 g0.out).mono ?_); (case side1 => exact (zg_19 b.out Zg.out Zf.out)); (case side2 => exact (zg_21 HB.out b.out Zn.out Zo.out)); rintro e CH ⟨rfl, hi, hb, hk⟩; refine ⟨_, rfl, ?_⟩; have x := zm (Kd.R_mono (Kd.R_keep (IsS42.apart (show IsS42 T _ g u G I from zg_19 b.out Zg.out Zf.out) (zg_6 Za.out) (by decide)) hk (fun _ h => h.2)) (fun _ h => h.1)); have y := zm (Kd.R_mono (Kd.R_keep (IsS42.apart (show IsS42 T _ g u G I from zg_19 b.out Zg.out Zf.out) (zg_6 Zd.out) (by decide)) hk (fun _ h => h.2)) (fun _ h => h.1)); have z := zm (Kd.N_mono (Kd.N_keep (Kd.N_mono (ok := fun k_ => (((w.heap.size ≤ k_)) ∧ (some k_ ≠ (q : Value).ownBlock ∧ (some k_ ≠ (.slice J a.length L : Value).ownBlock ∧ (some k_ ≠ (s : Value).ownBlock ∧ (k_ ≠ m ∧ (k_ ≠ c ∧ k_ ≠ g))))))) (zg_4 Ze.out) (fun k_ hk_ => (⟨hk_, hk_.2.2.2.2.2.2⟩ : _ ∧ k_ ≠ g))) hk (fun _ h => h.2)) (fun _ h => h.1)); have A := zm (Kd.R_mono (Kd.R_keep (IsS42.apart (show IsS42 T _ g u G I from zg_19 b.out Zg.out Zf.out) (zg_6 Zb.out) (by decide)) hk (fun _ h => h.2)) (fun _ h => h.1)); have B := zm (KeepBut.blk hk (g' := m) (o := .cells #[.slice none 0 0, .slice none 0 0, .slice none 0 0, .slice none 0 0] 26 (0, 0)) (zg_3 Zh.out) Zp.out (by simp)); have C := zm (KeepBut.blk hk (g' := c) (o := .cells #[q, .slice J a.length L, O, s] 26 (0, 0)) (zg_3 Zc.out) Zm.out (by simp)); have D := zm (KeepBut.trans (zg_20 HK.out Zj.out Zk.out) hk (.inl rfl)); have E := zm (hb); have F := zm (hi); replace Za := x; replace Zd := y; replace Ze := z; replace Zb := A; replace Zh := B; replace Zc := C; replace HK := D; replace HB := E; replace b := F; clear x y z A B C D E F; (try clear hb); (try clear hb2); (try clear hk); (try clear hi); have X6 := Zl.out; have X7 := Zi.out; have X8 := Zm.out; have X9 := Zf.out; obtain ⟨_, _, _, _, _, _, _, _⟩ := zb4 Zc.out))
         go_roundg c5
         case measure => have := HJ4.out; have := c6.out; have := HJ35.out; omega
         case rel => exact ⟨(wrap64 (d0 - 1)), (a3), (a4), (d), (a), (j), (l), (q), (.slice J a.length L), (O), (s), zr, H', ⟨by have := HJ4.out; have := c6.out; have := HJ35.out; omega⟩, ⟨zlR Za.out⟩, ⟨zlR Zd.out⟩, ⟨zlN Ze.out⟩, ⟨zlR Zb.out⟩, ⟨zl Zh.out⟩, ⟨zl Zc.out⟩, ⟨zg_19 b.out Zg.out Zf.out⟩, ⟨zg_20 HK.out Zj.out Zk.out⟩, ⟨zg_21 HB.out b.out Zn.out Zo.out⟩⟩
        rw [if_pos f8] at H; have C0 := decide_eq_true f8
        have C1 : decide (0 < a.length) = true := decide_eq_true (by omega)
        clear f8; replace H := Option.bind_eq_some_iff.mp H
        obtain ⟨⟨p1, p3, p4, p5⟩, s8, H⟩ := H
        try dsimp only at H
        have Q8 := zm s8; clear s8
        have H' := zm H
        clear H
        go_wp2_with (first | ((with_reducible refine gate_callee (f := 20) rfl ?_); refine goesL_ (some 34) rfl rfl Tryz.func20 (by kernel_rfl) rfl #[.pointer (some ⟨g, 0, none⟩), .int .i64 9] rfl zq ?_; (with_reducible refine (spec_l00Src_next.calls g u G I 9 Y a3 a4 T _ ?side1 ?side2 g0.out).mono ?_); (case side1 => exact (zg_19 b.out Zg.out Zf.out)); (case side2 => exact (zg_21 HB.out b.out Zn.out Zo.out)); rintro e CI ⟨rfl, hi, hb, hk⟩; refine ⟨_, rfl, ?_⟩; have x := zm (Kd.R_mono (Kd.R_keep (IsS42.apart (show IsS42 T _ g u G I from zg_19 b.out Zg.out Zf.out) (zg_6 Za.out) (by decide)) hk (fun _ h => h.2)) (fun _ h => h.1)); have y := zm (Kd.R_mono (Kd.R_keep (IsS42.apart (show IsS42 T _ g u G I from zg_19 b.out Zg.out Zf.out) (zg_6 Zd.out) (by decide)) hk (fun _ h => h.2)) (fun _ h => h.1)); have z := zm (Kd.N_mono (Kd.N_keep (Kd.N_mono (ok := fun k_ => (((w.heap.size ≤ k_)) ∧ (some k_ ≠ (q : Value).ownBlock ∧ (some k_ ≠ (.slice J a.length L : Value).ownBlock ∧ (some k_ ≠ (s : Value).ownBlock ∧ (k_ ≠ m ∧ (k_ ≠ c ∧ k_ ≠ g))))))) (zg_4 Ze.out) (fun k_ hk_ => (⟨hk_, hk_.2.2.2.2.2.2⟩ : _ ∧ k_ ≠ g))) hk (fun _ h => h.2)) (fun _ h => h.1)); have A := zm (Kd.R_mono (Kd.R_keep (IsS42.apart (show IsS42 T _ g u G I from zg_19 b.out Zg.out Zf.out) (zg_6 Zb.out) (by decide)) hk (fun _ h => h.2)) (fun _ h => h.1)); have B := zm (KeepBut.blk hk (g' := m) (o := .cells #[.slice none 0 0, .slice none 0 0, .slice none 0 0, .slice none 0 0] 26 (0, 0)) (zg_3 Zh.out) Zp.out (by simp)); have C := zm (KeepBut.blk hk (g' := c) (o := .cells #[q, .slice J a.length L, O, s] 26 (0, 0)) (zg_3 Zc.out) Zm.out (by simp)); have D := zm (KeepBut.trans (zg_20 HK.out Zj.out Zk.out) hk (.inl rfl)); have E := zm (hb); have F := zm (hi); replace Za := x; replace Zd := y; replace Ze := z; replace Zb := A; replace Zh := B; replace Zc := C; replace HK := D; replace HB := E; replace b := F; clear x y z A B C D E F; (try clear hb); (try clear hb2); (try clear hk); (try clear hi); have Y0 := Zl.out; have Y1 := Zi.out; have Y2 := Zm.out; have Y3 := Zf.out; obtain ⟨_, _, _, _, _, _, _, _⟩ := zb4 Zc.out; obtain ⟨h1, h2, G0⟩ := Kd.R_slice Za.out; subst G0; obtain ⟨h3, h4, G1⟩ := Kd.N_slice Ze.out; subst G1; obtain ⟨h5, h6, G2⟩ := Kd.R_slice Zb.out; subst G2) | ((with_reducible refine gate_callee (f := 28) rfl ?_); refine goesL_ (some 88) rfl rfl Tryz.func28 (by kernel_rfl) rfl #[.agg #[.slice h1 d.length h2, .slice J a.length L, .slice h3 j.length h4, .slice h5 l.length h6], .int .i64 d7] rfl zq ?_; (with_reducible refine (spec_l10Zero.calls c5 _ _ d _ _ a _ _ j _ _ l d7 p1 p3 p4 p5 _ ?side1 ?side2 ?side3 ?side4 ?side5 ?side6 ?side7 ?side8 Q8.out).mono ?_); (case side1 => exact zC ((Kd.R_reads' Za.out).2.2)); (case side2 => exact (Kd.R_reads' Za.out).2.1); (case side3 => exact zC ((Kd.R_reads' Zd.out).2.2)); (case side4 => exact (Kd.R_reads' Zd.out).2.1); (case side5 => exact zC ((Kd.N_reads' Ze.out).2.2)); (case side6 => exact (Kd.N_reads' Ze.out).2.1); (case side7 => exact zC ((Kd.R_reads' Zb.out).2.2)); (case side8 => exact (Kd.R_reads' Zb.out).2.1); rintro e CJ ⟨Q9, R0, CK, R1, rfl, U, V, a8, X, hb⟩; refine ⟨_, rfl, ?_⟩; have x := zm (Kd.R_mono (Kd.R_told (Kd.R_told (Kd.R_told (Kd.R_old (zg_6 Za.out) hb) (Kd.R_base U)) (Kd.R_base V)) (Kd.R_base X)) (fun _ h_ => h_.1)); have y := zm (Kd.R_mono (Kd.R_told (Kd.R_told (Kd.R_told (Kd.R_old (zg_6 Zd.out) hb) (Kd.R_base U)) (Kd.R_base V)) (Kd.R_base X)) (fun _ h_ => h_.1)); have z := zm (Kd.N_mono (Kd.N_told (Kd.N_told (Kd.N_told (Kd.N_told (Kd.N_old (zg_4 Ze.out) hb) (Kd.R_base U)) (Kd.R_base V)) (Kd.N_base (Kd.S_N a8))) (Kd.R_base X)) (fun _ h_ => h_.1)); have A := zm (Kd.R_mono (Kd.R_told (Kd.R_told (Kd.R_told (Kd.R_old (zg_6 Zb.out) hb) (Kd.R_base U)) (Kd.R_base V)) (Kd.R_base X)) (fun _ h_ => h_.1)); have B := zm (Kd.R_lower (Kd.R_new' (Kd.R_new' (Kd.R_new' (Kd.R_newM (M := fun k_ => (w.heap.size ≤ k_)) U (keep_size (w := w) (g := g) (row := none) (zg_20 HK.out Zj.out Zk.out)) (fun k_ h_ => h_)) (Kd.R_lt (zg_6 Za.out))) (Kd.R_lt (zg_6 Zd.out))) (Kd.R_lt (zg_6 Zb.out))) (keep_size (w := w) (g := g) (row := none) (zg_20 HK.out Zj.out Zk.out))); have C := zm (Kd.R_lower (Kd.R_new' (Kd.R_new' (Kd.R_new' (Kd.R_newM (M := fun k_ => (w.heap.size ≤ k_)) V (keep_size (w := w) (g := g) (row := none) (zg_20 HK.out Zj.out Zk.out)) (fun k_ h_ => h_)) (Kd.R_lt (zg_6 Za.out))) (Kd.R_lt (zg_6 Zd.out))) (Kd.R_lt (zg_6 Zb.out))) (keep_size (w := w) (g := g) (row := none) (zg_20 HK.out Zj.out Zk.out))); have D := zm (Kd.N_lower (Kd.N_mono (ok' := fun k_ => (w.heap.size ≤ k_) ∧ some k_ ≠ (Q9 : Value).ownBlock ∧ some k_ ≠ (R0 : Value).ownBlock ∧ some k_ ≠ (R1 : Value).ownBlock ∧ some k_ ≠ (.slice h1 d.length h2 : Value).ownBlock ∧ some k_ ≠ (.slice J a.length L : Value).ownBlock ∧ some k_ ≠ (.slice h3 j.length h4 : Value).ownBlock ∧ some k_ ≠ (.slice h5 l.length h6 : Value).ownBlock ∧ k_ ≠ m ∧ k_ ≠ c ∧ k_ ≠ g) (Kd.S_N (Kd.S_bound a8)) (fun k_ hk_ => ⟨(Nat.le_trans (keep_size (w := w) (g := g) (row := none) (zg_20 HK.out Zj.out Zk.out)) hk_.2.1), hk_.1.1, hk_.1.2.1, hk_.1.2.2, (Kd.fresh' (Kd.R_lt (zg_6 Za.out)) k_ hk_.2.1), (Kd.fresh' (Kd.R_lt (zg_6 Zd.out)) k_ hk_.2.1), (Kd.fresh' (Kd.N_lt (zg_4 Ze.out)) k_ hk_.2.1), (Kd.fresh' (Kd.R_lt (zg_6 Zb.out)) k_ hk_.2.1), (Kd.freshB (g := m) (o := .cells #[.slice none 0 0, .slice none 0 0, .slice none 0 0, .slice none 0 0] 26 (0, 0)) (zg_3 Zh.out) k_ hk_.2.1), (Kd.freshB (g := c) (o := .cells #[.slice h1 d.length h2, .slice J a.length L, .slice h3 j.length h4, .slice h5 l.length h6] 26 (0, 0)) (zg_3 Zc.out) k_ hk_.2.1), (IsS42.fresh (zg_19 b.out Zg.out Zf.out) k_ hk_.2.1)⟩)) (keep_size (w := w) (g := g) (row := none) (zg_20 HK.out Zj.out Zk.out))); have E := zm (Kd.R_lower (Kd.R_new' (Kd.R_new' (Kd.R_new' (Kd.R_newM (M := fun k_ => (w.heap.size ≤ k_)) X (keep_size (w := w) (g := g) (row := none) (zg_20 HK.out Zj.out Zk.out)) (fun k_ h_ => h_)) (Kd.R_lt (zg_6 Za.out))) (Kd.R_lt (zg_6 Zd.out))) (Kd.R_lt (zg_6 Zb.out))) (keep_size (w := w) (g := g) (row := none) (zg_20 HK.out Zj.out Zk.out))); have F := zm (blk_below (g := m) (o := .cells #[.slice none 0 0, .slice none 0 0, .slice none 0 0, .slice none 0 0] 26 (0, 0)) (zg_3 Zh.out) hb); have a9 := zm (blk_below (g := c) (o := .cells #[.slice h1 d.length h2, .slice J a.length L, .slice h3 j.length h4, .slice h5 l.length h6] 26 (0, 0)) (zg_3 Zc.out) hb); have a5 := zm (IsS42.below (zg_19 b.out Zg.out Zf.out) hb); have a6 := zm (KeepBut.trans (zg_20 HK.out Zj.out Zk.out) (KeepBut.of_below hb g none) (.inl rfl)); have a7 := zm (below_step (zg_21 HB.out b.out Zn.out Zo.out) hb); replace Za := x; replace Zd := y; replace Ze := z; replace Zb := A; have ZO := B; have ZP := C; have ZQ := D; have ZR := E; replace Zh := F; replace Zc := a9; replace b := a5; replace HK := a6; replace HB := a7; clear x y z A B C D E F a9 a5 a6 a7; (try clear hb); (try clear hb2); (try clear hk); (try clear hi); (try clear U); (try clear V); (try clear a8); (try clear X); obtain ⟨G3, G4, G5⟩ := Kd.R_slice ZO.out; subst G5; obtain ⟨_, _, _, _, _, _, _, _⟩ := zb4 Zc.out; obtain ⟨G6, G7, G8⟩ := Kd.R_slice ZP.out; subst G8; obtain ⟨G9, H0, H1⟩ := Kd.N_slice ZQ.out; subst H1; obtain ⟨H2, H3, H4⟩ := Kd.R_slice ZR.out; subst H4))
        go_roundg c5
        case measure => have := HJ4.out; have := c6.out; have := HJ35.out; omega
        case rel => exact ⟨(wrap64 (d0 - 1)), (a3), (a4), (p1), (p3), (p4), (p5), (.slice G3 p1.length G4), (.slice G6 p3.length G7), (.slice G9 p4.length H0), (.slice H2 p5.length H3), zr, H', ⟨by have := HJ4.out; have := c6.out; have := HJ35.out; omega⟩, ⟨Kd.R_mono (zR4 (Kd.R_types ZO.out Zc.out (by decide))) (fun _ hk => ⟨hk.1.1.1.1.1, ⟨hk.1.1.1.1.2.1, hk.1.1.1.1.2.2⟩⟩)⟩, ⟨Kd.R_mono (zR4 (Kd.R_types ZP.out Zc.out (by decide))) (fun _ hk => ⟨hk.1.1.1.1.1, ⟨hk.1.1.1.1.2.1, hk.1.1.1.1.2.2⟩⟩)⟩, ⟨Kd.N_mono (zN4 (Kd.N_mono ZQ.out (fun k_ hk => (⟨hk, hk.2.2.2.2.2.2.2.2.2.1⟩ : _ ∧ k_ ≠ c)))) (fun _ hk => ⟨hk.1.1, ⟨hk.1.2.1, ⟨hk.1.2.2.1, ⟨hk.1.2.2.2.1, ⟨hk.1.2.2.2.2.2.2.2.2.1, ⟨hk.1.2.2.2.2.2.2.2.2.2.1, hk.1.2.2.2.2.2.2.2.2.2.2⟩⟩⟩⟩⟩⟩)⟩, ⟨Kd.R_mono (zR4 (Kd.R_types ZR.out Zc.out (by decide))) (fun _ hk => ⟨hk.1.1.1.1.1, ⟨hk.1.1.1.1.2.1, hk.1.1.1.1.2.2⟩⟩)⟩, ⟨by exact zfar4 Zh.out Zi.out⟩, ⟨by exact zput4 Zc.out⟩, ⟨zg_19 b.out Zg.out Zf.out⟩, ⟨zg_20 HK.out Zj.out Zk.out⟩, ⟨zg_21 HB.out b.out Zn.out Zo.out⟩⟩
       rw [if_neg e4] at H
       have B8 : (Y == 4) = false := beq_eq_false_iff_ne.mpr e4
       have B9 : (Y != 4) = true := bne_iff_ne.mpr e4
       by_cases f9 : (a.length : Int) > 0
       rotate_left
       ·rw [if_neg f9] at H
        have C2 := decide_eq_false f9
        have C3 : decide (0 < a.length) = false := decide_eq_false (by omega)
        clear f9
        have H' := zm H
        clear H
        go_wp2_with (first | ((with_reducible refine gate_callee (f := 20) rfl ?_); refine goesL_ (some 34) rfl rfl Tryz.func20 (by kernel_rfl) rfl #[.pointer (some ⟨g, 0, none⟩), .int .i64 9] rfl zq ?_; (with_reducible refine (spec_l00Src_next.calls g u G I 9 Y a3 a4 T _ ?side1 ?side2 g0.out).mono ?_); (case side1 => exact (zg_19 b.out Zg.out Zf.out)); (case side2 => exact (zg_21 HB.out b.out Zn.out Zo.out)); rintro e CL ⟨rfl, hi, hb, hk⟩; refine ⟨_, rfl, ?_⟩; have x := zm (Kd.R_mono (Kd.R_keep (IsS42.apart (show IsS42 T _ g u G I from zg_19 b.out Zg.out Zf.out) (zg_6 Za.out) (by decide)) hk (fun _ h => h.2)) (fun _ h => h.1)); have y := zm (Kd.R_mono (Kd.R_keep (IsS42.apart (show IsS42 T _ g u G I from zg_19 b.out Zg.out Zf.out) (zg_6 Zd.out) (by decide)) hk (fun _ h => h.2)) (fun _ h => h.1)); have z := zm (Kd.N_mono (Kd.N_keep (Kd.N_mono (ok := fun k_ => (((w.heap.size ≤ k_)) ∧ (some k_ ≠ (q : Value).ownBlock ∧ (some k_ ≠ (.slice J a.length L : Value).ownBlock ∧ (some k_ ≠ (s : Value).ownBlock ∧ (k_ ≠ m ∧ (k_ ≠ c ∧ k_ ≠ g))))))) (zg_4 Ze.out) (fun k_ hk_ => (⟨hk_, hk_.2.2.2.2.2.2⟩ : _ ∧ k_ ≠ g))) hk (fun _ h => h.2)) (fun _ h => h.1)); have A := zm (Kd.R_mono (Kd.R_keep (IsS42.apart (show IsS42 T _ g u G I from zg_19 b.out Zg.out Zf.out) (zg_6 Zb.out) (by decide)) hk (fun _ h => h.2)) (fun _ h => h.1)); have B := zm (KeepBut.blk hk (g' := m) (o := .cells #[.slice none 0 0, .slice none 0 0, .slice none 0 0, .slice none 0 0] 26 (0, 0)) (zg_3 Zh.out) Zp.out (by simp)); have C := zm (KeepBut.blk hk (g' := c) (o := .cells #[q, .slice J a.length L, O, s] 26 (0, 0)) (zg_3 Zc.out) Zm.out (by simp)); have D := zm (KeepBut.trans (zg_20 HK.out Zj.out Zk.out) hk (.inl rfl)); have E := zm (hb); have F := zm (hi); replace Za := x; replace Zd := y; replace Ze := z; replace Zb := A; replace Zh := B; replace Zc := C; replace HK := D; replace HB := E; replace b := F; clear x y z A B C D E F; (try clear hb); (try clear hb2); (try clear hk); (try clear hi); have Y4 := Zl.out; have Y5 := Zi.out; have Y6 := Zm.out; have Y7 := Zf.out; obtain ⟨_, _, _, _, _, _, _, _⟩ := zb4 Zc.out))
        go_roundg c5
        case measure => have := HJ4.out; have := c6.out; have := HJ35.out; omega
        case rel => exact ⟨(wrap64 (d0 - 1)), (a3), (a4), (d), (a), (j), (l), (q), (.slice J a.length L), (O), (s), zr, H', ⟨by have := HJ4.out; have := c6.out; have := HJ35.out; omega⟩, ⟨zlR Za.out⟩, ⟨zlR Zd.out⟩, ⟨zlN Ze.out⟩, ⟨zlR Zb.out⟩, ⟨zl Zh.out⟩, ⟨zl Zc.out⟩, ⟨zg_19 b.out Zg.out Zf.out⟩, ⟨zg_20 HK.out Zj.out Zk.out⟩, ⟨zg_21 HB.out b.out Zn.out Zo.out⟩⟩
       rw [if_pos f9] at H; have C2 := decide_eq_true f9
       have C3 : decide (0 < a.length) = true := decide_eq_true (by omega)
       clear f9; replace H := Option.bind_eq_some_iff.mp H
       obtain ⟨⟨p7, C4, C5⟩, s9, H⟩ := H
       try dsimp only at H
       have R2 := zm s9; clear s9; replace H := Option.bind_eq_some_iff.mp H
       obtain ⟨⟨p8, p9, q0, q1, R3⟩, t0, H⟩ := H
       try dsimp only at H
       have R4 := zm t0; clear t0
       have H' := zm H
       clear H
       try go_wp2_with (first | ((with_reducible refine gate_callee (f := 20) rfl ?_); refine goesL_ (some 34) rfl rfl Tryz.func20 (by kernel_rfl) rfl #[.pointer (some ⟨g, 0, none⟩), .int .i64 9] rfl zq ?_; (with_reducible refine (spec_l00Src_next.calls g u G I 9 Y a3 a4 T _ ?side1 ?side2 g0.out).mono ?_); (case side1 => exact (zg_19 b.out Zg.out Zf.out)); (case side2 => exact (zg_21 HB.out b.out Zn.out Zo.out)); rintro e R5 ⟨rfl, hi, hb, hk⟩; refine ⟨_, rfl, ?_⟩; have x := zm (Kd.R_mono (Kd.R_keep (IsS42.apart (show IsS42 T _ g u G I from zg_19 b.out Zg.out Zf.out) (zg_6 Za.out) (by decide)) hk (fun _ h => h.2)) (fun _ h => h.1)); have y := zm (Kd.R_mono (Kd.R_keep (IsS42.apart (show IsS42 T _ g u G I from zg_19 b.out Zg.out Zf.out) (zg_6 Zd.out) (by decide)) hk (fun _ h => h.2)) (fun _ h => h.1)); have z := zm (Kd.N_mono (Kd.N_keep (Kd.N_mono (ok := fun k_ => (((w.heap.size ≤ k_)) ∧ (some k_ ≠ (q : Value).ownBlock ∧ (some k_ ≠ (.slice J a.length L : Value).ownBlock ∧ (some k_ ≠ (s : Value).ownBlock ∧ (k_ ≠ m ∧ (k_ ≠ c ∧ k_ ≠ g))))))) (zg_4 Ze.out) (fun k_ hk_ => (⟨hk_, hk_.2.2.2.2.2.2⟩ : _ ∧ k_ ≠ g))) hk (fun _ h => h.2)) (fun _ h => h.1)); have A := zm (Kd.R_mono (Kd.R_keep (IsS42.apart (show IsS42 T _ g u G I from zg_19 b.out Zg.out Zf.out) (zg_6 Zb.out) (by decide)) hk (fun _ h => h.2)) (fun _ h => h.1)); have B := zm (KeepBut.blk hk (g' := m) (o := .cells #[.slice none 0 0, .slice none 0 0, .slice none 0 0, .slice none 0 0] 26 (0, 0)) (zg_3 Zh.out) Zp.out (by simp)); have C := zm (KeepBut.blk hk (g' := c) (o := .cells #[q, .slice J a.length L, O, s] 26 (0, 0)) (zg_3 Zc.out) Zm.out (by simp)); have D := zm (KeepBut.trans (zg_20 HK.out Zj.out Zk.out) hk (.inl rfl)); have E := zm (hb); have F := zm (hi); replace Za := x; replace Zd := y; replace Ze := z; replace Zb := A; replace Zh := B; replace Zc := C; replace HK := D; replace HB := E; replace b := F; clear x y z A B C D E F; (try clear hb); (try clear hb2); (try clear hk); (try clear hi); have Y8 := Zl.out; have Y9 := Zi.out; have Z0 := Zm.out; have Z1 := Zf.out; obtain ⟨_, _, _, _, _, _, _, _⟩ := zb4 Zc.out))
       have x := zm (Kd.R_drew Za.out); have y := zm (Kd.R_drew Zd.out); have z := zm (Kd.N_drew Ze.out); have A := zm (Kd.R_drew Zb.out); have B := zm (blk_drew Zh.out); have C := zm (blk_drew Zc.out); have D := zm (IsS42.drew b.out); have E := zm (keep_drew HK.out); have F := zm (below_drew1 HB.out); clear Za; clear Zd; clear Ze; clear Zb; clear Zh; clear Zc; clear b; clear HK; clear HB; have Za := x; have Zd := y; have Ze := z; have Zb := A; have Zh := B; have Zc := C; have b := D; have HK := E; have HB := F; clear x y z A B C D E F
       refine start_ (n := 9) (S := fun w' => w'.cell? ⟨c, 0, none⟩ = some (q) ∧ w'.cell? ⟨c, 1, none⟩ = some (.slice J a.length L) ∧ w'.cell? ⟨c, 2, none⟩ = some (O) ∧ w'.cell? ⟨c, 3, none⟩ = some (s)) (ds := [8]) #[ff, ff, ff, ff, ff, ff, ff, ff, ff] (by kernel_rfl) rfl rfl ⟨(blk_cell Zc.out 0).trans rfl, (blk_cell Zc.out 1).trans rfl, (blk_cell Zc.out 2).trans rfl, (blk_cell Zc.out 3).trans rfl⟩ (fun hHeld => ?_); refine with_tabW spec_l00Src_image.tab12 spec_l00Src_image.bits12 (fun HT_ HW_ => ?_)
       generalize R5.drew = CM at Za Zd Ze Zb Zh Zc b HK HB hHeld ⊢
       refine pure_ (i := 1) (N := some 41) (v := ?_) (a' := ?_) #[ff, tt, ff, ff, ff, ff, ff, ff, ff] rfl rfl (any_of HT_.out (by kernel_rfl)) (fun _ _ _ h => h) (Or.inl ⟨by rfl, ?_⟩) ?_ ?_
       rotate_left
       ·intro w'
        go_simp
        with_reducible rfl
       rotate_left
       ·simp only [Act.put, zs, zz, zt, i64_w, i32_w]
        rfl
       refine pure_ (i := 2) (N := some 42) (v := ?_) (a' := ?_) #[ff, tt, tt, ff, ff, ff, ff, ff, ff] rfl rfl (any_of HT_.out (by kernel_rfl)) (fun _ _ _ h => h) (Or.inl ⟨by rfl, ?_⟩) ?_ ?_
       rotate_left
       ·intro w'
        go_simp
        with_reducible rfl
       rotate_left
       ·simp only [Act.put, zs, zz, zt, i64_w, i32_w]
        rfl
       refine take_ (i := 0) (N := some 40) (v := ?_) (a' := ?_) #[tt, tt, tt, ff, ff, ff, ff, ff, ff] rfl rfl (take_ofW HT_.out HW_.out (by kernel_rfl)) (fun _ _ _ h => h) (Or.inl ⟨by rfl, ?_⟩) hHeld ?_ ?_
       rotate_left
       ·rintro w' ⟨s0, s1, s2, s3⟩
        go_simp
        with_reducible rfl
       rotate_left
       ·simp only [Act.put, zs, zz, zt, i64_w, i32_w]
        rfl
       refine one_ (i := 3) (N := some 43) #[tt, tt, tt, tt, ff, ff, ff, ff, ff] rfl rfl (one_of HT_.out (by kernel_rfl)) (by decide) (fun K hK => ?_)
       refine goes_ Tryz.func30 (by kernel_rfl) rfl #[.pointer (some ⟨g, 0, none⟩)] (by rfl) rfl rfl zq ?_
       with_reducible refine (spec_l00Src_number.calls g u a3 a4 p7 C4 C5 T _ ?side1 ?side2 R2.out).mono ?_
       (case side1 => exact (zg_19 b.out Zg.out Zf.out))
       (case side2 => exact (zg_21 HB.out b.out Zn.out Zo.out))
       rintro e CN ⟨rfl, hi, hb, hk⟩
       refine ⟨_, rfl, ?_⟩
       have x := zm (Kd.R_mono (Kd.R_keep (IsS42.apart (show IsS42 T _ g u a3 a4 from zg_19 b.out Zg.out Zf.out) (zg_6 Za.out) (by decide)) hk (fun _ h => h.2)) (fun _ h => h.1)); have y := zm (Kd.R_mono (Kd.R_keep (IsS42.apart (show IsS42 T _ g u a3 a4 from zg_19 b.out Zg.out Zf.out) (zg_6 Zd.out) (by decide)) hk (fun _ h => h.2)) (fun _ h => h.1)); have z := zm (Kd.N_mono (Kd.N_keep (Kd.N_mono (ok := fun k_ => (((w.heap.size ≤ k_)) ∧ (some k_ ≠ (q : Value).ownBlock ∧ (some k_ ≠ (.slice J a.length L : Value).ownBlock ∧ (some k_ ≠ (s : Value).ownBlock ∧ (k_ ≠ m ∧ (k_ ≠ c ∧ k_ ≠ g))))))) (zg_4 Ze.out) (fun k_ hk_ => (⟨hk_, hk_.2.2.2.2.2.2⟩ : _ ∧ k_ ≠ g))) hk (fun _ h => h.2)) (fun _ h => h.1)); have A := zm (Kd.R_mono (Kd.R_keep (IsS42.apart (show IsS42 T _ g u a3 a4 from zg_19 b.out Zg.out Zf.out) (zg_6 Zb.out) (by decide)) hk (fun _ h => h.2)) (fun _ h => h.1)); have B := zm (KeepBut.blk hk (g' := m) (o := .cells #[.slice none 0 0, .slice none 0 0, .slice none 0 0, .slice none 0 0] 26 (0, 0)) (zg_3 Zh.out) Zp.out (by simp)); have C := zm (KeepBut.blk hk (g' := c) (o := .cells #[q, .slice J a.length L, O, s] 26 (0, 0)) (zg_3 Zc.out) Zm.out (by simp)); have D := zm (KeepBut.trans (zg_20 HK.out Zj.out Zk.out) hk (.inl rfl)); have E := zm (hb); have F := zm (hi); clear Za; clear Zd; clear Ze; clear Zb; clear Zh; clear Zc; clear HK; clear HB; clear b; have Za := x; have Zd := y; have Ze := z; have Zb := A; have Zh := B; have Zc := C; have HK := D; have HB := E; have b := F; clear x y z A B C D E F
       (try clear hb)
       (try clear hb2)
       (try clear hk)
       (try clear hi)
       obtain ⟨f2, f3, t1⟩ := Kd.R_slice Za.out
       (first | subst t1 | (injection t1 with f1_ f2_ f3_; have f4_ := f1_.symm; have f5_ := f3_.symm; clear f1_ f2_ f3_; subst f4_; subst f5_))
       obtain ⟨f4, f5, t2⟩ := Kd.N_slice Ze.out
       (first | subst t2 | (injection t2 with f1_ f2_ f3_; have f4_ := f1_.symm; have f5_ := f3_.symm; clear f1_ f2_ f3_; subst f4_; subst f5_))
       obtain ⟨f6, f7, t3⟩ := Kd.R_slice Zb.out
       (first | subst t3 | (injection t3 with f1_ f2_ f3_; have f4_ := f1_.symm; have f5_ := f3_.symm; clear f1_ f2_ f3_; subst f4_; subst f5_))
       refine hK.out _ _ ⟨(blk_cell Zc.out 0).trans rfl, (blk_cell Zc.out 1).trans rfl, (blk_cell Zc.out 2).trans rfl, (blk_cell Zc.out 3).trans rfl⟩ (fun hHeld => ?_)
       clear hK K
       refine norm_ (a' := ?_) ?_ ?_
       rotate_left
       ·show Act.put _ (some 43) _ = _
        simp only [Act.put, zs, zz, zt, i64_w, i32_w]
        rfl
       refine one_ (i := 4) (N := some 44) #[tt, tt, tt, tt, tt, ff, ff, ff, ff] rfl rfl (one_of HT_.out (by kernel_rfl)) (by decide) (fun K hK => ?_)
       refine goes_ Tryz.func29 (by kernel_rfl) rfl #[.agg #[.slice f2 d.length f3, .slice J a.length L, .slice f4 j.length f5, .slice f6 l.length f7], .int .i64 d7, .int .i64 p7] (by rfl) rfl rfl zq ?_
       with_reducible refine (spec_l10Write.calls c5 _ _ d _ _ a _ _ j _ _ l d7 p7 p8 p9 q0 q1 R3 _ ?side1 ?side2 ?side3 ?side4 ?side5 ?side6 ?side7 ?side8 R4.out).mono ?_
       (case side1 => exact zC ((Kd.R_reads' Za.out).2.2))
       (case side2 => exact (Kd.R_reads' Za.out).2.1)
       (case side3 => exact zC ((Kd.R_reads' Zd.out).2.2))
       (case side4 => exact (Kd.R_reads' Zd.out).2.1)
       (case side5 => exact zC ((Kd.N_reads' Ze.out).2.2))
       (case side6 => exact (Kd.N_reads' Ze.out).2.1)
       (case side7 => exact zC ((Kd.R_reads' Zb.out).2.2))
       (case side8 => exact (Kd.R_reads' Zb.out).2.1)
       rintro e l1 ⟨R6, R7, CO, R8, rfl, U, V, a8, X, hb⟩
       refine ⟨_, rfl, ?_⟩
       have x := zm (Kd.R_mono (Kd.R_told (Kd.R_told (Kd.R_told (Kd.R_old (zg_6 Za.out) hb) (Kd.R_base U)) (Kd.R_base V)) (Kd.R_base X)) (fun _ h_ => h_.1)); have y := zm (Kd.R_mono (Kd.R_told (Kd.R_told (Kd.R_told (Kd.R_old (zg_6 Zd.out) hb) (Kd.R_base U)) (Kd.R_base V)) (Kd.R_base X)) (fun _ h_ => h_.1)); have z := zm (Kd.N_mono (Kd.N_told (Kd.N_told (Kd.N_told (Kd.N_told (Kd.N_old (zg_4 Ze.out) hb) (Kd.R_base U)) (Kd.R_base V)) (Kd.N_base (Kd.S_N a8))) (Kd.R_base X)) (fun _ h_ => h_.1)); have A := zm (Kd.R_mono (Kd.R_told (Kd.R_told (Kd.R_told (Kd.R_old (zg_6 Zb.out) hb) (Kd.R_base U)) (Kd.R_base V)) (Kd.R_base X)) (fun _ h_ => h_.1)); have B := zm (Kd.R_lower (Kd.R_new' (Kd.R_new' (Kd.R_new' (Kd.R_newM (M := fun k_ => (w.heap.size ≤ k_)) U (keep_size (w := w) (g := g) (row := none) (zg_20 HK.out Zj.out Zk.out)) (fun k_ h_ => h_)) (Kd.R_lt (zg_6 Za.out))) (Kd.R_lt (zg_6 Zd.out))) (Kd.R_lt (zg_6 Zb.out))) (keep_size (w := w) (g := g) (row := none) (zg_20 HK.out Zj.out Zk.out))); have C := zm (Kd.R_lower (Kd.R_new' (Kd.R_new' (Kd.R_new' (Kd.R_newM (M := fun k_ => (w.heap.size ≤ k_)) V (keep_size (w := w) (g := g) (row := none) (zg_20 HK.out Zj.out Zk.out)) (fun k_ h_ => h_)) (Kd.R_lt (zg_6 Za.out))) (Kd.R_lt (zg_6 Zd.out))) (Kd.R_lt (zg_6 Zb.out))) (keep_size (w := w) (g := g) (row := none) (zg_20 HK.out Zj.out Zk.out))); have D := zm (Kd.N_lower (Kd.N_mono (ok' := fun k_ => (w.heap.size ≤ k_) ∧ some k_ ≠ (R6 : Value).ownBlock ∧ some k_ ≠ (R7 : Value).ownBlock ∧ some k_ ≠ (R8 : Value).ownBlock ∧ some k_ ≠ (.slice f2 d.length f3 : Value).ownBlock ∧ some k_ ≠ (.slice J a.length L : Value).ownBlock ∧ some k_ ≠ (.slice f4 j.length f5 : Value).ownBlock ∧ some k_ ≠ (.slice f6 l.length f7 : Value).ownBlock ∧ k_ ≠ m ∧ k_ ≠ c ∧ k_ ≠ g) (Kd.S_N (Kd.S_bound a8)) (fun k_ hk_ => ⟨(Nat.le_trans (keep_size (w := w) (g := g) (row := none) (zg_20 HK.out Zj.out Zk.out)) hk_.2.1), hk_.1.1, hk_.1.2.1, hk_.1.2.2, (Kd.fresh' (Kd.R_lt (zg_6 Za.out)) k_ hk_.2.1), (Kd.fresh' (Kd.R_lt (zg_6 Zd.out)) k_ hk_.2.1), (Kd.fresh' (Kd.N_lt (zg_4 Ze.out)) k_ hk_.2.1), (Kd.fresh' (Kd.R_lt (zg_6 Zb.out)) k_ hk_.2.1), (Kd.freshB (g := m) (o := .cells #[.slice none 0 0, .slice none 0 0, .slice none 0 0, .slice none 0 0] 26 (0, 0)) (zg_3 Zh.out) k_ hk_.2.1), (Kd.freshB (g := c) (o := .cells #[.slice f2 d.length f3, .slice J a.length L, .slice f4 j.length f5, .slice f6 l.length f7] 26 (0, 0)) (zg_3 Zc.out) k_ hk_.2.1), (IsS42.fresh (zg_19 b.out Zg.out Zf.out) k_ hk_.2.1)⟩)) (keep_size (w := w) (g := g) (row := none) (zg_20 HK.out Zj.out Zk.out))); have E := zm (Kd.R_lower (Kd.R_new' (Kd.R_new' (Kd.R_new' (Kd.R_newM (M := fun k_ => (w.heap.size ≤ k_)) X (keep_size (w := w) (g := g) (row := none) (zg_20 HK.out Zj.out Zk.out)) (fun k_ h_ => h_)) (Kd.R_lt (zg_6 Za.out))) (Kd.R_lt (zg_6 Zd.out))) (Kd.R_lt (zg_6 Zb.out))) (keep_size (w := w) (g := g) (row := none) (zg_20 HK.out Zj.out Zk.out))); have F := zm (blk_below (g := m) (o := .cells #[.slice none 0 0, .slice none 0 0, .slice none 0 0, .slice none 0 0] 26 (0, 0)) (zg_3 Zh.out) hb); have a9 := zm (blk_below (g := c) (o := .cells #[.slice f2 d.length f3, .slice J a.length L, .slice f4 j.length f5, .slice f6 l.length f7] 26 (0, 0)) (zg_3 Zc.out) hb); have a5 := zm (IsS42.below (zg_19 b.out Zg.out Zf.out) hb); have a6 := zm (KeepBut.trans (zg_20 HK.out Zj.out Zk.out) (KeepBut.of_below hb g none) (.inl rfl)); have a7 := zm (below_step (zg_21 HB.out b.out Zn.out Zo.out) hb); clear Za; clear Zd; clear Ze; clear Zb; clear Zh; clear Zc; clear b; clear HK; clear HB; have Za := x; have Zd := y; have Ze := z; have Zb := A; have ZS := B; have ZT := C; have ZU := D; have ZV := E; have Zh := F; have Zc := a9; have b := a5; have HK := a6; have HB := a7; clear x y z A B C D E F a9 a5 a6 a7
       (try clear hb)
       (try clear hb2)
       (try clear hk)
       (try clear hi)
       (try clear U)
       (try clear V)
       (try clear a8)
       (try clear X)
       obtain ⟨H5, H6, t4⟩ := Kd.R_slice ZS.out
       (first | subst t4 | (injection t4 with f1_ f2_ f3_; have f4_ := f1_.symm; have f5_ := f3_.symm; clear f1_ f2_ f3_; subst f4_; subst f5_))
       obtain ⟨H7, H8, t5⟩ := Kd.R_slice ZT.out
       (first | subst t5 | (injection t5 with f1_ f2_ f3_; have f4_ := f1_.symm; have f5_ := f3_.symm; clear f1_ f2_ f3_; subst f4_; subst f5_))
       obtain ⟨H9, I0, t6⟩ := Kd.N_slice ZU.out
       (first | subst t6 | (injection t6 with f1_ f2_ f3_; have f4_ := f1_.symm; have f5_ := f3_.symm; clear f1_ f2_ f3_; subst f4_; subst f5_))
       obtain ⟨I1, I2, t7⟩ := Kd.R_slice ZV.out
       (first | subst t7 | (injection t7 with f1_ f2_ f3_; have f4_ := f1_.symm; have f5_ := f3_.symm; clear f1_ f2_ f3_; subst f4_; subst f5_))
       refine hK.out _ _ ⟨(blk_cell Zc.out 0).trans rfl, (blk_cell Zc.out 1).trans rfl, (blk_cell Zc.out 2).trans rfl, (blk_cell Zc.out 3).trans rfl⟩ (fun hHeld => ?_)
       clear hK K
       refine norm_ (a' := ?_) ?_ ?_
       rotate_left
       ·show Act.put _ (some 44) _ = _
        simp only [Act.put, zs, zz, zt, i64_w, i32_w]
        rfl
       refine pure_ (i := 5) (N := some 39) (v := ?_) (a' := ?_) #[tt, tt, tt, tt, tt, tt, ff, ff, ff] rfl rfl (any_of HT_.out (by kernel_rfl)) (fun _ _ _ h => h) (Or.inl ⟨by rfl, ?_⟩) ?_ ?_
       rotate_left
       ·intro w'
        go_simp
        with_reducible rfl
       rotate_left
       ·simp only [Act.put, zs, zz, zt, i64_w, i32_w]
        rfl
       refine pure_ (i := 6) (N := some 45) (v := ?_) (a' := ?_) #[tt, tt, tt, tt, tt, tt, tt, ff, ff] rfl rfl (any_of HT_.out (by kernel_rfl)) (fun _ _ _ h => h) (Or.inl ⟨by rfl, ?_⟩) ?_ ?_
       rotate_left
       ·intro w'
        go_simp
        with_reducible rfl
       rotate_left
       ·simp only [Act.put, zs, zz, zt, i64_w, i32_w]
        rfl
       refine pure_ (i := 7) (N := some 46) (v := ?_) (a' := ?_) #[tt, tt, tt, tt, tt, tt, tt, tt, ff] rfl rfl (any_of HT_.out (by kernel_rfl)) (fun _ _ _ h => h) (Or.inl ⟨by rfl, ?_⟩) ?_ ?_
       rotate_left
       ·intro w'
        go_simp
        with_reducible rfl
       rotate_left
       ·simp only [Act.put, zs, zz, zt, i64_w, i32_w]
        rfl
       refine last_ (i := 8) (N := none) #[tt, tt, tt, tt, tt, tt, tt, tt, tt] rfl rfl (one_of HT_.out (by kernel_rfl)) (by decide) (fun K hK => ?_)
       have BC : l1.cell? ⟨c, 0, none⟩ = some (.slice f2 d.length f3) := (blk_cell Zc.out 0).trans rfl
       have Z2 := blk_frozen Zc.out 0; have R9 := Zi.out; have S0 := Zl.out
       have BD : l1.cell? ⟨c, 1, none⟩ = some (.slice J a.length L) := (blk_cell Zc.out 1).trans rfl
       have Z3 := blk_frozen Zc.out 1; have S1 := Zi.out; have S2 := Zl.out
       have BE : l1.cell? ⟨c, 2, none⟩ = some (.slice f4 j.length f5) := (blk_cell Zc.out 2).trans rfl
       have Z4 := blk_frozen Zc.out 2; have S3 := Zi.out; have S4 := Zl.out
       have BF : l1.cell? ⟨c, 3, none⟩ = some (.slice f6 l.length f7) := (blk_cell Zc.out 3).trans rfl
       have Z5 := blk_frozen Zc.out 3; have S5 := Zi.out; have S6 := Zl.out
       refine skip_ (w1 := ?_) (by rfl) rfl ?_ ?_
       rotate_left
       ·go_simp
        rfl
       refine hK.out _ _ ?_
       clear hK K
       refine done_ (done_of HT_.out (by kernel_rfl)) ?_
       try go_wp2
       go_roundg c5
       case measure => have := HJ4.out; have := c6.out; have := HJ35.out; omega
       case rel => exact ⟨(wrap64 (d0 - 1)), (C4), (C5), (p8), (p9), (q0), (q1), (.slice H5 p8.length H6), (.slice H7 p9.length H8), (.slice H9 q0.length I0), (.slice I1 q1.length I2), zr, H', ⟨by have := HJ4.out; have := c6.out; have := HJ35.out; omega⟩, ⟨Kd.R_mono (zR4 (Kd.R_types ZS.out Zc.out (by decide))) (fun _ hk => ⟨hk.1.1.1.1.1, ⟨hk.1.1.1.1.2.1, hk.1.1.1.1.2.2⟩⟩)⟩, ⟨Kd.R_mono (zR4 (Kd.R_types ZT.out Zc.out (by decide))) (fun _ hk => ⟨hk.1.1.1.1.1, ⟨hk.1.1.1.1.2.1, hk.1.1.1.1.2.2⟩⟩)⟩, ⟨Kd.N_mono (zN4 (Kd.N_mono ZU.out (fun k_ hk => (⟨hk, hk.2.2.2.2.2.2.2.2.2.1⟩ : _ ∧ k_ ≠ c)))) (fun _ hk => ⟨hk.1.1, ⟨hk.1.2.1, ⟨hk.1.2.2.1, ⟨hk.1.2.2.2.1, ⟨hk.1.2.2.2.2.2.2.2.2.1, ⟨hk.1.2.2.2.2.2.2.2.2.2.1, hk.1.2.2.2.2.2.2.2.2.2.2⟩⟩⟩⟩⟩⟩)⟩, ⟨Kd.R_mono (zR4 (Kd.R_types ZV.out Zc.out (by decide))) (fun _ hk => ⟨hk.1.1.1.1.1, ⟨hk.1.1.1.1.2.1, hk.1.1.1.1.2.2⟩⟩)⟩, ⟨by exact zfar4 Zh.out Zi.out⟩, ⟨by exact zput4 Zc.out⟩, ⟨zg_19 b.out Zg.out Zf.out⟩, ⟨zg_20 HK.out Zj.out Zk.out⟩, ⟨zg_21 HB.out b.out Zn.out Zo.out⟩⟩
end Go.Proofs.YtnibgibjfpbagaaGreat.Q
