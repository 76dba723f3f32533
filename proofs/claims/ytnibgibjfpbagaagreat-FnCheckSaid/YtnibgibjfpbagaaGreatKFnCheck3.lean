/- What laws.FnCheck reaches, part 3: the functions as Lean functions, the proofs that the program's functions answer so, and plain laws about them. -/
import Derived.Test.YtnibgibjfpbagaaGreatKFnCheck1
import Derived.Test.YtnibgibjfpbagaaGreatKFnCheck2
namespace Go.Proofs.YtnibgibjfpbagaaGreat.Q
open Go.RowKit Go.Proofs.YtnibgibjfpbagaaGreat.Ext Go.Proofs.YtnibgibjfpbagaaGreatW.PrintWords Go.Proofs.YtnibgibjfpbagaaGreatW.PrintLast Go.Proofs.YtnibgibjfpbagaaGreatW.PrintMore
attribute [local go_sem] max2_int min2_int max_two min_two max_three min_three max_four min_four   -- for this text's walks alone
open Bool renaming true → tt, false → ff
set_option linter.unusedVariables false
set_option linter.unusedSimpArgs false

set_option linter.unusedVariables false
set_option linter.unusedSimpArgs false
def spec_l00Src_number.f (s0_0 : List Int) (s0_1 : Int) (s0_2 : Int) : Option (Int × Int × Int) := (spec_l00Src_next.f s0_0 s0_1 s0_2 9).bind fun bt454 => ((spec_l00Src_next.f s0_0 bt454.2.1 bt454.2.2 70000).bind fun bt457 => ((some (([bt454.1, bt457.1, 2147483647] : List Int) : List Int)).bind fun y460 => ((spec_l00Src_next.f s0_0 bt457.2.1 bt457.2.2 9).bind fun bt463 => (if 0 ≤ (wrap64 (Int.tdiv bt463.1 4)) then (if (wrap64 (Int.tdiv bt463.1 4)) < (y460.length : Int) then (some (rd y460 (wrap64 (Int.tdiv bt463.1 4)), bt463.2.1, bt463.2.2)) else (none)) else (none)))))
set_option maxHeartbeats 8000000 in
set_option maxRecDepth 100000 in
theorem spec_l00Src_number.calls (g : Nat) (b : List Int) (u : Int) (v : Int) (F : Int) (G : Int) (I : Int) (p w : World) (hI : IsS42 p w g b u v) (hB : Below p.heap.size p w) (h : spec_l00Src_number.f b u v = some (F, G, I)) :
    Calls Tryz.prog 30 #[.pointer (some ⟨g, 0, none⟩)] w fun e w' => e = .returned (.int .i64 F) ∧ IsS42 p w' g b G I ∧ Below p.heap.size p w' ∧ KeepBut w w' g none := by
 have a := zm hI; have HK := zm (KeepBut.refl w g none); have HL := zm hB.size; clear hI; have a5 := zm hB.size; have HB := zm hB; clear hB; have H := h
 unfold spec_l00Src_number.f at H
 clear h; replace H := Option.bind_eq_some_iff.mp H
 obtain ⟨⟨l, B, C⟩, O, H⟩ := H
 try dsimp only at H
 have V := zm O; clear O; replace H := Option.bind_eq_some_iff.mp H
 obtain ⟨⟨m, q, r⟩, R, H⟩ := H
 try dsimp only at H
 have X := zm R; clear R
 obtain ⟨n, s⟩ : ∃ y_ : List Int, y_ = (([l, m, 2147483647] : List Int)) := ⟨_, rfl⟩
 replace H : ((spec_l00Src_next.f b q r 9).bind fun j => (if 0 ≤ (wrap64 (Int.tdiv j.1 4)) then (if (wrap64 (Int.tdiv j.1 4)) < (n.length : Int) then (some (rd n (wrap64 (Int.tdiv j.1 4)), j.2.1, j.2.2)) else (none)) else (none))) = some (F, G, I) := zy H s
 have A := zm s; clear s; replace H := Option.bind_eq_some_iff.mp H
 obtain ⟨⟨x, D, E⟩, S, H⟩ := H
 try dsimp only at H
 have Y := zm S; clear S
 obtain ⟨ji5, hji5⟩ : ∃ j_ : Int, (wrap64 (Int.tdiv x 4)) = j_ := ⟨_, rfl⟩
 replace H : (if 0 ≤ (ji5) then (if (ji5) < (n.length : Int) then (some (rd n (ji5), D, E)) else (none)) else (none)) = some (F, G, I) := by first | (rw [hji5] at H; exact H) | (simp only [hji5] at H ⊢; exact H)
 (try rw [hji5] at V)
 (try rw [hji5] at X)
 (try rw [hji5] at Y)
 have hji5w : (IntKind.i64.wrap (Int.tdiv x 4)) = ji5 := (i64_w _).trans hji5
 by_cases J : 0 ≤ (ji5)
 rotate_left
 ·rw [if_neg J] at H
  exact absurd H (by simp)
 rw [if_pos J] at H; have a0 := decide_eq_true J; clear J
 by_cases L : (ji5) < (n.length : Int)
 rotate_left
 ·rw [if_neg L] at H
  exact absurd H (by simp)
 rw [if_pos L] at H; have a1 := decide_eq_true L; clear L
 simp only [Option.some.injEq, Prod.mk.injEq] at H
 obtain ⟨rfl, rfl, rfl⟩ := H
 go_enter Tryz.func30, Tryz.ntmps30
 go_wp2_with (first | ((with_reducible refine gate_callee (f := 20) rfl ?_); refine goesL_ (some 4) rfl rfl Tryz.func20 (by kernel_rfl) rfl #[.pointer (some ⟨g, 0, none⟩), .int .i64 9] rfl zq ?_; (with_reducible refine (spec_l00Src_next.calls g b u v 9 l B C p _ ?side1 ?side2 V.out).mono ?_); (case side1 => exact (zg_7 a.out)); (case side2 => exact (zg_8 HB.out a.out)); rintro e w8 ⟨rfl, hi, hb, hk⟩; refine ⟨_, rfl, ?_⟩; have c := zm (KeepBut.trans (zg_9 HK.out) hk (.inl rfl)); have d := zm (hb); have i := zm (hi); replace HK := c; replace HB := d; replace a := i; clear c d i; (try clear hb); (try clear hb2); (try clear hk); (try clear hi)) | ((with_reducible refine gate_callee (f := 20) rfl ?_); refine goesL_ (some 6) rfl rfl Tryz.func20 (by kernel_rfl) rfl #[.pointer (some ⟨g, 0, none⟩), .int .i64 70000] rfl zq ?_; (with_reducible refine (spec_l00Src_next.calls g b B C 70000 m q r p _ ?side1 ?side2 X.out).mono ?_); (case side1 => exact (zg_7 a.out)); (case side2 => exact (zg_8 HB.out a.out)); rintro e w9 ⟨rfl, hi, hb, hk⟩; refine ⟨_, rfl, ?_⟩; have c := zm (KeepBut.trans (zg_9 HK.out) hk (.inl rfl)); have d := zm (hb); have i := zm (hi); replace HK := c; replace HB := d; replace a := i; clear c d i; (try clear hb); (try clear hb2); (try clear hk); (try clear hi)) | ((with_reducible refine gate_dst (N := 7) rfl ?_); refine Kd.R_lit (Kd.int .i64) _ 3 ?hg (N := 7) ?hd (xs := ([l, m, 2147483647] : List Int)) (inner := [.int .i64 l, .int .i64 m, .int .i64 2147483647]) (ok := fun _ => True) (okp := fun _ => True) ?hr ?hp (fun _ hk => hk) trivial (Below.refl _ _) (Nat.le_refl _) (by simp) ?_; (case hd => rfl); (case hg => rfl); (case hr => first | (go_simp; done) | (go_simp; rfl)); (case hp => exact (Reps.one (show Kd.M (Kd.int .i64) _ _ _ l [.int .i64 l] from rfl) (Reps.one (show Kd.M (Kd.int .i64) _ _ _ m [.int .i64 m] from rfl) (Reps.one (show Kd.M (Kd.int .i64) _ _ _ 2147483647 [.int .i64 2147483647] from rfl) (Reps.none _ _))))); intro a2 a6 o hb hg_ hnew_; clear hg_ hnew_; (first | rw [← A.out] at o | (simp only [Int.reduceToNat] at o; rw [← A.out] at o)); have c := zm (Kd.R_lower o (keep_size (w := w) (g := g) (row := none) (zg_9 HK.out))); have d := zm (IsS42.below (zg_7 a.out) hb); have i := zm (KeepBut.trans (zg_9 HK.out) (KeepBut.of_below hb g none) (.inl rfl)); have t := zm (below_step (zg_8 HB.out a.out) hb); have Za := c; replace a := d; replace HK := i; replace HB := t; clear c d i t; clear hb o) | ((with_reducible refine gate_callee (f := 20) rfl ?_); refine goesL_ (some 9) rfl rfl Tryz.func20 (by kernel_rfl) rfl #[.pointer (some ⟨g, 0, none⟩), .int .i64 9] rfl zq ?_; (with_reducible refine (spec_l00Src_next.calls g b q r 9 x D E p _ ?side1 ?side2 Y.out).mono ?_); (case side1 => exact (zg_7 a.out)); (case side2 => exact (zg_8 HB.out a.out)); rintro e a7 ⟨rfl, hi, hb, hk⟩; refine ⟨_, rfl, ?_⟩; have c := zm (Kd.R_mono (Kd.R_keep (IsS42.apart (show IsS42 p _ g b q r from zg_7 a.out) (zg_6 Za.out) (by decide)) hk (fun _ h => h.2)) (fun _ h => h.1)); have d := zm (KeepBut.trans (zg_9 HK.out) hk (.inl rfl)); have i := zm (hb); have t := zm (hi); replace Za := c; replace HK := d; replace HB := i; replace a := t; clear c d i t; (try clear hb); (try clear hb2); (try clear hk); (try clear hi); obtain ⟨a3, a4, T⟩ := Kd.R_slice Za.out; subst T; have y : 0 ≤ ((ji5) : Int) := zd; have z : (ji5) < (n.length : Int) := zd; obtain ⟨Z, U, hx466_0⟩ := Kd.at_int (Kd.R_reads' Za.out).2.2 (ji5) y z; cases U; replace y := eq_true y; replace z := eq_true z))
 go_ret
 exact ⟨by first | rfl | (simp [errW_none, errW_some] <;> rfl) | (simp only [← hji5]; first | rfl | (simp [errW_none, errW_some] <;> rfl)) | (simp [*, errW_none, errW_some] <;> rfl), zg_7 a.out, zg_8 HB.out a.out, zg_9 HK.out⟩
def spec_l00Src_size.f (s0_0 : List Int) (s0_1 : Int) (s0_2 : Int) (a1 : Int) : Option (Int × Int × Int) := some (mn (wrap64 (1 + (wrap64 ((s0_0.length : Int) / 12)))) a1, s0_1, s0_2)
set_option maxHeartbeats 8000000 in
set_option maxRecDepth 100000 in
theorem spec_l00Src_size.calls (g : Nat) (a : List Int) (b : Int) (c : Int) (a1 : Int) (j : Int) (l : Int) (m : Int) (i w : World) (hI : IsS42 i w g a b c) (hB : Below i.heap.size i w) (h : spec_l00Src_size.f a b c a1 = some (j, l, m)) :
    Calls Tryz.prog 22 #[.pointer (some ⟨g, 0, none⟩), .int .i64 a1] w fun e w' => e = .returned (.int .i64 j) ∧ IsS42 i w' g a l m ∧ Below i.heap.size i w' ∧ KeepBut w w' g none := by
  have d := zm hI; have HK := zm (KeepBut.refl w g none); have HL := zm hB.size; clear hI; have n := zm hB.size; have HB := zm hB; clear hB
  have H : (some (mn (wrap64 (1 + (wrap64 ((a.length : Int) / 12)))) a1, b, c)) = some (j, l, m) := h
  clear h
  obtain ⟨ji3, hji3⟩ : ∃ j_ : Int, (mn (wrap64 (1 + (wrap64 ((a.length : Int) / 12)))) a1) = j_ := ⟨_, rfl⟩
  replace H : (some (ji3, b, c)) = some (j, l, m) := by first | (rw [hji3] at H; exact H) | (simp only [hji3] at H ⊢; exact H)
  have hji3_ : (if a1 < (wrap64 (1 + (wrap64 ((a.length : Int) / 12)))) then a1 else (wrap64 (1 + (wrap64 ((a.length : Int) / 12))))) = ji3 := hji3
  simp only [Option.some.injEq, Prod.mk.injEq] at H
  obtain ⟨rfl, rfl, rfl⟩ := H
  obtain ⟨ASz4_0, cSz4_0, HGz4, hgz4, HSz4_0⟩ := d.out
  have hcz4_0 := cellS42_0 HGz4; have hcz4_1 := cellS42_1 HGz4; have hcz4_2 := cellS42_2 HGz4; have hfz4_1 := blk_frozen HGz4 1; have hfz4_2 := blk_frozen HGz4 2; clear HGz4 hgz4
  go_enter Tryz.func22, Tryz.ntmps22
  go_wp2
  go_ret
  exact ⟨by first | rfl | (simp [errW_none, errW_some] <;> rfl) | (simp only [← hji3]; first | rfl | (simp [errW_none, errW_some] <;> rfl)) | (simp [*, errW_none, errW_some] <;> rfl), by repeat (first | (with_reducible first | exact d.out | apply IsS42.alloc | apply IsS42.drewN | apply IsS42.drew | apply IsS42.set_1 | apply IsS42.set_2) | exact d.out), by repeat (first | (with_reducible first | exact HB.out | apply below_alloc | apply pw_below_drewN | apply below_drew1 | refine below_set ?_ (IsS42.ge d.out)) | exact HB.out), by repeat (first | (with_reducible first | exact HK.out | apply KeepBut.set_ | apply keep_drewN | apply keep_drew | apply keep_alloc) | exact HK.out)⟩
def spec_l00Src_pick.f (s0_0 : List Int) (s0_1 : Int) (s0_2 : Int) (l1 : List ByteArray) : Option (ByteArray × Int × Int) := if (l1.length : Int) = 0 then (some ((⟨#[]⟩ : ByteArray), s0_1, s0_2)) else ((spec_l00Src_next.f s0_0 s0_1 s0_2 (l1.length : Int)).bind fun bt233 => (if 0 ≤ bt233.1 then (if bt233.1 < (l1.length : Int) then (some (rdOf ByteArray.empty l1 bt233.1, bt233.2.1, bt233.2.2)) else (none)) else (none)))
set_option maxHeartbeats 8000000 in
set_option maxRecDepth 100000 in
theorem spec_l00Src_pick.calls (g : Nat) (d : List Int) (j : Int) (l : Int) (z : Option Addr) (G : Nat) (a : List ByteArray) (I : ByteArray) (J : Int) (L : Int) (m w : World) (hI : IsS42 m w g d j l) (hB : Below m.heap.size m w) (s : Kd.C Kd.string w z a.length a) (t : a.length ≤ G) (hf1 : ∀ ad, z = some ad → 0 < a.length → ad.block ≠ g) (h : spec_l00Src_pick.f d j l a = some (I, J, L)) :
    Calls Tryz.prog 47 #[.pointer (some ⟨g, 0, none⟩), .slice z a.length G] w fun e w' => e = .returned (.string I) ∧ IsS42 m w' g d J L ∧ Below m.heap.size m w' ∧ KeepBut w w' g none := by
 have M := zm s; have T := zm t; clear s t; have c := zm hI; have HK := zm (KeepBut.refl w g none); have HL := zm hB.size; clear hI; have U := zm hB.size; have HB := zm hB; clear hB; have H := h
 unfold spec_l00Src_pick.f at H
 clear h
 by_cases i : (a.length : Int) = 0
 ·rw [if_pos i] at H
  have A : ((a.length : Int) == 0) = true := beq_iff_eq.mpr i
  have B : ((a.length : Int) != 0) = false := bne_eq_false_iff_eq.mpr i
  clear i
  simp only [Option.some.injEq, Prod.mk.injEq] at H
  obtain ⟨rfl, rfl, rfl⟩ := H
  go_enter Tryz.func47, Tryz.ntmps47
  go_wp2
  go_ret
  exact ⟨ze, zg_7 c.out, zg_8 HB.out c.out, zg_9 HK.out⟩
 rw [if_neg i] at H
 have A : ((a.length : Int) == 0) = false := beq_eq_false_iff_ne.mpr i
 have B : ((a.length : Int) != 0) = true := bne_iff_ne.mpr i
 have N : ¬ (a = []) := fun h_ => i (by rw [h_]; rfl)
 replace H := Option.bind_eq_some_iff.mp H
 obtain ⟨⟨b, D, E⟩, u, H⟩ := H
 try dsimp only at H
 have O := zm u; clear u
 by_cases p : 0 ≤ b
 rotate_left
 ·rw [if_neg p] at H
  exact absurd H (by simp)
 rw [if_pos p] at H; have R := decide_eq_true p; clear p
 by_cases q : b < (a.length : Int)
 rotate_left
 ·rw [if_neg q] at H
  exact absurd H (by simp)
 rw [if_pos q] at H; have S := decide_eq_true q; clear q
 simp only [Option.some.injEq, Prod.mk.injEq] at H
 obtain ⟨rfl, rfl, rfl⟩ := H
 go_enter Tryz.func47, Tryz.ntmps47
 go_wp2_with (first | ((with_reducible refine gate_callee (f := 20) rfl ?_); refine goesL_ (some 12) rfl rfl Tryz.func20 (by kernel_rfl) rfl #[.pointer (some ⟨g, 0, none⟩), .int .i64 (a.length : Int)] rfl zq ?_; (with_reducible refine (spec_l00Src_next.calls g d j l (a.length : Int) b D E m _ ?side1 ?side2 O.out).mono ?_); (case side1 => exact (zg_7 c.out)); (case side2 => exact (zg_8 HB.out c.out)); rintro e V ⟨rfl, hi, hb, hk⟩; refine ⟨_, rfl, ?_⟩; have v := zm (KeepBut.trans (zg_9 HK.out) hk (.inl rfl)); have x := zm (hb); have y := zm (hi); replace HK := v; replace HB := x; replace c := y; clear v x y; (try clear hb); (try clear hb2); (try clear hk); (try clear hi); have n : 0 ≤ (b : Int) := zd; have o : b < (a.length : Int) := zd; obtain ⟨r, F, hx236_0⟩ := Kd.at_string M.out b n o; cases F; replace hx236_0 := keep_cell HK.out hx236_0 (by first | (rw [add_block]; exact hf1 _ rfl (by omega)) | exact hf1 _ rfl (by omega) | exact hf1 r rfl (by omega)); replace n := eq_true n; replace o := eq_true o))
 go_ret
 exact ⟨ze, zg_7 c.out, zg_8 HB.out c.out, zg_9 HK.out⟩
def spec_l00Src_snapName.f (s0_0 : List Int) (s0_1 : Int) (s0_2 : Int) : Option (ByteArray × Int × Int) := (spec_l00Src_pick.f s0_0 s0_1 s0_2 (([(⟨#[97]⟩ : ByteArray), (⟨#[98]⟩ : ByteArray), (⟨#[99]⟩ : ByteArray), (⟨#[115, 110, 97, 112]⟩ : ByteArray)] : List ByteArray))).bind fun bt240 => (some (bt240.1, bt240.2.1, bt240.2.2))
set_option maxHeartbeats 8000000 in
set_option maxRecDepth 100000 in
theorem spec_l00Src_snapName.calls (g : Nat) (c : List Int) (d : Int) (i : Int) (v : ByteArray) (x : Int) (y : Int) (m w : World) (hI : IsS42 m w g c d i) (hB : Below m.heap.size m w) (h : spec_l00Src_snapName.f c d i = some (v, x, y)) :
    Calls Tryz.prog 24 #[.pointer (some ⟨g, 0, none⟩)] w fun e w' => e = .returned (.string v) ∧ IsS42 m w' g c x y ∧ Below m.heap.size m w' ∧ KeepBut w w' g none := by
 have b := zm hI; have HK := zm (KeepBut.refl w g none); have HL := zm hB.size; clear hI; have I := zm hB.size; have HB := zm hB; clear hB; have H := h
 unfold spec_l00Src_snapName.f at H
 clear h
 obtain ⟨s, j⟩ : ∃ y_ : List ByteArray, y_ = (([(⟨#[97]⟩ : ByteArray), (⟨#[98]⟩ : ByteArray), (⟨#[99]⟩ : ByteArray), (⟨#[115, 110, 97, 112]⟩ : ByteArray)] : List ByteArray)) := ⟨_, rfl⟩
 replace H : ((spec_l00Src_pick.f c d i s).bind fun l => (some (l.1, l.2.1, l.2.2))) = some (v, x, y) := zy H j
 have t := zm j; clear j; replace H := Option.bind_eq_some_iff.mp H
 obtain ⟨⟨z, A, B⟩, u, H⟩ := H
 try dsimp only at H
 have F := zm u; clear u
 simp only [Option.some.injEq, Prod.mk.injEq] at H
 obtain ⟨rfl, rfl, rfl⟩ := H
 go_enter Tryz.func24, Tryz.ntmps24
 go_wp2_with (first | ((with_reducible refine gate_dst (N := 4) rfl ?_); refine Kd.R_lit Kd.string _ 9 ?hg (N := 4) ?hd (xs := ([(⟨#[97]⟩ : ByteArray), (⟨#[98]⟩ : ByteArray), (⟨#[99]⟩ : ByteArray), (⟨#[115, 110, 97, 112]⟩ : ByteArray)] : List ByteArray)) (inner := [.string (⟨#[97]⟩ : ByteArray), .string (⟨#[98]⟩ : ByteArray), .string (⟨#[99]⟩ : ByteArray), .string (⟨#[115, 110, 97, 112]⟩ : ByteArray)]) (ok := fun _ => True) (okp := fun _ => True) ?hr ?hp (fun _ hk => hk) trivial (Below.refl _ _) (Nat.le_refl _) (by simp) ?_; (case hd => rfl); (case hg => rfl); (case hr => first | (go_simp; done) | (go_simp; rfl)); (case hp => exact (Reps.one (show Kd.M Kd.string _ _ _ (⟨#[97]⟩ : ByteArray) [.string (⟨#[97]⟩ : ByteArray)] from rfl) (Reps.one (show Kd.M Kd.string _ _ _ (⟨#[98]⟩ : ByteArray) [.string (⟨#[98]⟩ : ByteArray)] from rfl) (Reps.one (show Kd.M Kd.string _ _ _ (⟨#[99]⟩ : ByteArray) [.string (⟨#[99]⟩ : ByteArray)] from rfl) (Reps.one (show Kd.M Kd.string _ _ _ (⟨#[115, 110, 97, 112]⟩ : ByteArray) [.string (⟨#[115, 110, 97, 112]⟩ : ByteArray)] from rfl) (Reps.none _ _)))))); intro G J n hb hg_ hnew_; clear hg_ hnew_; (first | rw [← t.out] at n | (simp only [Int.reduceToNat] at n; rw [← t.out] at n)); have o := zm (Kd.R_lower n (keep_size (w := w) (g := g) (row := none) (zg_9 HK.out))); have p := zm (IsS42.below (zg_7 b.out) hb); have q := zm (KeepBut.trans (zg_9 HK.out) (KeepBut.of_below hb g none) (.inl rfl)); have r := zm (below_step (zg_8 HB.out b.out) hb); have a := o; replace b := p; replace HK := q; replace HB := r; clear o p q r; clear hb n; obtain ⟨C, D, E⟩ := Kd.R_slice a.out; subst E) | ((with_reducible refine gate_callee (f := 47) rfl ?_); refine goesL_ (some 5) rfl rfl Tryz.func47 (by kernel_rfl) rfl #[.pointer (some ⟨g, 0, none⟩), .slice C s.length D] rfl zq ?_; (with_reducible refine (spec_l00Src_pick.calls g c d i _ _ s z A B m _ ?side1 ?side2 ?side3 ?side4 ?side5 F.out).mono ?_); (case side1 => exact (zg_7 b.out)); (case side2 => exact (zg_8 HB.out b.out)); (case side3 => exact zC ((Kd.R_reads' a.out).2.2)); (case side4 => exact (Kd.R_reads' a.out).2.1); (case side5 => exact far_slice (IsS42.own_ne b.out a.out (by decide))); rintro e L ⟨rfl, hi, hb, hk⟩; refine ⟨_, rfl, ?_⟩; have o := zm (Kd.R_mono (Kd.R_keep (IsS42.apart (show IsS42 m _ g c d i from zg_7 b.out) (zg_6 a.out) (by decide)) hk (fun _ h => h.2)) (fun _ h => h.1)); have p := zm (KeepBut.trans (zg_9 HK.out) hk (.inl rfl)); have q := zm (hb); have r := zm (hi); replace a := o; replace HK := p; replace HB := q; replace b := r; clear o p q r; (try clear hb); (try clear hb2); (try clear hk); (try clear hi)))
 go_ret
 exact ⟨ze, zg_7 b.out, zg_8 HB.out b.out, zg_9 HK.out⟩
def spec_l10Find.l0 : Nat → ByteArray → Int → List Int → List Int → List (S66) → List Int → Option (Int)
  | 0, _, _, _, _, _, _ => none
  | k + 1, x1, x5, x179000, x179001, x179002, x179003 => if x5 < (x179002.length : Int) then (if 0 ≤ x5 then (if ((rd_T66 x179002 x5).f0).toList = x1.toList then (some x5) else (spec_l10Find.l0 k x1 (wrap64 (x5 + 1)) x179000 x179001 x179002 x179003)) else (none)) else (some (-1))
def spec_l10Find.f (k : Nat) (l0_0 : List Int) (l0_1 : List Int) (l0_2 : List (S66)) (l0_3 : List Int) (a1 : ByteArray) : Option (Int) := spec_l10Find.l0 k a1 0 l0_0 l0_1 l0_2 l0_3
theorem spec_l10Find.mono_l : ∀ k, (∀ y0 y1 y2 y3 y4 y5, LeO (spec_l10Find.l0 k y0 y1 y2 y3 y4 y5) (spec_l10Find.l0 (k + 1) y0 y1 y2 y3 y4 y5))
  | 0 => fun _ _ _ _ _ _ r h => by simp [spec_l10Find.l0] at h
  | k + 1 => by
    have ih0 := spec_l10Find.mono_l k
    · intro y0 y1 y2 y3 y4 y5
      unfold spec_l10Find.l0
      repeat' first| (with_reducible first | exact ih0 _ _ _ _ _ _ | exact LeO.refl _ | exact LeO.none _ | refine LeO.ite ?_ ?_ | refine LeO.bind ?_ (fun _ => ?_)) | exact ih0 _ _ _ _ _ _ | exact LeO.none _ | refine LeO.ite ?_ ?_ | refine LeO.bind ?_ (fun _ => ?_)
theorem spec_l10Find.mono : ∀ a0 a1 a2 a3 a4 k, LeO (spec_l10Find.f k a0 a1 a2 a3 a4) (spec_l10Find.f (k + 1) a0 a1 a2 a3 a4) := by
  intro a0 a1 a2 a3 a4 k
  have ih0 := spec_l10Find.mono_l k
  unfold spec_l10Find.f
  repeat' first| (with_reducible first | exact ih0 _ _ _ _ _ _ | exact LeO.refl _ | exact LeO.none _ | refine LeO.ite ?_ ?_ | refine LeO.bind ?_ (fun _ => ?_)) | exact ih0 _ _ _ _ _ _ | exact LeO.none _ | refine LeO.ite ?_ ?_ | refine LeO.bind ?_ (fun _ => ?_)
set_option maxHeartbeats 8000000 in
set_option maxRecDepth 100000 in
theorem spec_l10Find.calls (k : Nat) (l : Option Addr) (m : Nat) (c : List Int) (n : Option Addr) (o : Nat) (d : List Int) (p : Option Addr) (q : Nat) (a : List (S66)) (s : Option Addr) (u : Nat) (g : List Int) (a1 : ByteArray) (r : Int) (w : World) (z : Kd.C (Kd.int .i64) w l c.length c) (A : c.length ≤ m) (B : Kd.C (Kd.int .i64) w n d.length d) (D : d.length ≤ o) (E : Kd.C k66 w p a.length a) (F : a.length ≤ q) (G : Kd.C (Kd.int .i64) w s g.length g) (I : g.length ≤ u) (h : spec_l10Find.f k c d a g a1 = some r) :
    Calls Tryz.prog 45 #[.agg #[.slice l c.length m, .slice n d.length o, .slice p a.length q, .slice s g.length u], .string a1] w fun e w' => e = .returned (.int .i64 r) ∧ Below w.heap.size w w' := by
 have hu26 := Tryz.underlying26; have Zf := zm z; have Zg := zm A; clear z A; have Zh := zm B; have Zi := zm D; clear B D; have Ze := zm E; have Zj := zm F; clear E F; have Zk := zm G; have Zl := zm I; clear G I; have HB := zm (Below.refl w.heap.size w)
 have H : (spec_l10Find.l0 k a1 0 c d a g) = some r := h
 clear h
 have H' := zm H
 clear H
 go_enter Tryz.func45, Tryz.ntmps45
 go_wp2_with (first | ((with_reducible refine gate_dst (N := 2) rfl ?_); refine box_event ?hg (N := 2) ?hd (cs := #[.slice l c.length m, .slice n d.length o, .slice p a.length q, .slice s g.length u]) (t := 26) ?hr ?_; (case hd => rfl); (case hg => rfl); (case hr => first | (go_simp; done) | (go_simp; rfl)); intro v hg w3 hbox hb; have S := zm (below_step (zg_1 HB.out) hb); have T := zm (hbox); have U := zm ((by rw [hg]; exact (below_size (zg_1 HB.out)) : w.heap.size ≤ v)); have V := zm ((by rw [hg]; exact (below_size (zg_1 HB.out)) : w.heap.size ≤ v)); replace HB := S; have Za := T; have Zm := U; have Zb := V; clear S T U V; clear hb hbox hg))
 go_loopg [5] k (fun kq v5 w' => ∃ (b : Int), v5 = .int .i64 b ∧ Aside0 (spec_l10Find.l0 kq a1 b c d a g = some r) ∧ Aside0 (kq ≤ k) ∧ Aside0 (w'.heap[v]? = some (.cells #[(.slice l c.length m), (.slice n d.length o), (.slice p a.length q), (.slice s g.length u)] 26 (0, 0))) ∧ Aside0 (Below w.heap.size w w'))
 case atStart => exact ⟨(0), zr, H', ⟨Nat.le_refl _⟩, ⟨zl Za.out⟩, ⟨zg_2 HB.out Zb.out⟩⟩
 case round =>
  clear H'
  try clear p2
  obtain ⟨b, rfl, HA, X, Za, HB⟩ := hrel
  cases gk with
  | zero => exact absurd HA.out (by simp [spec_l10Find.l0])
  | succ k1 =>
   have H := HA.out; clear HA
   simp only [spec_l10Find.l0] at H
   by_cases J : b < (a.length : Int)
   rotate_left
   ·rw [if_neg J] at H
    have Y := decide_eq_false J; clear J; obtain rfl := Option.some.inj H
    obtain ⟨_, _, _, _, _, _, _, _⟩ := zb4 Za.out
    go_wp2
    go_ret
    exact ⟨ze, zg_2 HB.out Zb.out⟩
   rw [if_pos J] at H; have Y := decide_eq_true J; clear J
   by_cases O : 0 ≤ b
   rotate_left
   ·rw [if_neg O] at H
    exact absurd H (by simp)
   rw [if_pos O] at H; have a7 := decide_eq_true O; clear O
   by_cases x : ((rd_T66 a b).f0).toList = a1.toList
   ·rw [if_pos x] at H
    have Z : (((rd_T66 a b).f0).toList == a1.toList) = true := beq_iff_eq.mpr x
    have a5 : (((rd_T66 a b).f0).toList != a1.toList) = false := bne_eq_false_iff_eq.mpr x
    clear x; obtain rfl := Option.some.inj H
    obtain ⟨_, _, _, _, _, _, _, _⟩ := zb4 Za.out
    have i : 0 ≤ (b : Int) := zd
    have j : b < (a.length : Int) := zd
    obtain ⟨R, L, M, y, hx179_0, hx179_1, hl179_1, hi179_1⟩ := at_T66 Ze.out b i j
    cases y; replace hx179_0 := (HB.out.cell (World.block_lt_of_cell? w _ hx179_0)).trans hx179_0; replace hx179_1 := (HB.out.cell (World.block_lt_of_cell? w _ hx179_1)).trans hx179_1; have Zc := zm hi179_1; have Zd := zm hl179_1; clear hi179_1 hl179_1; replace i := eq_true i; replace j := eq_true j
    go_wp2
    go_ret
    exact ⟨ze, zg_2 HB.out Zb.out⟩
   rw [if_neg x] at H
   have Z : (((rd_T66 a b).f0).toList == a1.toList) = false := beq_eq_false_iff_ne.mpr x
   have a5 : (((rd_T66 a b).f0).toList != a1.toList) = true := bne_iff_ne.mpr x
   have H' := zm H
   clear H
   obtain ⟨_, _, _, _, _, _, _, _⟩ := zb4 Za.out
   have i : 0 ≤ (b : Int) := zd
   have j : b < (a.length : Int) := zd
   obtain ⟨R, L, M, y, hx179_0, hx179_1, hl179_1, hi179_1⟩ := at_T66 Ze.out b i j
   cases y; replace hx179_0 := (HB.out.cell (World.block_lt_of_cell? w _ hx179_0)).trans hx179_0; replace hx179_1 := (HB.out.cell (World.block_lt_of_cell? w _ hx179_1)).trans hx179_1; have Zc := zm hi179_1; have Zd := zm hl179_1; clear hi179_1 hl179_1; replace i := eq_true i; replace j := eq_true j
   go_wp2
   go_roundg k1
   case measure => have := X.out; omega
   case rel => exact ⟨(wrap64 (b + 1)), zr, H', ⟨by have := X.out; omega⟩, ⟨zl Za.out⟩, ⟨zg_2 HB.out Zb.out⟩⟩
def spec_l01In.f (a0 : Int) (a1 : Int) (a2 : Int) : Option (Bool) := if a1 ≤ a0 then (some (decide (a0 ≤ a2))) else (some false)
set_option maxHeartbeats 8000000 in
set_option maxRecDepth 100000 in
theorem spec_l01In.calls (a0 : Int) (a1 : Int) (a2 : Int) (r : Bool) (w : World) (h : spec_l01In.f a0 a1 a2 = some r) :
    Calls Tryz.prog 65 #[.int .i64 a0, .int .i64 a1, .int .i64 a2] w fun e w' => e = .returned (.bool r) ∧ Drawn0 w w' := by
  have H : (if a1 ≤ a0 then (some (decide (a0 ≤ a2))) else (some false)) = some r := h
  clear h
  by_cases a : a1 ≤ a0
  · rw [if_pos a] at H
    have b := decide_eq_true a; clear a; obtain rfl := Option.some.inj H
    go_enter Tryz.func65, Tryz.ntmps65
    go_wp2
    go_ret
    exact ⟨zr, by repeat (first | exact Drawn0.refl _ | apply Drawn0.step)⟩
  rw [if_neg a] at H; have b := decide_eq_false a; clear a; obtain rfl := Option.some.inj H
  go_enter Tryz.func65, Tryz.ntmps65
  go_wp2
  go_ret
  exact ⟨zr, by repeat (first | exact Drawn0.refl _ | apply Drawn0.step)⟩
def spec_l10Name.l0 : Nat → ByteArray → Int → Option (Bool)
  | 0, _, _ => none
  | k + 1, x0, x3 => if x3 < (x0.size : Int) then (if 0 ≤ x3 then (if (bt x0 x3) < 97 then (some false) else (if (bt x0 x3) > 122 then (some false) else (spec_l10Name.l0 k x0 (wrap64 (x3 + 1))))) else (none)) else ((spec_l01In.f (x0.size : Int) 1 6).bind fun t177 => (some t177))
def spec_l10Name.f (k : Nat) (a0 : ByteArray) : Option (Bool) := spec_l10Name.l0 k a0 0
theorem spec_l10Name.mono_l : ∀ k, (∀ y0 y1, LeO (spec_l10Name.l0 k y0 y1) (spec_l10Name.l0 (k + 1) y0 y1))
  | 0 => fun _ _ r h => by simp [spec_l10Name.l0] at h
  | k + 1 => by
    have ih0 := spec_l10Name.mono_l k
    · intro y0 y1
      unfold spec_l10Name.l0
      repeat' first| (with_reducible first | exact ih0 _ _ | exact LeO.refl _ | exact LeO.none _ | refine LeO.ite ?_ ?_ | refine LeO.bind ?_ (fun _ => ?_)) | exact ih0 _ _ | exact LeO.none _ | refine LeO.ite ?_ ?_ | refine LeO.bind ?_ (fun _ => ?_)
theorem spec_l10Name.mono : ∀ a0 k, LeO (spec_l10Name.f k a0) (spec_l10Name.f (k + 1) a0) := by
  intro a0 k
  have ih0 := spec_l10Name.mono_l k
  unfold spec_l10Name.f
  repeat' first| (with_reducible first | exact ih0 _ _ | exact LeO.refl _ | exact LeO.none _ | refine LeO.ite ?_ ?_ | refine LeO.bind ?_ (fun _ => ?_)) | exact ih0 _ _ | exact LeO.none _ | refine LeO.ite ?_ ?_ | refine LeO.bind ?_ (fun _ => ?_)
set_option maxHeartbeats 8000000 in
set_option maxRecDepth 100000 in
theorem spec_l10Name.calls (k : Nat) (a0 : ByteArray) (r : Bool) (w : World) (h : spec_l10Name.f k a0 = some r) :
    Calls Tryz.prog 44 #[.string a0] w fun e w' => e = .returned (.bool r) ∧ Drawn0 w w' := by
 have H : (spec_l10Name.l0 k a0 0) = some r := h
 clear h
 have H' := zm H
 clear H
 go_enter Tryz.func44, Tryz.ntmps44
 go_wp2
 go_loopg [3] k (fun kq u w' => ∃ (a : Int), u = .int .i64 a ∧ Aside0 (spec_l10Name.l0 kq a0 a = some r) ∧ Aside0 (kq ≤ k) ∧ Drawn0 w w')
 case atStart => exact ⟨(0), zr, H', ⟨Nat.le_refl _⟩, by repeat (first | exact Drawn0.refl _ | apply Drawn0.step)⟩
 case round =>
  clear H'
  obtain ⟨a, rfl, HA, o, ⟨m1, rfl⟩⟩ := hrel
  cases gk with
  | zero => exact absurd HA.out (by simp [spec_l10Name.l0])
  | succ k1 =>
   have H := HA.out; clear HA
   simp only [spec_l10Name.l0] at H
   by_cases d : a < (a0.size : Int)
   rotate_left
   ·rw [if_neg d] at H
    have q := decide_eq_false d; clear d; replace H := Option.bind_eq_some_iff.mp H
    obtain ⟨j, p, H⟩ := H
    replace H : (some j) = some r := H
    have v := zm p; clear p; obtain rfl := Option.some.inj H
    go_wp2_with (first | ((with_reducible refine gate_callee (f := 65) rfl ?_); refine goesL_ (some 22) rfl rfl Tryz.func65 (by kernel_rfl) rfl #[.int .i64 (a0.size : Int), .int .i64 1, .int .i64 6] rfl zq ?_; (with_reducible refine (spec_l01In.calls (a0.size : Int) 1 6 j _ v.out).mono ?_); rintro e w' ⟨rfl, ⟨nd, rfl⟩⟩; refine ⟨_, rfl, ?_⟩))
    go_ret
    exact ⟨zr, by repeat (first | exact Drawn0.refl _ | apply Drawn0.step)⟩
   rw [if_pos d] at H; have q := decide_eq_true d; clear d
   by_cases n : 0 ≤ a
   rotate_left
   ·rw [if_neg n] at H
    exact absurd H (by simp)
   rw [if_pos n] at H; have x := decide_eq_true n; clear n
   by_cases g : (bt a0 a) < 97
   ·rw [if_pos g] at H
    have s := decide_eq_true g; clear g; obtain rfl := Option.some.inj H
    have b : 0 ≤ (a : Int) := zd
    have c : a < (a0.size : Int) := zd
    have hx4 := bt_at a0 a; replace b := eq_true b; replace c := eq_true c
    go_wp2
    go_ret
    exact ⟨zr, by repeat (first | exact Drawn0.refl _ | apply Drawn0.step)⟩
   rw [if_neg g] at H; have s := decide_eq_false g; clear g
   by_cases i : (bt a0 a) > 122
   ·rw [if_pos i] at H
    have t := decide_eq_true i; clear i; obtain rfl := Option.some.inj H
    have b : 0 ≤ (a : Int) := zd
    have c : a < (a0.size : Int) := zd
    have hx4 := bt_at a0 a; replace b := eq_true b; replace c := eq_true c
    have l : 0 ≤ (a : Int) := zd
    have m : a < (a0.size : Int) := zd
    have hx6 := bt_at a0 a; replace l := eq_true l; replace m := eq_true m
    go_wp2
    go_ret
    exact ⟨zr, by repeat (first | exact Drawn0.refl _ | apply Drawn0.step)⟩
   rw [if_neg i] at H; have t := decide_eq_false i; clear i
   have H' := zm H
   clear H
   have b : 0 ≤ (a : Int) := zd
   have c : a < (a0.size : Int) := zd
   have hx4 := bt_at a0 a; replace b := eq_true b; replace c := eq_true c
   have l : 0 ≤ (a : Int) := zd
   have m : a < (a0.size : Int) := zd
   have hx6 := bt_at a0 a; replace l := eq_true l; replace m := eq_true m
   go_wp2
   go_roundg k1
   case measure => have := o.out; omega
   case rel => exact ⟨(wrap64 (a + 1)), zr, H', ⟨by have := o.out; omega⟩, by repeat (first | exact Drawn0.refl _ | apply Drawn0.step)⟩
def spec_l10Own.l0 : Nat → Int → List Int → List Int → List (S66) → List Int → List Int → List Int → List (S66) → List Int → Option (List Int × List Int × (List (S66)) × List Int)
  | 0, _, _, _, _, _, _, _, _, _ => none
  | k + 1, x4, x143000, x143001, x143002, x143003, x166000, x166001, x166002, x166003 => if x4 < (x143002.length : Int) then (if 0 ≤ x4 then ((some (([] : List Int) : List Int)).bind fun y167 => (if y167.length + ((rd_T66 x143002 x4).f1).length < 17592186044416 then (if x166002.length < 3518437208883 then (spec_l10Own.l0 k (wrap64 (x4 + 1)) x143000 x143001 x143002 x143003 x166000 x166001 (x166002 ++ [(⟨(rd_T66 x143002 x4).f0, (y167 ++ ((rd_T66 x143002 x4).f1))⟩ : S66)]) x166003) else (none)) else (none))) else (none)) else (some (x166000, x166001, x166002, x166003))
def spec_l10Own.f (k : Nat) (l0_0 : List Int) (l0_1 : List Int) (l0_2 : List (S66)) (l0_3 : List Int) : Option (List Int × List Int × (List (S66)) × List Int) := (some (([] : List Int) : List Int)).bind fun y144 => (if y144.length + l0_0.length < 17592186044416 then ((some (([] : List Int) : List Int)).bind fun y150 => (if y150.length + l0_1.length < 17592186044416 then ((some (([] : List Int) : List Int)).bind fun y159 => (if y159.length + l0_3.length < 17592186044416 then (spec_l10Own.l0 k 0 l0_0 l0_1 l0_2 l0_3 (y144 ++ l0_0) (y150 ++ l0_1) (([] : List (S66))) (y159 ++ l0_3)) else (none))) else (none))) else (none))
theorem spec_l10Own.mono_l : ∀ k, (∀ y0 y1 y2 y3 y4 y5 y6 y7 y8, LeO (spec_l10Own.l0 k y0 y1 y2 y3 y4 y5 y6 y7 y8) (spec_l10Own.l0 (k + 1) y0 y1 y2 y3 y4 y5 y6 y7 y8))
  | 0 => fun _ _ _ _ _ _ _ _ _ r h => by simp [spec_l10Own.l0] at h
  | k + 1 => by
    have ih0 := spec_l10Own.mono_l k
    · intro y0 y1 y2 y3 y4 y5 y6 y7 y8
      unfold spec_l10Own.l0
      repeat' first| (with_reducible first | exact ih0 _ _ _ _ _ _ _ _ _ | exact LeO.refl _ | exact LeO.none _ | refine LeO.ite ?_ ?_ | refine LeO.bind ?_ (fun _ => ?_)) | exact ih0 _ _ _ _ _ _ _ _ _ | exact LeO.none _ | refine LeO.ite ?_ ?_ | refine LeO.bind ?_ (fun _ => ?_)
theorem spec_l10Own.mono : ∀ a0 a1 a2 a3 k, LeO (spec_l10Own.f k a0 a1 a2 a3) (spec_l10Own.f (k + 1) a0 a1 a2 a3) := by
  intro a0 a1 a2 a3 k
  have ih0 := spec_l10Own.mono_l k
  unfold spec_l10Own.f
  repeat' first| (with_reducible first | exact ih0 _ _ _ _ _ _ _ _ _ | exact LeO.refl _ | exact LeO.none _ | refine LeO.ite ?_ ?_ | refine LeO.bind ?_ (fun _ => ?_)) | exact ih0 _ _ _ _ _ _ _ _ _ | exact LeO.none _ | refine LeO.ite ?_ ?_ | refine LeO.bind ?_ (fun _ => ?_)
def spec_l10Own.T1 : Bool × List (List Nat × List Nat) := (true, [([], []), ([], []), ([1], [1]), ([0, 2], [0, 2]), ([], []), ([], []), ([5], [5]), ([4, 6, 3], [4, 6]), ([], []), ([], []), ([], []), ([10], [10]), ([9, 11, 7], [9, 11]), ([3, 7, 8, 12], [3, 7, 8, 12]), ([], []), ([14, 13, 12, 0, 1, 2, 3, 4, 5, 6, 7, 8, 9, 10, 11, 12, 13, 14], [13, 14])])
def spec_l10Own.B1 : List Nat := [0, 0, 2, 7, 0, 0, 32, 127, 0, 0, 0, 1024, 3839, 8191, 0, 32767]
theorem spec_l10Own.tab1 : rtab .any (opsOf Tryz.f31 1) = spec_l10Own.T1 := by kernel_rfl
theorem spec_l10Own.bits1 : waitsOk spec_l10Own.T1.2 spec_l10Own.B1 = true := by kernel_rfl
def spec_l10Own.T5 : Bool × List (List Nat × List Nat) := (true, [([], []), ([0], [0]), ([], []), ([2], [2]), ([], []), ([3, 4], [3, 4]), ([5], [5]), ([6], [6]), ([], []), ([], []), ([9], [9]), ([], []), ([10, 11], [10, 11]), ([12], [12]), ([13], [13]), ([8, 14], [8, 14]), ([7, 15], [7, 15]), ([16], [16]), ([1, 17, 15], [1, 17]), ([0, 1, 2, 3, 4, 5, 6, 7, 8, 9, 10, 11, 12, 13, 14, 15, 16, 17, 18], []), ([19, 18, 18, 0, 1, 2, 3, 4, 5, 6, 7, 8, 9, 10, 11, 12, 13, 14, 15, 16, 17, 18], [18, 19])])
def spec_l10Own.B5 : List Nat := [0, 1, 0, 4, 0, 28, 60, 124, 0, 0, 512, 0, 3584, 7680, 15872, 32512, 65532, 131068, 262143, 524287, 1048575]
theorem spec_l10Own.tab5 : rtab .any (opsOf Tryz.f31 5) = spec_l10Own.T5 := by kernel_rfl
theorem spec_l10Own.bits5 : waitsOk spec_l10Own.T5.2 spec_l10Own.B5 = true := by kernel_rfl
set_option maxHeartbeats 8000000 in
set_option maxRecDepth 100000 in
theorem spec_l10Own.calls (k : Nat) (b5 : Option Addr) (b6 : Nat) (O : List Int) (b7 : Option Addr) (b8 : Nat) (F : List Int) (d9 : Option Addr) (d3 : Nat) (z : List (S66)) (b9 : Option Addr) (c0 : Nat) (x : List Int) (r1 : List Int) (r2 : List Int) (r3 : List (S66)) (r4 : List Int) (w : World) (j5 : Kd.C (Kd.int .i64) w b5 O.length O) (j6 : O.length ≤ b6) (j7 : Kd.C (Kd.int .i64) w b7 F.length F) (j8 : F.length ≤ b8) (j9 : Kd.C k66 w d9 z.length z) (k0 : z.length ≤ d3) (k2 : Kd.C (Kd.int .i64) w b9 x.length x) (k3 : x.length ≤ c0) (h : spec_l10Own.f k O F z x = some (r1, r2, r3, r4)) :
    Calls Tryz.prog 31 #[.agg #[.slice b5 O.length b6, .slice b7 F.length b8, .slice d9 z.length d3, .slice b9 x.length c0]] w fun e w' => ∃ i5 i6 n8 i7 : Value, e = .returned (.agg #[i5, i6, n8, i7]) ∧ Kd.R (Kd.int .i64) 3 w' w.heap.size (fun k_ => some k_ ≠ (i6 : Value).ownBlock ∧ some k_ ≠ (i7 : Value).ownBlock) i5 r1 ∧ Kd.R (Kd.int .i64) 3 w' w.heap.size (fun k_ => some k_ ≠ (i5 : Value).ownBlock ∧ some k_ ≠ (i7 : Value).ownBlock) i6 r2 ∧ Kd.S k66 66 w' w.heap.size (fun k_ => some k_ ≠ (i5 : Value).ownBlock ∧ some k_ ≠ (i6 : Value).ownBlock ∧ some k_ ≠ (i7 : Value).ownBlock) n8 r3 ∧ Kd.R (Kd.int .i64) 3 w' w.heap.size (fun k_ => some k_ ≠ (i5 : Value).ownBlock ∧ some k_ ≠ (i6 : Value).ownBlock) i7 r4 ∧ Below w.heap.size w w' := by
 have hu26 := Tryz.underlying26; have hu66 := Tryz.underlying66; have ZE := zm j5; have ZJ := zm j6; clear j5 j6; have ZF := zm j7; have ZK := zm j8; clear j7 j8; have ZB := zm j9; have ZL := zm k0; clear j9 k0; have ZG := zm k2; have ZM := zm k3; clear k2 k3; have HB := zm (Below.refl w.heap.size w); have H := h
 unfold spec_l10Own.f at H
 clear h
 obtain ⟨g1, h5⟩ : ∃ y_ : List Int, y_ = (([] : List Int)) := ⟨_, rfl⟩
 replace H : (if g1.length + O.length < 17592186044416 then ((some (([] : List Int) : List Int)).bind fun e1 => (if e1.length + F.length < 17592186044416 then ((some (([] : List Int) : List Int)).bind fun c5 => (if c5.length + x.length < 17592186044416 then (spec_l10Own.l0 k 0 O F z x (g1 ++ O) (e1 ++ F) (([] : List (S66))) (c5 ++ x)) else (none))) else (none))) else (none)) = some (r1, r2, r3, r4) := zy H h5
 have k4 := zm h5; clear h5
 by_cases c2 : g1.length + O.length < 17592186044416
 rotate_left
 ·rw [if_neg c2] at H
  exact absurd H (by simp)
 rw [if_pos c2] at H; have o0 := zm c2; clear c2
 obtain ⟨V, h6⟩ : ∃ y_ : List Int, y_ = (g1 ++ O) := ⟨_, rfl⟩
 replace H : ((some (([] : List Int) : List Int)).bind fun e1 => (if e1.length + F.length < 17592186044416 then ((some (([] : List Int) : List Int)).bind fun c5 => (if c5.length + x.length < 17592186044416 then (spec_l10Own.l0 k 0 O F z x V (e1 ++ F) (([] : List (S66))) (c5 ++ x)) else (none))) else (none))) = some (r1, r2, r3, r4) := zy H h6
 have m8 := zm h6; clear h6
 obtain ⟨e1, h7⟩ : ∃ y_ : List Int, y_ = (([] : List Int)) := ⟨_, rfl⟩
 replace H : (if e1.length + F.length < 17592186044416 then ((some (([] : List Int) : List Int)).bind fun c5 => (if c5.length + x.length < 17592186044416 then (spec_l10Own.l0 k 0 O F z x V (e1 ++ F) (([] : List (S66))) (c5 ++ x)) else (none))) else (none)) = some (r1, r2, r3, r4) := zy H h7
 have k5 := zm h7; clear h7
 by_cases c3 : e1.length + F.length < 17592186044416
 rotate_left
 ·rw [if_neg c3] at H
  exact absurd H (by simp)
 rw [if_pos c3] at H; have o1 := zm c3; clear c3
 obtain ⟨Z, h8⟩ : ∃ y_ : List Int, y_ = (e1 ++ F) := ⟨_, rfl⟩
 replace H : ((some (([] : List Int) : List Int)).bind fun c5 => (if c5.length + x.length < 17592186044416 then (spec_l10Own.l0 k 0 O F z x V Z (([] : List (S66))) (c5 ++ x)) else (none))) = some (r1, r2, r3, r4) := zy H h8
 have m9 := zm h8; clear h8
 obtain ⟨f3, h9⟩ : ∃ y_ : List (S66), y_ = (([] : List (S66))) := ⟨_, rfl⟩
 replace H : ((some (([] : List Int) : List Int)).bind fun c5 => (if c5.length + x.length < 17592186044416 then (spec_l10Own.l0 k 0 O F z x V Z f3 (c5 ++ x)) else (none))) = some (r1, r2, r3, r4) := zy H h9
 have k6 := zm h9; clear h9
 obtain ⟨c5, i0⟩ : ∃ y_ : List Int, y_ = (([] : List Int)) := ⟨_, rfl⟩
 replace H : (if c5.length + x.length < 17592186044416 then (spec_l10Own.l0 k 0 O F z x V Z f3 (c5 ++ x)) else (none)) = some (r1, r2, r3, r4) := zy H i0
 have k7 := zm i0; clear i0
 by_cases c4 : c5.length + x.length < 17592186044416
 rotate_left
 ·rw [if_neg c4] at H
  exact absurd H (by simp)
 rw [if_pos c4] at H; have o2 := zm c4; clear c4
 obtain ⟨a7, i1⟩ : ∃ y_ : List Int, y_ = (c5 ++ x) := ⟨_, rfl⟩
 replace H : (spec_l10Own.l0 k 0 O F z x V Z f3 a7) = some (r1, r2, r3, r4) := zy H i1
 have n0 := zm i1; clear i1
 have H' := zm H
 clear H
 go_enter Tryz.func31, Tryz.ntmps31
 try go_wp2_with (first | ((with_reducible refine gate_dst (N := 1) rfl ?_); refine box_event ?hg (N := 1) ?hd (cs := #[.slice b5 O.length b6, .slice b7 F.length b8, .slice d9 z.length d3, .slice b9 x.length c0]) (t := 26) ?hr ?_; (case hd => rfl); (case hg => rfl); (case hr => first | (go_simp; done) | (go_simp; rfl)); intro D hg w5 hbox hb; have d4 := zm (below_step (zg_1 HB.out) hb); have d5 := zm (hbox); have d6 := zm ((by rw [hg]; exact (below_size (zg_1 HB.out)) : w.heap.size ≤ D)); have e0 := zm ((by rw [hg]; exact (below_size (zg_1 HB.out)) : w.heap.size ≤ D)); replace HB := d4; have Za := d5; have ZN := d6; have Zl := e0; clear d4 d5 d6 e0; clear hb hbox hg) | ((with_reducible refine gate_dst (N := 2) rfl ?_); refine box_event ?hg (N := 2) ?hd (cs := #[.slice none 0 0, .slice none 0 0, .slice none 0 0, .slice none 0 0]) (t := 26) ?hr ?_; (case hd => rfl); (case hg => rfl); (case hr => first | (go_simp; done) | (go_simp; rfl)); intro d2 hg w6 hbox hb; have d4 := zm (blk_below (g := D) (o := .cells #[.slice b5 O.length b6, .slice b7 F.length b8, .slice d9 z.length d3, .slice b9 x.length c0] 26 (0, 0)) (zg_3 Za.out) hb); have d5 := zm (below_step (zg_2 HB.out Zl.out) hb); have d6 := zm (hbox); have e0 := zm ((by rw [hg]; exact (below_size (zg_2 HB.out Zl.out)) : w.heap.size ≤ d2)); have e2 := zm ((by rw [hg]; exact (below_size (zg_2 HB.out Zl.out)) : w.heap.size ≤ d2)); have e4 := zm ((by rw [hg]; exact Nat.ne_of_lt (blk_lt (g := D) (o := .cells #[.slice b5 O.length b6, .slice b7 F.length b8, .slice d9 z.length d3, .slice b9 x.length c0] 26 (0, 0)) (zg_3 Za.out)) : D ≠ d2)); have f2 := zm ((by rw [hg]; exact Nat.ne_of_gt (blk_lt (g := D) (o := .cells #[.slice b5 O.length b6, .slice b7 F.length b8, .slice d9 z.length d3, .slice b9 x.length c0] 26 (0, 0)) (zg_3 Za.out)) : d2 ≠ D)); replace Za := d4; replace HB := d5; have Zg := d6; have ZO := e0; have Zq := e2; have Zv := e4; have Zw := f2; clear d4 d5 d6 e0 e2 e4 f2; clear hb hbox hg))
 have d4 := zm (blk_drew Za.out); have d5 := zm (blk_drew Zg.out); have d6 := zm (below_drew1 HB.out); clear Za; clear Zg; clear HB; have Za := d4; have Zg := d5; have HB := d6; clear d4 d5 d6
 refine start_ (n := 16) (S := fun w' => True) (ds := []) #[ff, ff, ff, ff, ff, ff, ff, ff, ff, ff, ff, ff, ff, ff, ff, ff] (by kernel_rfl) rfl rfl trivial (fun hHeld => ?_); refine with_tabW spec_l10Own.tab1 spec_l10Own.bits1 (fun HT_ HW_ => ?_)
 generalize w6.drew = w7 at Za Zg HB hHeld ⊢
 refine pure_ (i := 1) (N := some 6) (v := ?_) (a' := ?_) #[ff, tt, ff, ff, ff, ff, ff, ff, ff, ff, ff, ff, ff, ff, ff, ff] rfl rfl (any_of HT_.out (by kernel_rfl)) (fun _ _ _ h => h) (Or.inl ⟨by rfl, ?_⟩) ?_ ?_
 rotate_left
 ·intro w'
  go_simp
  with_reducible rfl
 rotate_left
 ·simp only [Act.put, zs, zz, zt, i64_w, i32_w]
  rfl
 refine pure_ (i := 5) (N := some 10) (v := ?_) (a' := ?_) #[ff, tt, ff, ff, ff, tt, ff, ff, ff, ff, ff, ff, ff, ff, ff, ff] rfl rfl (any_of HT_.out (by kernel_rfl)) (fun _ _ _ h => h) (Or.inl ⟨by rfl, ?_⟩) ?_ ?_
 rotate_left
 ·intro w'
  go_simp
  with_reducible rfl
 rotate_left
 ·simp only [Act.put, zs, zz, zt, i64_w, i32_w]
  rfl
 refine pure_ (i := 10) (N := some 15) (v := ?_) (a' := ?_) #[ff, tt, ff, ff, ff, tt, ff, ff, ff, ff, tt, ff, ff, ff, ff, ff] rfl rfl (any_of HT_.out (by kernel_rfl)) (fun _ _ _ h => h) (Or.inl ⟨by rfl, ?_⟩) ?_ ?_
 rotate_left
 ·intro w'
  go_simp
  with_reducible rfl
 rotate_left
 ·simp only [Act.put, zs, zz, zt, i64_w, i32_w]
  rfl
 refine inv_at [0, 2, 3, 4, 6, 7, 8, 9, 11, 12, 13, 14, 15] (fun a0_ b a w' => ∃ (a4 : Value) (a8 : Value) (a5 : Value) (a9 : Value) (b0 : Value) (a6 : Value) (b1 : Value) (c : Nat) (own_ : Nat → Nat) (m13_ : Value) (m14_ : Value), a = putSel a0_ b [(0, 5, a4), (2, 7, .slice b5 O.length b6), (3, 8, a8), (4, 9, a5), (6, 11, .slice b7 F.length b8), (7, 12, a9), (8, 13, b0), (9, 14, a6), (11, 16, .slice b9 x.length c0), (12, 17, b1), (13, 18, m13_), (14, 3, m14_)] ∧ (w'.heap[D]? = some (.cells #[.slice b5 O.length b6, .slice b7 F.length b8, .slice d9 z.length d3, .slice b9 x.length c0] 26 (0, 0))) ∧ (w'.heap[d2]? = some (.cells #[.slice none 0 0, .slice none 0 0, .slice none 0 0, .slice none 0 0] 26 (0, 0))) ∧ (Below w.heap.size w w') ∧ (b 0 = true → b 3 = false → Kd.R (Kd.int .i64) 3 w' w.heap.size (fun k_ => own_ k_ = 0) a4 g1) ∧ (b 3 = true → Kd.R (Kd.int .i64) 3 w' w.heap.size (fun k_ => own_ k_ = 0) a8 V) ∧ (b 4 = true → b 7 = false → Kd.R (Kd.int .i64) 3 w' w.heap.size (fun k_ => own_ k_ = 4) a5 e1) ∧ (b 7 = true → Kd.R (Kd.int .i64) 3 w' w.heap.size (fun k_ => own_ k_ = 4) a9 Z) ∧ (b 8 = true → Kd.S k66 66 w' w.heap.size (fun k_ => own_ k_ = 8) b0 f3) ∧ (b 9 = true → b 12 = false → Kd.R (Kd.int .i64) 3 w' w.heap.size (fun k_ => own_ k_ = 9) a6 c5) ∧ (b 12 = true → Kd.R (Kd.int .i64) 3 w' w.heap.size (fun k_ => own_ k_ = 9) b1 a7) ∧ (b 14 = true → b 15 = false → w'.heap[c]? = some (.cells #[.slice none 0 0, .slice none 0 0, .slice none 0 0, .slice none 0 0] 26 (0, 0))) ∧ (b 14 = true → w.heap.size ≤ c) ∧ (b 14 = true → w.heap.size ≤ c) ∧ (b 14 = true → D ≠ c) ∧ (b 14 = true → c ≠ D) ∧ (b 14 = true → d2 ≠ c) ∧ (b 14 = true → c ≠ d2) ∧ (b 15 = true → w'.heap[c]? = some (.cells #[a8, a9, b0, b1] 26 (0, 0))) ∧ (b 13 = true → (m13_ : Value) = .agg #[a8, a9, b0, b1]) ∧ (b 14 = true → (m14_ : Value) = .pointer (some ⟨c, 0, none⟩))) HT_.out HW_.out (by kernel_rfl) (by kernel_rfl) ?_ ?_ ?_
 ·exact ⟨.bool false, .bool false, .bool false, .bool false, .bool false, .bool false, .bool false, 0, fun _ => 0, .bool false, .bool false, by simp only [putSel, Bool.false_eq_true, if_false], Za.out, Zg.out, HB.out, fun h_ => absurd h_ (by decide), fun h_ => absurd h_ (by decide), fun h_ => absurd h_ (by decide), fun h_ => absurd h_ (by decide), fun h_ => absurd h_ (by decide), fun h_ => absurd h_ (by decide), fun h_ => absurd h_ (by decide), fun h_ => absurd h_ (by decide), fun h_ => absurd h_ (by decide), fun h_ => absurd h_ (by decide), fun h_ => absurd h_ (by decide), fun h_ => absurd h_ (by decide), fun h_ => absurd h_ (by decide), fun h_ => absurd h_ (by decide), fun h_ => absurd h_ (by decide), fun h_ => absurd h_ (by decide), fun h_ => absurd h_ (by decide)⟩
 ·skip
  clear Za Zg HB
  refine steps_cons ?_ ?_
  ·rintro b a w' ⟨a4, a8, a5, a9, b0, a6, b1, c, own_, m13_, m14_, ha, q, s, T, U, E, J, L, y, I, Y, u, A, B, d, j, l, m, G, b2, M⟩ hb_ hon hoff
   refine ⟨_, rfl, fun K hK => ?_⟩
   replace ha := zm ha
   refine Kd.R_lit_step (Kd.int .i64) _ 3 ?hg (N := 5) ?hd (xs := ([] : List Int)) (inner := []) (ok := fun _ => True) (okp := fun _ => True) ?hr ?hp (fun _ hk => hk) trivial (Below.refl _ _) (Nat.le_refl _) (by simp) ?_; (case hd => rfl); (case hg => rfl); (case hr => first | (go_simp; done) | (go_simp; rfl)); (case hp => exact (Reps.none _ _))
   intro a4 w8 d7 hb hg_ hnew_
   (first | rw [← k4.out] at d7 | (simp only [Int.reduceToNat] at d7; rw [← k4.out] at d7))
   refine hK.out _ _ ⟨a4, a8, a5, a9, b0, a6, b1, c, (fun k_ => if k_ < w'.heap.size then own_ k_ else 0), m13_, m14_, (by rw [ha.out]; exact putSel_upk 0 hb_ rfl rfl rfl), blk_below q hb, blk_below s hb, below_step T hb, fun _ _ => Kd.R_ownN d7 (below_size T), fun h0_ => absurd ((hoff 3 (by kernel_rfl)).symm.trans h0_) (by decide), fun h0_ h1_ => Kd.R_ownB (J h0_ h1_) hb, fun h0_ => absurd ((hoff 7 (by kernel_rfl)).symm.trans h0_) (by decide), fun h0_ => Kd.S_ownB (y h0_) hb, fun h0_ h1_ => Kd.R_ownB (I h0_ h1_) hb, fun h0_ => absurd ((hoff 12 (by kernel_rfl)).symm.trans h0_) (by decide), fun h0_ h1_ => blk_below (u h0_ h1_) hb, A, B, d, j, l, m, fun h0_ => absurd ((hoff 15 (by kernel_rfl)).symm.trans h0_) (by decide), fun h0_ => absurd ((hoff 13 (by kernel_rfl)).symm.trans h0_) (by decide), M⟩
  refine steps_cons ?_ ?_
  ·rintro b a w' ⟨a4, a8, a5, a9, b0, a6, b1, c, own_, m13_, m14_, ha, q, s, T, U, E, J, L, y, I, Y, u, A, B, d, j, l, m, G, b2, M⟩ hb_ hon hoff
   refine ⟨_, rfl, fun K hK => ?_⟩
   have e6 : a.tmps[6]? = some (.pointer (some ⟨D, 0, none⟩)) := by rw [ha]; exact (putSel_off rfl).trans rfl
   replace ha := zm ha; have Za := zm q
   have hc0_ : w'.cell? ⟨D, 0, none⟩ = some (.slice b5 O.length b6) := (blk_cell Za.out 0).trans rfl
   have hc1_ : w'.cell? ⟨D, 1, none⟩ = some (.slice b7 F.length b8) := (blk_cell Za.out 1).trans rfl
   have hc2_ : w'.cell? ⟨D, 2, none⟩ = some (.slice d9 z.length d3) := (blk_cell Za.out 2).trans rfl
   have hc3_ : w'.cell? ⟨D, 3, none⟩ = some (.slice b9 x.length c0) := (blk_cell Za.out 3).trans rfl
   refine value_ (w1 := w') (v := .slice b5 O.length b6) (by rfl) rfl ?_ ?_
   ·go_simp
    (try simp only [i64_w])
    try rfl
   refine hK.out _ _ ⟨a4, a8, a5, a9, b0, a6, b1, c, own_, m13_, m14_, (by rw [ha.out]; exact putSel_upk 1 hb_ rfl rfl rfl), q, s, T, U, fun h0_ => absurd ((hoff 3 (by kernel_rfl)).symm.trans h0_) (by decide), J, fun h0_ => absurd ((hoff 7 (by kernel_rfl)).symm.trans h0_) (by decide), y, I, fun h0_ => absurd ((hoff 12 (by kernel_rfl)).symm.trans h0_) (by decide), u, A, B, d, j, l, m, fun h0_ => absurd ((hoff 15 (by kernel_rfl)).symm.trans h0_) (by decide), fun h0_ => absurd ((hoff 13 (by kernel_rfl)).symm.trans h0_) (by decide), M⟩
  refine steps_cons ?_ ?_
  ·rintro b a w' ⟨a4, a8, a5, a9, b0, a6, b1, c, own_, m13_, m14_, ha, q, s, T, U, E, J, L, y, I, Y, u, A, B, d, j, l, m, G, b2, M⟩ hb_ hon hoff
   refine ⟨_, rfl, fun K hK => ?_⟩
   have e5 : a.tmps[5]? = some (a4) := by rw [ha]; exact putSel_on (e := (0, 5, a4)) 0 rfl rfl (hon 0 (by kernel_rfl)) rfl
   have e7 : a.tmps[7]? = some (.slice b5 O.length b6) := by rw [ha]; exact putSel_on (e := (2, 7, .slice b5 O.length b6)) 1 rfl rfl (hon 2 (by kernel_rfl)) rfl
   replace ha := zm ha; have HB := zm T; have Zs := zm (U (hon 0 (by kernel_rfl)) hb_)
   refine Kd.R_append_rows_step (Kd.int .i64) (w0 := w) w.heap.size (by rfl) (.tmp 5) (.tmp 7) 23 3 (.int .i64 0) 8 rfl Tryz.underlying23 info3 rfl (by decide) (by omega) a4 g1 O _ _ _ (fun _ => True) (fun _ => False) (eval_of e5) (eval_of e7) ?aO ?aR (fun _ _ h => h) (fun _ h => h.elim) ?aF ?aB ?aS ?aL ?_
   (case aR => exact zC (Kd.C_below ZE.out HB.out))
   (case aB => exact T)
   (case aF => exact (fun _ _ => trivial))
   (case aO => exact Kd.R_mono Zs.out (fun _ _ => trivial))
   (case aS => exact (below_size T))
   (case aL => have := o0.out; omega)
   intro a8 x8 ho hb hg hat
   rw [← m8.out] at ho
   refine hK.out _ _ ⟨a4, a8, a5, a9, b0, a6, b1, c, (fun k_ => if k_ < w'.heap.size then own_ k_ else 0), m13_, m14_, (by rw [ha.out]; exact putSel_upk 2 hb_ rfl rfl rfl), blk_grown q hg (Kd.R_ne Zs.out q (by decide)), blk_grown s hg (Kd.R_ne Zs.out s (by decide)), hb, fun _ h1_ => absurd ((up_self b 3).symm.trans h1_) (by decide), fun _ => Kd.R_ownA rfl ho hat Zs.out.1, fun h0_ h1_ => Kd.R_ownG (J h0_ h1_) Zs.out.1 (by decide) hg, fun h0_ => absurd ((hoff 7 (by kernel_rfl)).symm.trans h0_) (by decide), fun h0_ => Kd.S_ownG (y h0_) Zs.out.1 (by decide) hg, fun h0_ h1_ => Kd.R_ownG (I h0_ h1_) Zs.out.1 (by decide) hg, fun h0_ => absurd ((hoff 12 (by kernel_rfl)).symm.trans h0_) (by decide), fun h0_ h1_ => blk_grown (u h0_ h1_) hg (Kd.R_ne Zs.out (u h0_ h1_) (by decide)), A, B, d, j, l, m, fun h0_ => absurd ((hoff 15 (by kernel_rfl)).symm.trans h0_) (by decide), fun h0_ => absurd ((hoff 13 (by kernel_rfl)).symm.trans h0_) (by decide), M⟩
  refine steps_cons ?_ ?_
  ·rintro b a w' ⟨a4, a8, a5, a9, b0, a6, b1, c, own_, m13_, m14_, ha, q, s, T, U, E, J, L, y, I, Y, u, A, B, d, j, l, m, G, b2, M⟩ hb_ hon hoff
   refine ⟨_, rfl, fun K hK => ?_⟩
   replace ha := zm ha
   refine Kd.R_lit_step (Kd.int .i64) _ 3 ?hg (N := 9) ?hd (xs := ([] : List Int)) (inner := []) (ok := fun _ => True) (okp := fun _ => True) ?hr ?hp (fun _ hk => hk) trivial (Below.refl _ _) (Nat.le_refl _) (by simp) ?_; (case hd => rfl); (case hg => rfl); (case hr => first | (go_simp; done) | (go_simp; rfl)); (case hp => exact (Reps.none _ _))
   intro a5 w8 d7 hb hg_ hnew_
   (first | rw [← k5.out] at d7 | (simp only [Int.reduceToNat] at d7; rw [← k5.out] at d7))
   refine hK.out _ _ ⟨a4, a8, a5, a9, b0, a6, b1, c, (fun k_ => if k_ < w'.heap.size then own_ k_ else 4), m13_, m14_, (by rw [ha.out]; exact putSel_upk 3 hb_ rfl rfl rfl), blk_below q hb, blk_below s hb, below_step T hb, fun h0_ h1_ => Kd.R_ownB (U h0_ h1_) hb, fun h0_ => Kd.R_ownB (E h0_) hb, fun _ _ => Kd.R_ownN d7 (below_size T), fun h0_ => absurd ((hoff 7 (by kernel_rfl)).symm.trans h0_) (by decide), fun h0_ => Kd.S_ownB (y h0_) hb, fun h0_ h1_ => Kd.R_ownB (I h0_ h1_) hb, fun h0_ => absurd ((hoff 12 (by kernel_rfl)).symm.trans h0_) (by decide), fun h0_ h1_ => blk_below (u h0_ h1_) hb, A, B, d, j, l, m, fun h0_ => absurd ((hoff 15 (by kernel_rfl)).symm.trans h0_) (by decide), fun h0_ => absurd ((hoff 13 (by kernel_rfl)).symm.trans h0_) (by decide), M⟩
  refine steps_cons ?_ ?_
  ·rintro b a w' ⟨a4, a8, a5, a9, b0, a6, b1, c, own_, m13_, m14_, ha, q, s, T, U, E, J, L, y, I, Y, u, A, B, d, j, l, m, G, b2, M⟩ hb_ hon hoff
   refine ⟨_, rfl, fun K hK => ?_⟩
   have x9 : a.tmps[10]? = some (.pointer (some ⟨D, 1, none⟩)) := by rw [ha]; exact (putSel_off rfl).trans rfl
   replace ha := zm ha; have Za := zm q
   have hc0_ : w'.cell? ⟨D, 0, none⟩ = some (.slice b5 O.length b6) := (blk_cell Za.out 0).trans rfl
   have hc1_ : w'.cell? ⟨D, 1, none⟩ = some (.slice b7 F.length b8) := (blk_cell Za.out 1).trans rfl
   have hc2_ : w'.cell? ⟨D, 2, none⟩ = some (.slice d9 z.length d3) := (blk_cell Za.out 2).trans rfl
   have hc3_ : w'.cell? ⟨D, 3, none⟩ = some (.slice b9 x.length c0) := (blk_cell Za.out 3).trans rfl
   refine value_ (w1 := w') (v := .slice b7 F.length b8) (by rfl) rfl ?_ ?_
   ·go_simp
    (try simp only [i64_w])
    try rfl
   refine hK.out _ _ ⟨a4, a8, a5, a9, b0, a6, b1, c, own_, m13_, m14_, (by rw [ha.out]; exact putSel_upk 4 hb_ rfl rfl rfl), q, s, T, U, E, J, fun h0_ => absurd ((hoff 7 (by kernel_rfl)).symm.trans h0_) (by decide), y, I, fun h0_ => absurd ((hoff 12 (by kernel_rfl)).symm.trans h0_) (by decide), u, A, B, d, j, l, m, fun h0_ => absurd ((hoff 15 (by kernel_rfl)).symm.trans h0_) (by decide), fun h0_ => absurd ((hoff 13 (by kernel_rfl)).symm.trans h0_) (by decide), M⟩
  refine steps_cons ?_ ?_
  ·rintro b a w' ⟨a4, a8, a5, a9, b0, a6, b1, c, own_, m13_, m14_, ha, q, s, T, U, E, J, L, y, I, Y, u, A, B, d, j, l, m, G, b2, M⟩ hb_ hon hoff
   refine ⟨_, rfl, fun K hK => ?_⟩
   have e9 : a.tmps[9]? = some (a5) := by rw [ha]; exact putSel_on (e := (4, 9, a5)) 3 rfl rfl (hon 4 (by kernel_rfl)) rfl
   have t4 : a.tmps[11]? = some (.slice b7 F.length b8) := by rw [ha]; exact putSel_on (e := (6, 11, .slice b7 F.length b8)) 4 rfl rfl (hon 6 (by kernel_rfl)) rfl
   replace ha := zm ha; have HB := zm T; have Zt := zm (J (hon 4 (by kernel_rfl)) hb_)
   refine Kd.R_append_rows_step (Kd.int .i64) (w0 := w) w.heap.size (by rfl) (.tmp 9) (.tmp 11) 23 3 (.int .i64 0) 8 rfl Tryz.underlying23 info3 rfl (by decide) (by omega) a5 e1 F _ _ _ (fun _ => True) (fun _ => False) (eval_of e9) (eval_of t4) ?aO ?aR (fun _ _ h => h) (fun _ h => h.elim) ?aF ?aB ?aS ?aL ?_
   (case aR => exact zC (Kd.C_below ZF.out HB.out))
   (case aB => exact T)
   (case aF => exact (fun _ _ => trivial))
   (case aO => exact Kd.R_mono Zt.out (fun _ _ => trivial))
   (case aS => exact (below_size T))
   (case aL => have := o1.out; omega)
   intro a9 y9 ho hb hg hat
   rw [← m9.out] at ho
   refine hK.out _ _ ⟨a4, a8, a5, a9, b0, a6, b1, c, (fun k_ => if k_ < w'.heap.size then own_ k_ else 4), m13_, m14_, (by rw [ha.out]; exact putSel_upk 5 hb_ rfl rfl rfl), blk_grown q hg (Kd.R_ne Zt.out q (by decide)), blk_grown s hg (Kd.R_ne Zt.out s (by decide)), hb, fun _ h1_ => absurd ((hon 3 (by kernel_rfl)).symm.trans h1_) (by decide), fun h0_ => Kd.R_ownG (E h0_) Zt.out.1 (by decide) hg, fun _ h1_ => absurd ((up_self b 7).symm.trans h1_) (by decide), fun _ => Kd.R_ownA rfl ho hat Zt.out.1, fun h0_ => Kd.S_ownG (y h0_) Zt.out.1 (by decide) hg, fun h0_ h1_ => Kd.R_ownG (I h0_ h1_) Zt.out.1 (by decide) hg, fun h0_ => absurd ((hoff 12 (by kernel_rfl)).symm.trans h0_) (by decide), fun h0_ h1_ => blk_grown (u h0_ h1_) hg (Kd.R_ne Zt.out (u h0_ h1_) (by decide)), A, B, d, j, l, m, fun h0_ => absurd ((hoff 15 (by kernel_rfl)).symm.trans h0_) (by decide), fun h0_ => absurd ((hoff 13 (by kernel_rfl)).symm.trans h0_) (by decide), M⟩
  refine steps_cons ?_ ?_
  ·rintro b a w' ⟨a4, a8, a5, a9, b0, a6, b1, c, own_, m13_, m14_, ha, q, s, T, U, E, J, L, y, I, Y, u, A, B, d, j, l, m, G, b2, M⟩ hb_ hon hoff
   refine ⟨_, rfl, fun K hK => ?_⟩
   replace ha := zm ha
   refine Kd.S_lit_step k66 _ 66 ?hg (N := 13) ?hd (xs := ([] : List (S66))) (inner := []) (ok := fun _ => True) (okp := fun _ => True) ?hr ?hp (fun _ hk => hk) trivial (Below.refl _ _) (Nat.le_refl _) (by simp) ?_; (case hd => rfl); (case hg => rfl); (case hr => first | (go_simp; done) | (go_simp; rfl)); (case hp => exact (Reps.none _ _))
   intro b0 w8 d7 hb hg_ hnew_
   (first | rw [← k6.out] at d7 | (simp only [Int.reduceToNat] at d7; rw [← k6.out] at d7))
   refine hK.out _ _ ⟨a4, a8, a5, a9, b0, a6, b1, c, (fun k_ => if k_ < w'.heap.size then own_ k_ else 8), m13_, m14_, (by rw [ha.out]; exact putSel_upk 6 hb_ rfl rfl rfl), blk_below q hb, blk_below s hb, below_step T hb, fun h0_ h1_ => Kd.R_ownB (U h0_ h1_) hb, fun h0_ => Kd.R_ownB (E h0_) hb, fun h0_ h1_ => Kd.R_ownB (J h0_ h1_) hb, fun h0_ => Kd.R_ownB (L h0_) hb, fun _ => Kd.S_ownN d7 (below_size T), fun h0_ h1_ => Kd.R_ownB (I h0_ h1_) hb, fun h0_ => Kd.R_ownB (Y h0_) hb, fun h0_ h1_ => blk_below (u h0_ h1_) hb, A, B, d, j, l, m, fun h0_ => absurd ((hoff 15 (by kernel_rfl)).symm.trans h0_) (by decide), fun h0_ => absurd ((hoff 13 (by kernel_rfl)).symm.trans h0_) (by decide), M⟩
  refine steps_cons ?_ ?_
  ·rintro b a w' ⟨a4, a8, a5, a9, b0, a6, b1, c, own_, m13_, m14_, ha, q, s, T, U, E, J, L, y, I, Y, u, A, B, d, j, l, m, G, b2, M⟩ hb_ hon hoff
   refine ⟨_, rfl, fun K hK => ?_⟩
   replace ha := zm ha
   refine Kd.R_lit_step (Kd.int .i64) _ 3 ?hg (N := 14) ?hd (xs := ([] : List Int)) (inner := []) (ok := fun _ => True) (okp := fun _ => True) ?hr ?hp (fun _ hk => hk) trivial (Below.refl _ _) (Nat.le_refl _) (by simp) ?_; (case hd => rfl); (case hg => rfl); (case hr => first | (go_simp; done) | (go_simp; rfl)); (case hp => exact (Reps.none _ _))
   intro a6 w8 d7 hb hg_ hnew_
   (first | rw [← k7.out] at d7 | (simp only [Int.reduceToNat] at d7; rw [← k7.out] at d7))
   refine hK.out _ _ ⟨a4, a8, a5, a9, b0, a6, b1, c, (fun k_ => if k_ < w'.heap.size then own_ k_ else 9), m13_, m14_, (by rw [ha.out]; exact putSel_upk 7 hb_ rfl rfl rfl), blk_below q hb, blk_below s hb, below_step T hb, fun h0_ h1_ => Kd.R_ownB (U h0_ h1_) hb, fun h0_ => Kd.R_ownB (E h0_) hb, fun h0_ h1_ => Kd.R_ownB (J h0_ h1_) hb, fun h0_ => Kd.R_ownB (L h0_) hb, fun h0_ => Kd.S_ownB (y h0_) hb, fun _ _ => Kd.R_ownN d7 (below_size T), fun h0_ => absurd ((hoff 12 (by kernel_rfl)).symm.trans h0_) (by decide), fun h0_ h1_ => blk_below (u h0_ h1_) hb, A, B, d, j, l, m, fun h0_ => absurd ((hoff 15 (by kernel_rfl)).symm.trans h0_) (by decide), fun h0_ => absurd ((hoff 13 (by kernel_rfl)).symm.trans h0_) (by decide), M⟩
  refine steps_cons ?_ ?_
  ·rintro b a w' ⟨a4, a8, a5, a9, b0, a6, b1, c, own_, m13_, m14_, ha, q, s, T, U, E, J, L, y, I, Y, u, A, B, d, j, l, m, G, b2, M⟩ hb_ hon hoff
   refine ⟨_, rfl, fun K hK => ?_⟩
   have z0 : a.tmps[15]? = some (.pointer (some ⟨D, 3, none⟩)) := by rw [ha]; exact (putSel_off rfl).trans rfl
   replace ha := zm ha; have Za := zm q
   have hc0_ : w'.cell? ⟨D, 0, none⟩ = some (.slice b5 O.length b6) := (blk_cell Za.out 0).trans rfl
   have hc1_ : w'.cell? ⟨D, 1, none⟩ = some (.slice b7 F.length b8) := (blk_cell Za.out 1).trans rfl
   have hc2_ : w'.cell? ⟨D, 2, none⟩ = some (.slice d9 z.length d3) := (blk_cell Za.out 2).trans rfl
   have hc3_ : w'.cell? ⟨D, 3, none⟩ = some (.slice b9 x.length c0) := (blk_cell Za.out 3).trans rfl
   refine value_ (w1 := w') (v := .slice b9 x.length c0) (by rfl) rfl ?_ ?_
   ·go_simp
    (try simp only [i64_w])
    try rfl
   refine hK.out _ _ ⟨a4, a8, a5, a9, b0, a6, b1, c, own_, m13_, m14_, (by rw [ha.out]; exact putSel_upk 8 hb_ rfl rfl rfl), q, s, T, U, E, J, L, y, I, fun h0_ => absurd ((hoff 12 (by kernel_rfl)).symm.trans h0_) (by decide), u, A, B, d, j, l, m, fun h0_ => absurd ((hoff 15 (by kernel_rfl)).symm.trans h0_) (by decide), fun h0_ => absurd ((hoff 13 (by kernel_rfl)).symm.trans h0_) (by decide), M⟩
  refine steps_cons ?_ ?_
  ·rintro b a w' ⟨a4, a8, a5, a9, b0, a6, b1, c, own_, m13_, m14_, ha, q, s, T, U, E, J, L, y, I, Y, u, A, B, d, j, l, m, G, b2, M⟩ hb_ hon hoff
   refine ⟨_, rfl, fun K hK => ?_⟩
   have t5 : a.tmps[14]? = some (a6) := by rw [ha]; exact putSel_on (e := (9, 14, a6)) 7 rfl rfl (hon 9 (by kernel_rfl)) rfl
   have t6 : a.tmps[16]? = some (.slice b9 x.length c0) := by rw [ha]; exact putSel_on (e := (11, 16, .slice b9 x.length c0)) 8 rfl rfl (hon 11 (by kernel_rfl)) rfl
   replace ha := zm ha; have HB := zm T; have Zu := zm (I (hon 9 (by kernel_rfl)) hb_)
   refine Kd.R_append_rows_step (Kd.int .i64) (w0 := w) w.heap.size (by rfl) (.tmp 14) (.tmp 16) 23 3 (.int .i64 0) 8 rfl Tryz.underlying23 info3 rfl (by decide) (by omega) a6 c5 x _ _ _ (fun _ => True) (fun _ => False) (eval_of t5) (eval_of t6) ?aO ?aR (fun _ _ h => h) (fun _ h => h.elim) ?aF ?aB ?aS ?aL ?_
   (case aR => exact zC (Kd.C_below ZG.out HB.out))
   (case aB => exact T)
   (case aF => exact (fun _ _ => trivial))
   (case aO => exact Kd.R_mono Zu.out (fun _ _ => trivial))
   (case aS => exact (below_size T))
   (case aL => have := o2.out; omega)
   intro b1 z1 ho hb hg hat
   rw [← n0.out] at ho
   refine hK.out _ _ ⟨a4, a8, a5, a9, b0, a6, b1, c, (fun k_ => if k_ < w'.heap.size then own_ k_ else 9), m13_, m14_, (by rw [ha.out]; exact putSel_upk 9 hb_ rfl rfl rfl), blk_grown q hg (Kd.R_ne Zu.out q (by decide)), blk_grown s hg (Kd.R_ne Zu.out s (by decide)), hb, fun _ h1_ => absurd ((hon 3 (by kernel_rfl)).symm.trans h1_) (by decide), fun h0_ => Kd.R_ownG (E h0_) Zu.out.1 (by decide) hg, fun _ h1_ => absurd ((hon 7 (by kernel_rfl)).symm.trans h1_) (by decide), fun h0_ => Kd.R_ownG (L h0_) Zu.out.1 (by decide) hg, fun h0_ => Kd.S_ownG (y h0_) Zu.out.1 (by decide) hg, fun _ h1_ => absurd ((up_self b 12).symm.trans h1_) (by decide), fun _ => Kd.R_ownA rfl ho hat Zu.out.1, fun h0_ h1_ => blk_grown (u h0_ h1_) hg (Kd.R_ne Zu.out (u h0_ h1_) (by decide)), A, B, d, j, l, m, fun h0_ => absurd ((hoff 15 (by kernel_rfl)).symm.trans h0_) (by decide), fun h0_ => absurd ((hoff 13 (by kernel_rfl)).symm.trans h0_) (by decide), M⟩
  refine steps_cons ?_ ?_
  ·rintro b a w' ⟨a4, a8, a5, a9, b0, a6, b1, c, own_, m13_, m14_, ha, q, s, T, U, E, J, L, y, I, Y, u, A, B, d, j, l, m, G, b2, M⟩ hb_ hon hoff
   refine ⟨_, rfl, fun K hK => ?_⟩
   have e8 : a.tmps[8]? = some (a8) := by rw [ha]; exact putSel_on (e := (3, 8, a8)) 2 rfl rfl (hon 3 (by kernel_rfl)) rfl
   have z2 : a.tmps[12]? = some (a9) := by rw [ha]; exact putSel_on (e := (7, 12, a9)) 5 rfl rfl (hon 7 (by kernel_rfl)) rfl
   have z3 : a.tmps[13]? = some (b0) := by rw [ha]; exact putSel_on (e := (8, 13, b0)) 6 rfl rfl (hon 8 (by kernel_rfl)) rfl
   have z4 : a.tmps[17]? = some (b1) := by rw [ha]; exact putSel_on (e := (12, 17, b1)) 9 rfl rfl (hon 12 (by kernel_rfl)) rfl
   replace ha := zm ha; have Zm := zm (E (hon 3 (by kernel_rfl))); have Zn := zm (L (hon 7 (by kernel_rfl))); have Zr := zm (y (hon 8 (by kernel_rfl))); have Zo := zm (Y (hon 12 (by kernel_rfl)))
   obtain ⟨g3, g4, eo_⟩ := Kd.R_slice Zm.out
   subst eo_
   obtain ⟨g5, g6, eo_⟩ := Kd.R_slice Zn.out
   subst eo_
   obtain ⟨g7, g8, eo_⟩ := Kd.S_slice Zr.out
   subst eo_
   obtain ⟨g9, h0, eo_⟩ := Kd.R_slice Zo.out
   subst eo_
   refine value_ (w1 := w') (v := .agg #[.slice g3 V.length g4, .slice g5 Z.length g6, .slice g7 f3.length g8, .slice g9 a7.length h0]) (by rfl) rfl ?_ ?_
   ·go_simp
    (try simp only [i64_w])
    try rfl
   refine hK.out _ _ ⟨a4, .slice g3 V.length g4, a5, .slice g5 Z.length g6, .slice g7 f3.length g8, a6, .slice g9 a7.length h0, c, own_, (.agg #[.slice g3 V.length g4, .slice g5 Z.length g6, .slice g7 f3.length g8, .slice g9 a7.length h0]), m14_, (by rw [ha.out]; exact putSel_upk 10 hb_ rfl rfl rfl), q, s, T, fun _ h1_ => absurd ((hon 3 (by kernel_rfl)).symm.trans h1_) (by decide), E, fun _ h1_ => absurd ((hon 7 (by kernel_rfl)).symm.trans h1_) (by decide), L, y, fun _ h1_ => absurd ((hon 12 (by kernel_rfl)).symm.trans h1_) (by decide), Y, u, A, B, d, j, l, m, fun h0_ => absurd ((hoff 15 (by kernel_rfl)).symm.trans h0_) (by decide), fun _ => rfl, M⟩
  refine steps_cons ?_ ?_
  ·rintro b a w' ⟨a4, a8, a5, a9, b0, a6, b1, c, own_, m13_, m14_, ha, q, s, T, U, E, J, L, y, I, Y, u, A, B, d, j, l, m, G, b2, M⟩ hb_ hon hoff
   refine ⟨_, rfl, fun K hK => ?_⟩
   replace ha := zm ha
   refine box_step ?hg (N := 3) ?hd (cs := #[.slice none 0 0, .slice none 0 0, .slice none 0 0, .slice none 0 0]) (t := 26) ?hr ?_; (case hd => rfl); (case hg => rfl); (case hr => first | (go_simp; done) | (go_simp; rfl))
   intro c hg w8 hbox hb
   refine hK.out _ _ ⟨a4, a8, a5, a9, b0, a6, b1, c, (fun k_ => if k_ < w'.heap.size then own_ k_ else 1014), m13_, (.pointer (some ⟨c, 0, none⟩)), (by rw [ha.out]; exact putSel_upk 11 hb_ rfl rfl rfl), blk_below q hb, blk_below s hb, below_step T hb, fun h0_ h1_ => Kd.R_ownB (U h0_ h1_) hb, fun h0_ => Kd.R_ownB (E h0_) hb, fun h0_ h1_ => Kd.R_ownB (J h0_ h1_) hb, fun h0_ => Kd.R_ownB (L h0_) hb, fun h0_ => Kd.S_ownB (y h0_) hb, fun h0_ h1_ => Kd.R_ownB (I h0_ h1_) hb, fun h0_ => Kd.R_ownB (Y h0_) hb, fun _ _ => (hbox), fun _ => ((by rw [hg]; exact (below_size T) : w.heap.size ≤ c)), fun _ => ((by rw [hg]; exact (below_size T) : w.heap.size ≤ c)), fun _ => ((by rw [hg]; exact Nat.ne_of_lt (blk_lt (g := D) (o := .cells #[.slice b5 O.length b6, .slice b7 F.length b8, .slice d9 z.length d3, .slice b9 x.length c0] 26 (0, 0)) q) : D ≠ c)), fun _ => ((by rw [hg]; exact Nat.ne_of_gt (blk_lt (g := D) (o := .cells #[.slice b5 O.length b6, .slice b7 F.length b8, .slice d9 z.length d3, .slice b9 x.length c0] 26 (0, 0)) q) : c ≠ D)), fun _ => ((by rw [hg]; exact Nat.ne_of_lt (blk_lt (g := d2) (o := .cells #[.slice none 0 0, .slice none 0 0, .slice none 0 0, .slice none 0 0] 26 (0, 0)) s) : d2 ≠ c)), fun _ => ((by rw [hg]; exact Nat.ne_of_gt (blk_lt (g := d2) (o := .cells #[.slice none 0 0, .slice none 0 0, .slice none 0 0, .slice none 0 0] 26 (0, 0)) s) : c ≠ d2)), fun h0_ => absurd ((hoff 15 (by kernel_rfl)).symm.trans h0_) (by decide), b2, fun _ => rfl⟩
  refine steps_cons ?_ ?_
  ·rintro b a w' ⟨a4, a8, a5, a9, b0, a6, b1, c, own_, m13_, m14_, ha, q, s, T, U, E, J, L, y, I, Y, u, A, B, d, j, l, m, G, b2, M⟩ hb_ hon hoff
   refine ⟨_, rfl, fun K hK => ?_⟩
   have e3 : a.tmps[3]? = some (m14_) := by rw [ha]; exact putSel_on (e := (14, 3, m14_)) 11 rfl rfl (hon 14 (by kernel_rfl)) rfl
   rw [M (hon 14 (by kernel_rfl))] at e3
   have t7 : a.tmps[18]? = some (m13_) := by rw [ha]; exact putSel_on (e := (13, 18, m13_)) 10 rfl rfl (hon 13 (by kernel_rfl)) rfl
   rw [b2 (hon 13 (by kernel_rfl))] at t7
   replace ha := zm ha; have Za := zm q; have Zg := zm s; have HB := zm T; have Zm := zm (E (hon 3 (by kernel_rfl))); have Zn := zm (L (hon 7 (by kernel_rfl))); have Zr := zm (y (hon 8 (by kernel_rfl))); have Zo := zm (Y (hon 12 (by kernel_rfl))); have Zb := zm (u (hon 14 (by kernel_rfl)) hb_); have ZC := zm (A (hon 14 (by kernel_rfl))); have Zp := zm (B (hon 14 (by kernel_rfl))); have Zh := zm (d (hon 14 (by kernel_rfl))); have Zj := zm (j (hon 14 (by kernel_rfl))); have Zi := zm (l (hon 14 (by kernel_rfl))); have Zk := zm (m (hon 14 (by kernel_rfl)))
   obtain ⟨o3, o4, l6⟩ := Kd.R_slice Zo.out
   (first | subst l6 | (injection l6 with f1_ f2_ f3_; have f4_ := f1_.symm; have f5_ := f3_.symm; clear f1_ f2_ f3_; subst f4_; subst f5_))
   obtain ⟨o5, o6, l7⟩ := Kd.S_slice Zr.out
   (first | subst l7 | (injection l7 with f1_ f2_ f3_; have f4_ := f1_.symm; have f5_ := f3_.symm; clear f1_ f2_ f3_; subst f4_; subst f5_))
   obtain ⟨o7, o8, l8⟩ := Kd.R_slice Zn.out
   (first | subst l8 | (injection l8 with f1_ f2_ f3_; have f4_ := f1_.symm; have f5_ := f3_.symm; clear f1_ f2_ f3_; subst f4_; subst f5_))
   obtain ⟨o9, p0, l9⟩ := Kd.R_slice Zm.out
   (first | subst l9 | (injection l9 with f1_ f2_ f3_; have f4_ := f1_.symm; have f5_ := f3_.symm; clear f1_ f2_ f3_; subst f4_; subst f5_))
   have w9 : w'.cell? ⟨c, 0, none⟩ = some (.slice none 0 0) := (blk_cell Zb.out 0).trans rfl
   have u1 := blk_frozen Zb.out 0; have q0 := Zh.out; have q1 := Zi.out; have q2 := Zj.out; have q3 := Zk.out
   have x0 : w'.cell? ⟨c, 1, none⟩ = some (.slice none 0 0) := (blk_cell Zb.out 1).trans rfl
   have u2 := blk_frozen Zb.out 1; have q4 := Zh.out; have q5 := Zi.out; have q6 := Zj.out; have q7 := Zk.out
   have x1 : w'.cell? ⟨c, 2, none⟩ = some (.slice none 0 0) := (blk_cell Zb.out 2).trans rfl
   have u3 := blk_frozen Zb.out 2; have q8 := Zh.out; have q9 := Zi.out; have r0 := Zj.out; have r5 := Zk.out
   have x2 : w'.cell? ⟨c, 3, none⟩ = some (.slice none 0 0) := (blk_cell Zb.out 3).trans rfl
   have u4 := blk_frozen Zb.out 3; have r6 := Zh.out; have r7 := Zi.out; have r8 := Zj.out; have r9 := Zk.out
   refine skip_ (w1 := ?_) (by rfl) rfl ?_ ?_
   rotate_left
   ·go_simp
    rfl
   refine hK.out _ _ ⟨a4, .slice o9 V.length p0, a5, .slice o7 Z.length o8, .slice o5 f3.length o6, a6, .slice o3 a7.length o4, c, own_, m13_, m14_, (by rw [ha.out]; exact putSel_none (v := undef) rfl), (by exact zfar4 Za.out Zh.out), (by exact zfar4 Zg.out Zi.out), (zg_10 HB.out Zl.out Zq.out Zp.out), fun _ h1_ => absurd ((hon 3 (by kernel_rfl)).symm.trans h1_) (by decide), fun _ => (Kd.R_mono (zR4 (Kd.R_types Zm.out Zb.out (by decide))) (fun _ hk => hk.1)), fun _ h1_ => absurd ((hon 7 (by kernel_rfl)).symm.trans h1_) (by decide), fun _ => (Kd.R_mono (zR4 (Kd.R_types Zn.out Zb.out (by decide))) (fun _ hk => hk.1)), fun _ => (Kd.S_mono (zS4 (Kd.S_types Zr.out Zb.out (by decide))) (fun _ hk => hk.1)), fun _ h1_ => absurd ((hon 12 (by kernel_rfl)).symm.trans h1_) (by decide), fun _ => (Kd.R_mono (zR4 (Kd.R_types Zo.out Zb.out (by decide))) (fun _ hk => hk.1)), fun _ h1_ => absurd ((up_self b 15).symm.trans h1_) (by decide), fun _ => ZC.out, fun _ => Zp.out, fun _ => Zh.out, fun _ => Zj.out, fun _ => Zi.out, fun _ => Zk.out, fun _ => (by exact zput4 Zb.out), b2, M⟩
  exact steps_nil
 rintro b a z5 hall ⟨a4, a8, a5, a9, b0, a6, b1, c, own_, m13_, m14_, ha, q, s, T, U, E, J, L, y, I, Y, u, A, B, d, j, l, m, G, b2, M⟩
 clear Za Zg HB; have hb0_ := hall 0 (by kernel_rfl); have hb2_ := hall 2 (by kernel_rfl); have hb3_ := hall 3 (by kernel_rfl); have hb4_ := hall 4 (by kernel_rfl); have hb6_ := hall 6 (by kernel_rfl); have hb7_ := hall 7 (by kernel_rfl); have hb8_ := hall 8 (by kernel_rfl); have hb9_ := hall 9 (by kernel_rfl); have hb11_ := hall 11 (by kernel_rfl); have hb12_ := hall 12 (by kernel_rfl); have hb13_ := hall 13 (by kernel_rfl); have hb14_ := hall 14 (by kernel_rfl); have hb15_ := hall 15 (by kernel_rfl); subst ha; obtain rfl := b2 hb13_; obtain rfl := M hb14_
 simp only [putSel, hb0_, hb2_, hb3_, hb4_, hb6_, hb7_, hb8_, hb9_, hb11_, hb12_, hb13_, hb14_, hb15_, if_true, Act.put, zs, zz, zt]
 have Za := zm q; clear q; have Zg := zm s; clear s; have HB := zm T; clear T; clear U; have Zm := zm (E hb3_); clear E; clear J; have Zn := zm (L hb7_); clear L; have Zr := zm (y hb8_); clear y; clear I; have Zo := zm (Y hb12_); clear Y; clear u; have ZC := zm (A hb14_); clear A; have Zp := zm (B hb14_); clear B; have Zh := zm (d hb14_); clear d; have Zj := zm (j hb14_); clear j; have Zi := zm (l hb14_); clear l; have Zk := zm (m hb14_); clear m; have Zb := zm (G hb15_); clear G; clear hall hb0_ hb2_ hb3_ hb4_ hb6_ hb7_ hb8_ hb9_ hb11_ hb12_ hb13_ hb14_ hb15_
 obtain ⟨c6, c7, m0⟩ := Kd.R_slice Zo.out
 (first | subst m0 | (injection m0 with f1_ f2_ f3_; have f4_ := f1_.symm; have f5_ := f3_.symm; clear f1_ f2_ f3_; subst f4_; subst f5_))
 obtain ⟨p1, p3, m1⟩ := Kd.S_slice Zr.out
 (first | subst m1 | (injection m1 with f1_ f2_ f3_; have f4_ := f1_.symm; have f5_ := f3_.symm; clear f1_ f2_ f3_; subst f4_; subst f5_))
 obtain ⟨c8, c9, m2⟩ := Kd.R_slice Zn.out
 (first | subst m2 | (injection m2 with f1_ f2_ f3_; have f4_ := f1_.symm; have f5_ := f3_.symm; clear f1_ f2_ f3_; subst f4_; subst f5_))
 obtain ⟨d0, d1, m3⟩ := Kd.R_slice Zm.out
 (first | subst m3 | (injection m3 with f1_ f2_ f3_; have f4_ := f1_.symm; have f5_ := f3_.symm; clear f1_ f2_ f3_; subst f4_; subst f5_))
 have m0_ := zm (Kd.R_mono (ok' := fun k_ => some k_ ≠ (.slice c8 Z.length c9 : Value).ownBlock ∧ some k_ ≠ (.slice c6 a7.length c7 : Value).ownBlock) Zm.out (fun k_ hk_ => ⟨own_ne hk_ Zn.out.1 (by decide), own_ne hk_ Zo.out.1 (by decide)⟩)); have m1_ := zm (Kd.R_mono (ok' := fun k_ => some k_ ≠ (.slice d0 V.length d1 : Value).ownBlock ∧ some k_ ≠ (.slice c6 a7.length c7 : Value).ownBlock) Zn.out (fun k_ hk_ => ⟨own_ne hk_ Zm.out.1 (by decide), own_ne hk_ Zo.out.1 (by decide)⟩)); have m2_ := zm (Kd.S_mono (ok' := fun k_ => some k_ ≠ (.slice d0 V.length d1 : Value).ownBlock ∧ some k_ ≠ (.slice c8 Z.length c9 : Value).ownBlock ∧ some k_ ≠ (.slice c6 a7.length c7 : Value).ownBlock) Zr.out (fun k_ hk_ => ⟨own_ne hk_ Zm.out.1 (by decide), own_ne hk_ Zn.out.1 (by decide), own_ne hk_ Zo.out.1 (by decide)⟩)); have m3_ := zm (Kd.R_mono (ok' := fun k_ => some k_ ≠ (.slice d0 V.length d1 : Value).ownBlock ∧ some k_ ≠ (.slice c8 Z.length c9 : Value).ownBlock) Zo.out (fun k_ hk_ => ⟨own_ne hk_ Zm.out.1 (by decide), own_ne hk_ Zn.out.1 (by decide)⟩)); clear Zm Zn Zr Zo; have Zm := m0_; have Zn := m1_; have Zr := m2_; have Zo := m3_; clear m0_ m1_ m2_ m3_
 try go_wp2
 go_loopg [4] k (fun kq v4 w' => ∃ (X : Int) (b3 : List (S66)) (b4 : Value), v4 = .int .i64 X ∧ Aside0 (spec_l10Own.l0 kq X O F z x V Z b3 a7 = some (r1, r2, r3, r4)) ∧ Aside0 (kq ≤ k) ∧ Aside0 (Kd.R (Kd.int .i64) 3 w' w.heap.size (fun k_ => some k_ ≠ ((.slice c8 Z.length c9) : Value).ownBlock ∧ some k_ ≠ ((.slice c6 a7.length c7) : Value).ownBlock) (.slice d0 V.length d1) V) ∧ Aside0 (Kd.R (Kd.int .i64) 3 w' w.heap.size (fun k_ => some k_ ≠ ((.slice d0 V.length d1) : Value).ownBlock ∧ some k_ ≠ ((.slice c6 a7.length c7) : Value).ownBlock) (.slice c8 Z.length c9) Z) ∧ Aside0 (Kd.S k66 66 w' w.heap.size (fun k_ => some k_ ≠ ((.slice d0 V.length d1) : Value).ownBlock ∧ some k_ ≠ ((.slice c8 Z.length c9) : Value).ownBlock ∧ some k_ ≠ ((.slice c6 a7.length c7) : Value).ownBlock) b4 b3) ∧ Aside0 (Kd.R (Kd.int .i64) 3 w' w.heap.size (fun k_ => some k_ ≠ ((.slice d0 V.length d1) : Value).ownBlock ∧ some k_ ≠ ((.slice c8 Z.length c9) : Value).ownBlock) (.slice c6 a7.length c7) a7) ∧ Aside0 (w'.heap[D]? = some (.cells #[(.slice b5 O.length b6), (.slice b7 F.length b8), (.slice d9 z.length d3), (.slice b9 x.length c0)] 26 (0, 0))) ∧ Aside0 (w'.heap[d2]? = some (.cells #[(.slice none 0 0), (.slice none 0 0), (.slice none 0 0), (.slice none 0 0)] 26 (0, 0))) ∧ Aside0 (w'.heap[c]? = some (.cells #[(.slice d0 V.length d1), (.slice c8 Z.length c9), b4, (.slice c6 a7.length c7)] 26 (0, 0))) ∧ Aside0 (Below w.heap.size w w'))
 case atStart => exact ⟨(0), (f3), (.slice p1 f3.length p3), zr, H', ⟨Nat.le_refl _⟩, ⟨zlR Zm.out⟩, ⟨zlR Zn.out⟩, ⟨zlS Zr.out⟩, ⟨zlR Zo.out⟩, ⟨zl Za.out⟩, ⟨zl Zg.out⟩, ⟨zl Zb.out⟩, ⟨zg_10 HB.out Zl.out Zq.out Zp.out⟩⟩
 case round =>
  clear H'
  try clear c1
  try clear c2
  try clear p2
  try clear c3
  try clear c4
  try clear z6
  obtain ⟨X, b3, b4, rfl, HA, n9, Zd, Ze, Zc, Zf, Za, Zg, Zb, HB⟩ := hrel
  cases gk with
  | zero => exact absurd HA.out (by simp [spec_l10Own.l0])
  | succ k1 =>
   have H := HA.out; clear HA
   simp only [spec_l10Own.l0] at H
   by_cases h4 : X < (z.length : Int)
   rotate_left
   ·rw [if_neg h4] at H
    have n2 := decide_eq_false h4; clear h4
    simp only [Option.some.injEq, Prod.mk.injEq] at H
    obtain ⟨rfl, rfl, rfl, rfl⟩ := H
    have u5 := Zv.out; have u6 := Zw.out; have u7 := Zh.out; have u8 := Zj.out
    obtain ⟨_, _, _, _, _, _, _, _⟩ := zb4 Za.out
    have u9 := Zk.out; have v0 := Zi.out
    obtain ⟨_, _, _, _, _, _, _, _⟩ := zb4 Zb.out
    obtain ⟨_, _, _, _, _, _, _, _⟩ := zb4 Zg.out
    obtain ⟨p4, p5, p6⟩ := Kd.S_slice Zc.out
    subst p6
    go_wp2
    refine bodyPost_ret (results_cell_row rfl _ _ d2 26 #[.slice d0 V.length d1, .slice c8 Z.length c9, .slice p4 b3.length p5, .slice c6 a7.length c7] (0, 0) _ rfl (by exact zput4 Zg.out) Tryz.underlying26 rfl (by kernel_rfl)) rfl ?_
    exact ⟨_, _, _, _, ze, Kd.R_mono (zR4 (Kd.R_types Zd.out Zg.out (by decide))) (fun _ hk => ⟨hk.1.1, hk.1.2⟩), Kd.R_mono (zR4 (Kd.R_types Ze.out Zg.out (by decide))) (fun _ hk => ⟨hk.1.1, hk.1.2⟩), Kd.S_mono (zS4 (Kd.S_types Zc.out Zg.out (by decide))) (fun _ hk => ⟨hk.1.1, ⟨hk.1.2.1, hk.1.2.2⟩⟩), Kd.R_mono (zR4 (Kd.R_types Zf.out Zg.out (by decide))) (fun _ hk => ⟨hk.1.1, hk.1.2⟩), zg_10 HB.out Zl.out Zq.out Zp.out⟩
   rw [if_pos h4] at H; have n2 := decide_eq_true h4; clear h4
   by_cases k8 : 0 ≤ X
   rotate_left
   ·rw [if_neg k8] at H
    exact absurd H (by simp)
   rw [if_pos k8] at H; have v1 := decide_eq_true k8; clear k8
   obtain ⟨h1, i2⟩ : ∃ y_ : List Int, y_ = (([] : List Int)) := ⟨_, rfl⟩
   replace H : (if h1.length + ((rd_T66 z X).f1).length < 17592186044416 then (if b3.length < 3518437208883 then (spec_l10Own.l0 k1 (wrap64 (X + 1)) O F z x V Z (b3 ++ [(⟨(rd_T66 z X).f0, (h1 ++ ((rd_T66 z X).f1))⟩ : S66)]) a7) else (none)) else (none)) = some (r1, r2, r3, r4) := zy H i2
   have k9 := zm i2; clear i2
   by_cases l1 : h1.length + ((rd_T66 z X).f1).length < 17592186044416
   rotate_left
   ·rw [if_neg l1] at H
    exact absurd H (by simp)
   rw [if_pos l1] at H; have n3 := zm l1; clear l1
   obtain ⟨g2, i3⟩ : ∃ y_ : List Int, y_ = (h1 ++ ((rd_T66 z X).f1)) := ⟨_, rfl⟩
   replace H : (if b3.length < 3518437208883 then (spec_l10Own.l0 k1 (wrap64 (X + 1)) O F z x V Z (b3 ++ [(⟨(rd_T66 z X).f0, g2⟩ : S66)]) a7) else (none)) = some (r1, r2, r3, r4) := zy H i3
   have n4 := zm i3; clear i3
   by_cases l2 : b3.length < 3518437208883
   rotate_left
   ·rw [if_neg l2] at H
    exact absurd H (by simp)
   rw [if_pos l2] at H; have n5 := zm l2; clear l2
   obtain ⟨f6, i4⟩ : ∃ y_ : List (S66), y_ = (b3 ++ [(⟨(rd_T66 z X).f0, g2⟩ : S66)]) := ⟨_, rfl⟩
   replace H : (spec_l10Own.l0 k1 (wrap64 (X + 1)) O F z x V Z f6 a7) = some (r1, r2, r3, r4) := zy H i4
   have n6 := zm i4; clear i4
   have H' := zm H
   clear H; have v2 := Zv.out; have v3 := Zw.out; have v5 := Zh.out; have v6 := Zj.out
   obtain ⟨_, _, _, _, _, _, _, _⟩ := zb4 Za.out
   try go_wp2
   have d4 := zm (Kd.R_drew Zd.out); have d5 := zm (Kd.R_drew Ze.out); have d6 := zm (Kd.S_drew Zc.out); have e0 := zm (Kd.R_drew Zf.out); have e2 := zm (blk_drew Za.out); have e4 := zm (blk_drew Zg.out); have f2 := zm (blk_drew Zb.out); have f5 := zm (below_drew1 HB.out); clear Zd; clear Ze; clear Zc; clear Zf; clear Za; clear Zg; clear Zb; clear HB; have Zd := d4; have Ze := d5; have Zc := d6; have Zf := e0; have Za := e2; have Zg := e4; have Zb := f2; have HB := f5; clear d4 d5 d6 e0 e2 e4 f2 f5
   have j1 : 0 ≤ (X : Int) := zd
   have j2 : X < (z.length : Int) := zd
   obtain ⟨d8, i8, i9, p7, hx166_0, hx166_1, hl166_1, hi166_1⟩ := at_T66 ZB.out X j1 j2
   have hw166_1 := hx166_1; have hw166_0 := hx166_0; cases p7; replace hx166_0 := (HB.out.cell (World.block_lt_of_cell? w _ hx166_0)).trans hx166_0; replace hx166_1 := (HB.out.cell (World.block_lt_of_cell? w _ hx166_1)).trans hx166_1; have ZA := zm hi166_1; have ZH := zm hl166_1; clear hi166_1 hl166_1; replace j1 := eq_true j1; replace j2 := eq_true j2
   have j3 : 0 ≤ (X : Int) := zd
   have j4 : X < (z.length : Int) := zd
   obtain ⟨n7, t8, t9, p8, hx170_0, hx170_1, hl170_1, hi170_1⟩ := at_T66 ZB.out X j3 j4
   have hw170_1 := hx170_1; have hw170_0 := hx170_0
   obtain rfl : d8 = n7 := (by injection p8)
   replace hx170_0 := (HB.out.cell (World.block_lt_of_cell? w _ hx170_0)).trans hx170_0; replace hx170_1 := (HB.out.cell (World.block_lt_of_cell? w _ hx170_1)).trans hx170_1; have Zy := zm hi170_1; have ZI := zm hl170_1; clear hi170_1 hl170_1; replace j3 := eq_true j3; replace j4 := eq_true j4; have ea_ := Option.some.inj (hx166_1.symm.trans hx170_1)
   injection ea_ with ea_ en_ ec_
   subst ea_; subst ec_; clear en_
   refine start_ (n := 21) (S := fun w' => w'.cell? ⟨c, 0, none⟩ = some (.slice d0 V.length d1) ∧ w'.cell? ⟨c, 1, none⟩ = some (.slice c8 Z.length c9) ∧ w'.cell? ⟨c, 2, none⟩ = some (b4) ∧ w'.cell? ⟨c, 3, none⟩ = some (.slice c6 a7.length c7) ∧ w'.cell? ⟨D, 0, none⟩ = some (.slice b5 O.length b6) ∧ w'.cell? ⟨D, 1, none⟩ = some (.slice b7 F.length b8) ∧ w'.cell? ⟨D, 2, none⟩ = some (.slice (some d8) z.length d3) ∧ w'.cell? ⟨D, 3, none⟩ = some (.slice b9 x.length c0) ∧ w'.cell? (d8.add ((X).toNat * 2)) = some (.string ((rd_T66 z X).f0)) ∧ w'.cell? ⟨(d8.add ((X).toNat * 2)).block, (d8.add ((X).toNat * 2)).off + 1, none⟩ = some (.slice i8 ((rd_T66 z X).f1).length i9) ∧ w'.cell? (d8.add ((X).toNat * 2)) = some (.string ((rd_T66 z X).f0)) ∧ w'.cell? ⟨(d8.add ((X).toNat * 2)).block, (d8.add ((X).toNat * 2)).off + 1, none⟩ = some (.slice i8 ((rd_T66 z X).f1).length i9)) (ds := [20]) #[ff, ff, ff, ff, ff, ff, ff, ff, ff, ff, ff, ff, ff, ff, ff, ff, ff, ff, ff, ff, ff] (by kernel_rfl) rfl rfl ⟨(blk_cell Zb.out 0).trans rfl, (blk_cell Zb.out 1).trans rfl, (blk_cell Zb.out 2).trans rfl, (blk_cell Zb.out 3).trans rfl, (blk_cell Za.out 0).trans rfl, (blk_cell Za.out 1).trans rfl, (blk_cell Za.out 2).trans rfl, (blk_cell Za.out 3).trans rfl, ((HB.out.cell (World.block_lt_of_cell? w _ hw166_0)).trans hw166_0), ((HB.out.cell (World.block_lt_of_cell? w _ hw166_1)).trans hw166_1), ((HB.out.cell (World.block_lt_of_cell? w _ hw170_0)).trans hw170_0), ((HB.out.cell (World.block_lt_of_cell? w _ hw170_1)).trans hw170_1)⟩ (fun hHeld => ?_); refine with_tabW spec_l10Own.tab5 spec_l10Own.bits5 (fun HT_ HW_ => ?_)
   generalize wr.drew = z7 at Zd Ze Zc Zf Za Zg Zb HB ZA Zy hx166_0 hx166_1 hx170_0 hx170_1 hHeld ⊢
   refine pure_ (i := 0) (N := some 26) (v := ?_) (a' := ?_) #[tt, ff, ff, ff, ff, ff, ff, ff, ff, ff, ff, ff, ff, ff, ff, ff, ff, ff, ff, ff, ff] rfl rfl (any_of HT_.out (by kernel_rfl)) (fun _ _ _ h => h) (Or.inl ⟨by rfl, ?_⟩) ?_ ?_
   rotate_left
   ·intro w'
    go_simp
    with_reducible rfl
   rotate_left
   ·simp only [Act.put, zs, zz, zt, i64_w, i32_w]
    rfl
   refine pure_ (i := 2) (N := some 28) (v := ?_) (a' := ?_) #[tt, ff, tt, ff, ff, ff, ff, ff, ff, ff, ff, ff, ff, ff, ff, ff, ff, ff, ff, ff, ff] rfl rfl (any_of HT_.out (by kernel_rfl)) (fun _ _ _ h => h) (Or.inl ⟨by rfl, ?_⟩) ?_ ?_
   rotate_left
   ·intro w'
    go_simp
    with_reducible rfl
   rotate_left
   ·simp only [Act.put, zs, zz, zt, i64_w, i32_w]
    rfl
   refine pure_ (i := 4) (N := some 30) (v := ?_) (a' := ?_) #[tt, ff, tt, ff, tt, ff, ff, ff, ff, ff, ff, ff, ff, ff, ff, ff, ff, ff, ff, ff, ff] rfl rfl (any_of HT_.out (by kernel_rfl)) (fun _ _ _ h => h) (Or.inl ⟨by rfl, ?_⟩) ?_ ?_
   rotate_left
   ·intro w'
    go_simp
    with_reducible rfl
   rotate_left
   ·simp only [Act.put, zs, zz, zt, i64_w, i32_w]
    rfl
   refine pure_ (i := 9) (N := some 35) (v := ?_) (a' := ?_) #[tt, ff, tt, ff, tt, ff, ff, ff, ff, tt, ff, ff, ff, ff, ff, ff, ff, ff, ff, ff, ff] rfl rfl (any_of HT_.out (by kernel_rfl)) (fun _ _ _ h => h) (Or.inl ⟨by rfl, ?_⟩) ?_ ?_
   rotate_left
   ·intro w'
    go_simp
    with_reducible rfl
   rotate_left
   ·simp only [Act.put, zs, zz, zt, i64_w, i32_w]
    rfl
   refine pure_ (i := 11) (N := some 37) (v := ?_) (a' := ?_) #[tt, ff, tt, ff, tt, ff, ff, ff, ff, tt, ff, tt, ff, ff, ff, ff, ff, ff, ff, ff, ff] rfl rfl (any_of HT_.out (by kernel_rfl)) (fun _ _ _ h => h) (Or.inl ⟨by rfl, ?_⟩) ?_ ?_
   rotate_left
   ·intro w'
    go_simp
    with_reducible rfl
   rotate_left
   ·simp only [Act.put, zs, zz, zt, i64_w, i32_w]
    rfl
   refine take_ (i := 1) (N := some 27) (v := ?_) (a' := ?_) #[tt, tt, tt, ff, tt, ff, ff, ff, ff, tt, ff, tt, ff, ff, ff, ff, ff, ff, ff, ff, ff] rfl rfl (take_ofW HT_.out HW_.out (by kernel_rfl)) (fun _ _ _ h => h) (Or.inl ⟨by rfl, ?_⟩) hHeld ?_ ?_
   rotate_left
   ·rintro w' ⟨s0, s1, s2, s3, s4, s5, s6, s7, s8, s9, s10, s11⟩
    go_simp
    with_reducible rfl
   rotate_left
   ·simp only [Act.put, zs, zz, zt, i64_w, i32_w]
    rfl
   refine take_ (i := 3) (N := some 29) (v := ?_) (a' := ?_) #[tt, tt, tt, tt, tt, ff, ff, ff, ff, tt, ff, tt, ff, ff, ff, ff, ff, ff, ff, ff, ff] rfl rfl (take_ofW HT_.out HW_.out (by kernel_rfl)) (fun _ _ _ h => h) (Or.inl ⟨by rfl, ?_⟩) hHeld ?_ ?_
   rotate_left
   ·rintro w' ⟨s0, s1, s2, s3, s4, s5, s6, s7, s8, s9, s10, s11⟩
    go_simp
    with_reducible rfl
   rotate_left
   ·simp only [Act.put, zs, zz, zt, i64_w, i32_w]
    rfl
   refine pure_ (i := 5) (N := some 31) (v := ?_) (a' := ?_) #[tt, tt, tt, tt, tt, tt, ff, ff, ff, tt, ff, tt, ff, ff, ff, ff, ff, ff, ff, ff, ff] rfl rfl (any_of HT_.out (by kernel_rfl)) (fun _ _ _ h => h) (Or.inl ⟨by rfl, ?_⟩) ?_ ?_
   rotate_left
   ·intro w'
    go_simp
    with_reducible rfl
   rotate_left
   ·simp only [Act.put, zs, zz, zt, i64_w, i32_w]
    rfl
   refine pure_ (i := 6) (N := some 32) (v := ?_) (a' := ?_) #[tt, tt, tt, tt, tt, tt, tt, ff, ff, tt, ff, tt, ff, ff, ff, ff, ff, ff, ff, ff, ff] rfl rfl (any_of HT_.out (by kernel_rfl)) (fun _ _ _ h => h) (Or.inl ⟨by rfl, ?_⟩) ?_ ?_
   rotate_left
   ·intro w'
    go_simp
    with_reducible rfl
   rotate_left
   ·simp only [Act.put, zs, zz, zt, i64_w, i32_w]
    rfl
   refine take_ (i := 7) (N := some 33) (v := ?_) (a' := ?_) #[tt, tt, tt, tt, tt, tt, tt, tt, ff, tt, ff, tt, ff, ff, ff, ff, ff, ff, ff, ff, ff] rfl rfl (take_ofW HT_.out HW_.out (by kernel_rfl)) (fun _ _ _ h => h) (Or.inl ⟨by rfl, ?_⟩) hHeld ?_ ?_
   rotate_left
   ·rintro w' ⟨s0, s1, s2, s3, s4, s5, s6, s7, s8, s9, s10, s11⟩
    go_simp
    with_reducible rfl
   rotate_left
   ·simp only [Act.put, zs, zz, zt, i64_w, i32_w]
    rfl
   refine take_ (i := 10) (N := some 36) (v := ?_) (a' := ?_) #[tt, tt, tt, tt, tt, tt, tt, tt, ff, tt, tt, tt, ff, ff, ff, ff, ff, ff, ff, ff, ff] rfl rfl (take_ofW HT_.out HW_.out (by kernel_rfl)) (fun _ _ _ h => h) (Or.inl ⟨by rfl, ?_⟩) hHeld ?_ ?_
   rotate_left
   ·rintro w' ⟨s0, s1, s2, s3, s4, s5, s6, s7, s8, s9, s10, s11⟩
    go_simp
    with_reducible rfl
   rotate_left
   ·simp only [Act.put, zs, zz, zt, i64_w, i32_w]
    rfl
   refine pure_ (i := 12) (N := some 38) (v := ?_) (a' := ?_) #[tt, tt, tt, tt, tt, tt, tt, tt, ff, tt, tt, tt, tt, ff, ff, ff, ff, ff, ff, ff, ff] rfl rfl (any_of HT_.out (by kernel_rfl)) (fun _ _ _ h => h) (Or.inl ⟨by rfl, ?_⟩) ?_ ?_
   rotate_left
   ·intro w'
    go_simp
    with_reducible rfl
   rotate_left
   ·simp only [Act.put, zs, zz, zt, i64_w, i32_w]
    rfl
   refine pure_ (i := 13) (N := some 39) (v := ?_) (a' := ?_) #[tt, tt, tt, tt, tt, tt, tt, tt, ff, tt, tt, tt, tt, tt, ff, ff, ff, ff, ff, ff, ff] rfl rfl (any_of HT_.out (by kernel_rfl)) (fun _ _ _ h => h) (Or.inl ⟨by rfl, ?_⟩) ?_ ?_
   rotate_left
   ·intro w'
    go_simp
    with_reducible rfl
   rotate_left
   ·simp only [Act.put, zs, zz, zt, i64_w, i32_w]
    rfl
   refine take_ (i := 14) (N := some 40) (v := ?_) (a' := ?_) #[tt, tt, tt, tt, tt, tt, tt, tt, ff, tt, tt, tt, tt, tt, tt, ff, ff, ff, ff, ff, ff] rfl rfl (take_ofW HT_.out HW_.out (by kernel_rfl)) (fun _ _ _ h => h) (Or.inl ⟨by rfl, ?_⟩) hHeld ?_ ?_
   rotate_left
   ·rintro w' ⟨s0, s1, s2, s3, s4, s5, s6, s7, s8, s9, s10, s11⟩
    go_simp
    with_reducible rfl
   rotate_left
   ·simp only [Act.put, zs, zz, zt, i64_w, i32_w]
    rfl
   refine one_ (i := 8) (N := some 34) #[tt, tt, tt, tt, tt, tt, tt, tt, tt, tt, tt, tt, tt, tt, tt, ff, ff, ff, ff, ff, ff] rfl rfl (one_of HT_.out (by kernel_rfl)) (by decide) (fun K hK => ?_)
   refine Kd.R_lit_step (Kd.int .i64) _ 3 ?hg (N := 34) ?hd (xs := ([] : List Int)) (inner := []) (ok := fun _ => True) (okp := fun _ => True) ?hr ?hp (fun _ hk => hk) trivial (Below.refl _ _) (Nat.le_refl _) (by simp) ?_; (case hd => rfl); (case hg => rfl); (case hr => first | (go_simp; done) | (go_simp; rfl)); (case hp => exact (Reps.none _ _))
   intro p9 z8 f4 hb hg_ hnew_
   clear hg_ hnew_
   (first | rw [← k9.out] at f4 | (simp only [Int.reduceToNat] at f4; rw [← k9.out] at f4))
   have d4 := zm (Kd.R_elder' (zg_6 Zd.out) (Kd.R_base f4) hb); have d5 := zm (Kd.R_elder' (zg_6 Ze.out) (Kd.R_base f4) hb); have d6 := zm (Kd.S_elder' (zg_11 Zc.out) (Kd.R_base f4) hb); have e0 := zm (Kd.R_elder' (zg_6 Zf.out) (Kd.R_base f4) hb); have e2 := zm (Kd.R_lower (Kd.R_new' (Kd.R_new' (Kd.R_new' f4 (Kd.R_lt (zg_6 Zd.out))) (Kd.R_lt (zg_6 Ze.out))) (Kd.R_lt (zg_6 Zf.out))) (below_size (zg_10 HB.out Zl.out Zq.out Zp.out))); have e4 := zm (blk_below (g := D) (o := .cells #[.slice b5 O.length b6, .slice b7 F.length b8, .slice (some d8) z.length d3, .slice b9 x.length c0] 26 (0, 0)) (zg_3 Za.out) hb); have f2 := zm (blk_below (g := d2) (o := .cells #[.slice none 0 0, .slice none 0 0, .slice none 0 0, .slice none 0 0] 26 (0, 0)) (zg_3 Zg.out) hb); have f5 := zm (blk_below (g := c) (o := .cells #[.slice d0 V.length d1, .slice c8 Z.length c9, b4, .slice c6 a7.length c7] 26 (0, 0)) (zg_3 Zb.out) hb); have j0 := zm (below_step (zg_10 HB.out Zl.out Zq.out Zp.out) hb); clear Zd; clear Ze; clear Zc; clear Zf; clear Za; clear Zg; clear Zb; clear HB; have Zd := d4; have Ze := d5; have Zc := d6; have Zf := e0; have Zx := e2; have Za := e4; have Zg := f2; have Zb := f5; have HB := j0; clear d4 d5 d6 e0 e2 e4 f2 f5 j0; clear hb f4
   refine hK.out _ _ ⟨(blk_cell Zb.out 0).trans rfl, (blk_cell Zb.out 1).trans rfl, (blk_cell Zb.out 2).trans rfl, (blk_cell Zb.out 3).trans rfl, (blk_cell Za.out 0).trans rfl, (blk_cell Za.out 1).trans rfl, (blk_cell Za.out 2).trans rfl, (blk_cell Za.out 3).trans rfl, ((HB.out.cell (World.block_lt_of_cell? w _ hw166_0)).trans hw166_0), ((HB.out.cell (World.block_lt_of_cell? w _ hw166_1)).trans hw166_1), ((HB.out.cell (World.block_lt_of_cell? w _ hw170_0)).trans hw170_0), ((HB.out.cell (World.block_lt_of_cell? w _ hw170_1)).trans hw170_1)⟩ (fun hHeld => ?_)
   clear hK K
   refine norm_ (a' := ?_) ?_ ?_
   rotate_left
   ·show Act.put _ (some 34) _ = _
    simp only [Act.put, zs, zz, zt, i64_w, i32_w]
    rfl
   refine one_ (i := 15) (N := some 41) #[tt, tt, tt, tt, tt, tt, tt, tt, tt, tt, tt, tt, tt, tt, tt, tt, ff, ff, ff, ff, ff] rfl rfl (one_of HT_.out (by kernel_rfl)) (by decide) (fun K hK => ?_)
   refine Kd.R_append_rows_step (Kd.int .i64) (w0 := w) w.heap.size (by rfl) (.tmp 34) (.tmp 40) 23 3 (.int .i64 0) 8 rfl Tryz.underlying23 info3 rfl (by decide) (by omega) p9 h1 ((rd_T66 z X).f1) _ _ _ (fun k_ => some k_ ≠ (.slice d0 V.length d1 : Value).ownBlock ∧ some k_ ≠ (.slice c8 Z.length c9 : Value).ownBlock ∧ some k_ ≠ (.slice c6 a7.length c7 : Value).ownBlock) (fun _ => False) rfl rfl ?aO ?aR (fun _ _ h => h) (fun _ h => h.elim) ?aF ?aB ?aS ?aL ?_
   (case aR => exact zC (Kd.C_below Zy.out HB.out))
   (case aB => exact (zg_10 HB.out Zl.out Zq.out Zp.out))
   (case aF => exact (fun k_ hk => ⟨Kd.fresh' (Kd.R_lt (zg_6 Zd.out)) k_ hk, Kd.fresh' (Kd.R_lt (zg_6 Ze.out)) k_ hk, Kd.fresh' (Kd.R_lt (zg_6 Zf.out)) k_ hk⟩))
   (case aO => exact (by (with_reducible repeat (first | apply Kd.R_alloc | apply Kd.R_drewN | apply Kd.R_drew)); exact Kd.R_mono Zx.out (fun _ hk => ⟨hk.1.1.2, ⟨hk.1.2, hk.2⟩⟩)))
   (case aS => exact (below_size (zg_10 HB.out Zl.out Zq.out Zp.out)))
   (case aL => have := n3.out; omega)
   intro x5 z9 ho hb hg hat
   rw [← n4.out] at ho
   have d4 := zm (Kd.R_after (ok := (fun k_ => some k_ ≠ (.slice c8 Z.length c9 : Value).ownBlock ∧ some k_ ≠ (.slice c6 a7.length c7 : Value).ownBlock)) (zg_6 Zd.out) hg hat); have d5 := zm (Kd.R_after (ok := (fun k_ => some k_ ≠ (.slice d0 V.length d1 : Value).ownBlock ∧ some k_ ≠ (.slice c6 a7.length c7 : Value).ownBlock)) (zg_6 Ze.out) hg hat); have d6 := zm (Kd.S_after (ok := (fun k_ => some k_ ≠ (.slice d0 V.length d1 : Value).ownBlock ∧ some k_ ≠ (.slice c8 Z.length c9 : Value).ownBlock ∧ some k_ ≠ (.slice c6 a7.length c7 : Value).ownBlock)) (zg_11 Zc.out) hg hat); have e0 := zm (Kd.R_after (ok := (fun k_ => some k_ ≠ (.slice d0 V.length d1 : Value).ownBlock ∧ some k_ ≠ (.slice c8 Z.length c9 : Value).ownBlock)) (zg_6 Zf.out) hg hat); have e2 := zm (blk_grown (g := D) (o := .cells #[.slice b5 O.length b6, .slice b7 F.length b8, .slice (some d8) z.length d3, .slice b9 x.length c0] 26 (0, 0)) (zg_3 Za.out) hg (Kd.R_ne Zx.out Za.out (by decide))); have e4 := zm (blk_grown (g := d2) (o := .cells #[.slice none 0 0, .slice none 0 0, .slice none 0 0, .slice none 0 0] 26 (0, 0)) (zg_3 Zg.out) hg (Kd.R_ne Zx.out Zg.out (by decide))); have f2 := zm (blk_grown (g := c) (o := .cells #[.slice d0 V.length d1, .slice c8 Z.length c9, b4, .slice c6 a7.length c7] 26 (0, 0)) (zg_3 Zb.out) hg (Kd.R_ne Zx.out Zb.out (by decide))); have f5 := zm (hb); have j0 := zm (ho); clear Zd; clear Ze; clear Zc; clear Zf; clear Za; clear Zg; clear Zb; clear HB; clear Zx; have Zd := d4; have Ze := d5; have Zc := d6; have Zf := e0; have Za := e2; have Zg := e4; have Zb := f2; have HB := f5; have Zz := j0; clear d4 d5 d6 e0 e2 e4 f2 f5 j0; clear ho hb hg hat
   obtain ⟨m4, m5, m6⟩ := Kd.R_slice Zz.out
   (first | subst m6 | (injection m6 with f1_ f2_ f3_; have f4_ := f1_.symm; have f5_ := f3_.symm; clear f1_ f2_ f3_; subst f4_; subst f5_))
   refine hK.out _ _ ⟨(blk_cell Zb.out 0).trans rfl, (blk_cell Zb.out 1).trans rfl, (blk_cell Zb.out 2).trans rfl, (blk_cell Zb.out 3).trans rfl, (blk_cell Za.out 0).trans rfl, (blk_cell Za.out 1).trans rfl, (blk_cell Za.out 2).trans rfl, (blk_cell Za.out 3).trans rfl, ((HB.out.cell (World.block_lt_of_cell? w _ hw166_0)).trans hw166_0), ((HB.out.cell (World.block_lt_of_cell? w _ hw166_1)).trans hw166_1), ((HB.out.cell (World.block_lt_of_cell? w _ hw170_0)).trans hw170_0), ((HB.out.cell (World.block_lt_of_cell? w _ hw170_1)).trans hw170_1)⟩ (fun hHeld => ?_)
   clear hK K
   refine norm_ (a' := ?_) ?_ ?_
   rotate_left
   ·show Act.put _ (some 41) _ = _
    simp only [Act.put, zs, zz, zt, i64_w, i32_w]
    rfl
   refine pure_ (i := 16) (N := some 42) (v := ?_) (a' := ?_) #[tt, tt, tt, tt, tt, tt, tt, tt, tt, tt, tt, tt, tt, tt, tt, tt, tt, ff, ff, ff, ff] rfl rfl (any_of HT_.out (by kernel_rfl)) (fun _ _ _ h => h) (Or.inl ⟨by rfl, ?_⟩) ?_ ?_
   rotate_left
   ·intro w'
    go_simp
    with_reducible rfl
   rotate_left
   ·simp only [Act.put, zs, zz, zt, i64_w, i32_w]
    rfl
   refine one_ (i := 17) (N := some 43) #[tt, tt, tt, tt, tt, tt, tt, tt, tt, tt, tt, tt, tt, tt, tt, tt, tt, tt, ff, ff, ff] rfl rfl (one_of HT_.out (by kernel_rfl)) (by decide) (fun K hK => ?_)
   refine value_ (w1 := ?_) (v := ?_) (by rfl) rfl ?_ ?_
   rotate_left 2
   ·go_simp
    constructor
    ·rfl
    ·rfl
   refine hK.out _ _ ⟨(blk_cell (blk_alloc Zb.out _) 0).trans rfl, (blk_cell (blk_alloc Zb.out _) 1).trans rfl, (blk_cell (blk_alloc Zb.out _) 2).trans rfl, (blk_cell (blk_alloc Zb.out _) 3).trans rfl, (blk_cell (blk_alloc Za.out _) 0).trans rfl, (blk_cell (blk_alloc Za.out _) 1).trans rfl, (blk_cell (blk_alloc Za.out _) 2).trans rfl, (blk_cell (blk_alloc Za.out _) 3).trans rfl, (World.cell?_alloc_lt _ _ _ (World.block_lt_of_cell? _ _ (((HB.out.cell (World.block_lt_of_cell? w _ hw166_0)).trans hw166_0)))).trans (((HB.out.cell (World.block_lt_of_cell? w _ hw166_0)).trans hw166_0)), (World.cell?_alloc_lt _ _ _ (World.block_lt_of_cell? _ _ (((HB.out.cell (World.block_lt_of_cell? w _ hw166_1)).trans hw166_1)))).trans (((HB.out.cell (World.block_lt_of_cell? w _ hw166_1)).trans hw166_1)), (World.cell?_alloc_lt _ _ _ (World.block_lt_of_cell? _ _ (((HB.out.cell (World.block_lt_of_cell? w _ hw170_0)).trans hw170_0)))).trans (((HB.out.cell (World.block_lt_of_cell? w _ hw170_0)).trans hw170_0)), (World.cell?_alloc_lt _ _ _ (World.block_lt_of_cell? _ _ (((HB.out.cell (World.block_lt_of_cell? w _ hw170_1)).trans hw170_1)))).trans (((HB.out.cell (World.block_lt_of_cell? w _ hw170_1)).trans hw170_1))⟩ (fun hHeld => ?_)
   clear hK K
   refine norm_ (a' := ?_) ?_ ?_
   rotate_left
   ·show Act.put _ (some 43) _ = _
    simp only [Act.put, zs, zz, zt, i64_w, i32_w]
    rfl
   refine one_ (i := 18) (N := some 44) #[tt, tt, tt, tt, tt, tt, tt, tt, tt, tt, tt, tt, tt, tt, tt, tt, tt, tt, tt, ff, ff] rfl rfl (one_of HT_.out (by kernel_rfl)) (by decide) (fun K hK => ?_)
   refine Kd.S_append_step k66 (w0 := w) w.heap.size (by rfl) (.tmp 27) (.tmp 43) 24 66 (.agg #[(.string ⟨#[]⟩), (.slice none 0 0)]) 40 rfl Tryz.underlying24 info66 rfl (by decide) (by omega) b4 b3 (⟨(rd_T66 z X).f0, g2⟩ : S66) [.string ((rd_T66 z X).f0), .slice m4 g2.length m5] (fun k_ => some k_ ≠ (.slice d0 V.length d1 : Value).ownBlock ∧ some k_ ≠ (.slice c8 Z.length c9 : Value).ownBlock ∧ some k_ ≠ (.slice c6 a7.length c7 : Value).ownBlock) (fun k_ => some k_ = (.slice m4 g2.length m5 : Value).ownBlock) rfl rfl ?aP (fun k_ hk_ => ((Kd.R_mono (ok' := fun k_ => ((fun k_ => some k_ ≠ (.slice d0 V.length d1 : Value).ownBlock ∧ some k_ ≠ (.slice c8 Z.length c9 : Value).ownBlock ∧ some k_ ≠ (.slice c6 a7.length c7 : Value).ownBlock)) k_ ∧ some k_ ≠ (b4 : Value).ownBlock) (Kd.R_apart' (Zz.out) (Kd.S_typed Zc.out) (by decide)) (fun k_ hk => ⟨⟨hk.1.1, ⟨hk.1.2.1, hk.1.2.2⟩⟩, hk.2⟩))).1 k_ hk_.symm) ?aF ?aO ?aB ?aS ?aL ?_
   (case aP => exact k66_mkM _ _ _ (⟨(rd_T66 z X).f0, g2⟩ : S66) (Kd.R_mono (Kd.R_tight rfl (Kd.R_mono (ok' := fun k_ => ((fun k_ => some k_ ≠ (.slice d0 V.length d1 : Value).ownBlock ∧ some k_ ≠ (.slice c8 Z.length c9 : Value).ownBlock ∧ some k_ ≠ (.slice c6 a7.length c7 : Value).ownBlock)) k_ ∧ some k_ ≠ (b4 : Value).ownBlock) (Kd.R_apart' (Zz.out) (Kd.S_typed Zc.out) (by decide)) (fun k_ hk => ⟨⟨hk.1.1, ⟨hk.1.2.1, hk.1.2.2⟩⟩, hk.2⟩))) (fun _ h_ => h_)))
   (case aB => exact (zg_10 HB.out Zl.out Zq.out Zp.out))
   (case aF => exact (fun k_ hk => ⟨Kd.fresh' (Kd.R_lt (zg_6 Zd.out)) k_ hk, Kd.fresh' (Kd.R_lt (zg_6 Ze.out)) k_ hk, Kd.fresh' (Kd.R_lt (zg_6 Zf.out)) k_ hk⟩))
   (case aO => exact (by (with_reducible repeat (first | apply Kd.S_alloc | apply Kd.S_drewN | apply Kd.S_drew)); exact Kd.S_mono Zc.out (fun k_ hk => ⟨⟨hk.1.1, ⟨hk.1.2.1, hk.1.2.2⟩⟩, fun e_ => hk.2 e_⟩)))
   (case aS => exact (below_size (zg_10 HB.out Zl.out Zq.out Zp.out)))
   (case aL => have := n5.out; omega)
   intro x6 u0 ho hb hg hat
   rw [← n6.out] at ho
   have d4 := zm (Kd.R_over' (zg_6 Zd.out) (Kd.S_typed (zg_11 Zc.out)) (by decide) hg); have d5 := zm (Kd.R_over' (zg_6 Ze.out) (Kd.S_typed (zg_11 Zc.out)) (by decide) hg); have d6 := zm (Kd.R_over' (zg_6 Zf.out) (Kd.S_typed (zg_11 Zc.out)) (by decide) hg); have e0 := zm (blk_grown (g := D) (o := .cells #[.slice b5 O.length b6, .slice b7 F.length b8, .slice (some d8) z.length d3, .slice b9 x.length c0] 26 (0, 0)) (zg_3 Za.out) hg (Kd.S_ne Zc.out Za.out (by decide))); have e2 := zm (blk_grown (g := d2) (o := .cells #[.slice none 0 0, .slice none 0 0, .slice none 0 0, .slice none 0 0] 26 (0, 0)) (zg_3 Zg.out) hg (Kd.S_ne Zc.out Zg.out (by decide))); have e4 := zm (blk_grown (g := c) (o := .cells #[.slice d0 V.length d1, .slice c8 Z.length c9, b4, .slice c6 a7.length c7] 26 (0, 0)) (zg_3 Zb.out) hg (Kd.S_ne Zc.out Zb.out (by decide))); have f2 := zm (hb); have f5 := zm (ho); clear Zd; clear Ze; clear Zf; clear Za; clear Zg; clear Zb; clear HB; clear Zc; clear Zz; have Zd := d4; have Ze := d5; have Zf := d6; have Za := e0; have Zg := e2; have Zb := e4; have HB := f2; have ZD := f5; clear d4 d5 d6 e0 e2 e4 f2 f5; clear ho hb hg hat
   obtain ⟨h2, h3, m7⟩ := Kd.S_slice ZD.out
   (first | subst m7 | (injection m7 with f1_ f2_ f3_; have f4_ := f1_.symm; have f5_ := f3_.symm; clear f1_ f2_ f3_; subst f4_; subst f5_))
   refine hK.out _ _ ⟨(blk_cell Zb.out 0).trans rfl, (blk_cell Zb.out 1).trans rfl, (blk_cell Zb.out 2).trans rfl, (blk_cell Zb.out 3).trans rfl, (blk_cell Za.out 0).trans rfl, (blk_cell Za.out 1).trans rfl, (blk_cell Za.out 2).trans rfl, (blk_cell Za.out 3).trans rfl, ((HB.out.cell (World.block_lt_of_cell? w _ hw166_0)).trans hw166_0), ((HB.out.cell (World.block_lt_of_cell? w _ hw166_1)).trans hw166_1), ((HB.out.cell (World.block_lt_of_cell? w _ hw170_0)).trans hw170_0), ((HB.out.cell (World.block_lt_of_cell? w _ hw170_1)).trans hw170_1)⟩ (fun hHeld => ?_)
   clear hK K
   refine norm_ (a' := ?_) ?_ ?_
   rotate_left
   ·show Act.put _ (some 44) _ = _
    simp only [Act.put, zs, zz, zt, i64_w, i32_w]
    rfl
   refine pure_ (i := 19) (N := some 45) (v := ?_) (a' := ?_) #[tt, tt, tt, tt, tt, tt, tt, tt, tt, tt, tt, tt, tt, tt, tt, tt, tt, tt, tt, tt, ff] rfl rfl (any_of HT_.out (by kernel_rfl)) (fun _ _ _ h => h) (Or.inl ⟨by rfl, ?_⟩) ?_ ?_
   rotate_left
   ·intro w'
    go_simp
    with_reducible rfl
   rotate_left
   ·simp only [Act.put, zs, zz, zt, i64_w, i32_w]
    rfl
   refine last_ (i := 20) (N := none) #[tt, tt, tt, tt, tt, tt, tt, tt, tt, tt, tt, tt, tt, tt, tt, tt, tt, tt, tt, tt, tt] rfl rfl (one_of HT_.out (by kernel_rfl)) (by decide) (fun K hK => ?_)
   have x7 : u0.cell? ⟨c, 2, none⟩ = some (b4) := (blk_cell Zb.out 2).trans rfl
   have v7 := blk_frozen Zb.out 2; have t0 := Zh.out; have t1 := Zi.out; have t2 := Zj.out; have t3 := Zk.out
   refine skip_ (w1 := ?_) (by rfl) rfl ?_ ?_
   rotate_left
   ·go_simp
    rfl
   refine hK.out _ _ ?_
   clear hK K
   refine done_ (done_of HT_.out (by kernel_rfl)) ?_
   try go_wp2
   go_roundg k1
   case measure => have := n9.out; omega
   case rel => exact ⟨(wrap64 (X + 1)), (f6), (.slice h2 f6.length h3), zr, H', ⟨by have := n9.out; omega⟩, ⟨by (with_reducible repeat (first | apply Kd.R_alloc | apply Kd.R_drewN | apply Kd.R_drew)); exact Kd.R_mono (Kd.R_far (p := ⟨c, 2, none⟩) (Kd.R_types Zd.out Zb.out (by decide)) (fun _ hk => hk.2) (.slice h2 f6.length h3)) (fun _ hk => ⟨hk.1.1.1, hk.1.1.2⟩)⟩, ⟨by (with_reducible repeat (first | apply Kd.R_alloc | apply Kd.R_drewN | apply Kd.R_drew)); exact Kd.R_mono (Kd.R_far (p := ⟨c, 2, none⟩) (Kd.R_types Ze.out Zb.out (by decide)) (fun _ hk => hk.2) (.slice h2 f6.length h3)) (fun _ hk => ⟨hk.1.1.1, hk.1.1.2⟩)⟩, ⟨by (with_reducible repeat (first | apply Kd.S_alloc | apply Kd.S_drewN | apply Kd.S_drew)); exact Kd.S_mono (Kd.S_far (p := ⟨c, 2, none⟩) (Kd.S_types ZD.out Zb.out (by decide)) (fun _ hk => hk.2) (.slice h2 f6.length h3)) (fun _ hk => ⟨hk.1.1, ⟨hk.1.2.1, hk.1.2.2⟩⟩)⟩, ⟨by (with_reducible repeat (first | apply Kd.R_alloc | apply Kd.R_drewN | apply Kd.R_drew)); exact Kd.R_mono (Kd.R_far (p := ⟨c, 2, none⟩) (Kd.R_types Zf.out Zb.out (by decide)) (fun _ hk => hk.2) (.slice h2 f6.length h3)) (fun _ hk => ⟨hk.1.1.1, hk.1.1.2⟩)⟩, ⟨by (with_reducible repeat (first | refine blk_drewN ?_ _ | refine blk_drew ?_ | refine blk_alloc ?_ _)); refine blk_far ?_ Zh.out _; (with_reducible repeat (first | refine blk_drewN ?_ _ | refine blk_drew ?_ | refine blk_alloc ?_ _)); exact Za.out⟩, ⟨by (with_reducible repeat (first | refine blk_drewN ?_ _ | refine blk_drew ?_ | refine blk_alloc ?_ _)); refine blk_far ?_ Zi.out _; (with_reducible repeat (first | refine blk_drewN ?_ _ | refine blk_drew ?_ | refine blk_alloc ?_ _)); exact Zg.out⟩, ⟨by (with_reducible repeat (first | refine blk_drewN ?_ _ | refine blk_drew ?_ | refine blk_alloc ?_ _)); refine blk_put (cs := #[.slice d0 V.length d1, .slice c8 Z.length c9, b4, .slice c6 a7.length c7]) ?_ 2 _ rfl; (with_reducible repeat (first | refine blk_drewN ?_ _ | refine blk_drew ?_ | refine blk_alloc ?_ _)); exact Zb.out⟩, ⟨zg_10 HB.out Zl.out Zq.out Zp.out⟩⟩
def spec_l09Clusters.l0 : Nat → List Int → List Int → Int → Option (List Int)
  | 0, _, _, _ => none
  | k + 1, x0, x3, x4 => if x4 < (x0.length : Int) then (if 0 ≤ x4 then (if (rd x0 x4) ≥ 2 then (if x3.length < 17592186044416 then (spec_l09Clusters.l0 k x0 (x3 ++ [wrap64 ((rd x0 x4) - 2)]) (wrap64 (x4 + 1))) else (none)) else (spec_l09Clusters.l0 k x0 x3 (wrap64 (x4 + 1)))) else (none)) else (some x3)
def spec_l09Clusters.f (k : Nat) (l0 : List Int) : Option (List Int) := spec_l09Clusters.l0 k l0 (([] : List Int)) 0
theorem spec_l09Clusters.mono_l : ∀ k, (∀ y0 y1 y2, LeO (spec_l09Clusters.l0 k y0 y1 y2) (spec_l09Clusters.l0 (k + 1) y0 y1 y2))
  | 0 => fun _ _ _ r h => by simp [spec_l09Clusters.l0] at h
  | k + 1 => by
    have ih0 := spec_l09Clusters.mono_l k
    · intro y0 y1 y2
      unfold spec_l09Clusters.l0
      repeat' first| (with_reducible first | exact ih0 _ _ _ | exact LeO.refl _ | exact LeO.none _ | refine LeO.ite ?_ ?_ | refine LeO.bind ?_ (fun _ => ?_)) | exact ih0 _ _ _ | exact LeO.none _ | refine LeO.ite ?_ ?_ | refine LeO.bind ?_ (fun _ => ?_)
theorem spec_l09Clusters.mono : ∀ a0 k, LeO (spec_l09Clusters.f k a0) (spec_l09Clusters.f (k + 1) a0) := by
  intro a0 k
  have ih0 := spec_l09Clusters.mono_l k
  unfold spec_l09Clusters.f
  repeat' first| (with_reducible first | exact ih0 _ _ _ | exact LeO.refl _ | exact LeO.none _ | refine LeO.ite ?_ ?_ | refine LeO.bind ?_ (fun _ => ?_)) | exact ih0 _ _ _ | exact LeO.none _ | refine LeO.ite ?_ ?_ | refine LeO.bind ?_ (fun _ => ?_)
set_option maxHeartbeats 8000000 in
set_option maxRecDepth 100000 in
theorem spec_l09Clusters.calls (k : Nat) (U : Option Addr) (V : Nat) (c : List Int) (r : List Int) (w : World) (I : Kd.C (Kd.int .i64) w U c.length c) (J : c.length ≤ V) (h : spec_l09Clusters.f k c = some r) :
    Calls Tryz.prog 66 #[.slice U c.length V] w fun e w' => ∃ L : Value, e = .returned (L) ∧ Kd.R (Kd.int .i64) 3 w' w.heap.size (fun _ => True) L r ∧ Below w.heap.size w w' := by
 have z := zm I; have a3 := zm J; clear I J; have HB := zm (Below.refl w.heap.size w)
 have H : (spec_l09Clusters.l0 k c (([] : List Int)) 0) = some r := h
 clear h
 obtain ⟨A, j⟩ : ∃ y_ : List Int, y_ = (([] : List Int)) := ⟨_, rfl⟩
 replace H : (spec_l09Clusters.l0 k c A 0) = some r := zy H j
 have t := zm j; clear j
 have H' := zm H
 clear H
 go_enter Tryz.func66, Tryz.ntmps66
 go_wp2_with (first | ((with_reducible refine gate_dst (N := 5) rfl ?_); refine Kd.R_lit (Kd.int .i64) _ 3 ?hg (N := 5) ?hd (xs := ([] : List Int)) (inner := []) (ok := fun _ => True) (okp := fun _ => True) ?hr ?hp (fun _ hk => hk) trivial (Below.refl _ _) (Nat.le_refl _) (by simp) ?_; (case hd => rfl); (case hg => rfl); (case hr => first | (go_simp; done) | (go_simp; rfl)); (case hp => exact (Reps.none _ _)); intro X w2 m hb hg_ hnew_; clear hg_ hnew_; (first | rw [← t.out] at m | (simp only [Int.reduceToNat] at m; rw [← t.out] at m)); have n := zm (Kd.R_lower m (below_size (zg_1 HB.out))); have o := zm (below_step (zg_1 HB.out) hb); have Zb := n; replace HB := o; clear n o; clear hb m))
 go_loopg [3, 4] k (fun kq Y Z w' => ∃ (d : List Int) (a : Int), Z = .int .i64 a ∧ Aside0 (spec_l09Clusters.l0 kq c d a = some r) ∧ Aside0 (kq ≤ k) ∧ Aside0 (Kd.R (Kd.int .i64) 3 w' w.heap.size (fun _ => True) Y d) ∧ Aside0 (Below w.heap.size w w'))
 case atStart => exact ⟨(A), (0), zr, H', ⟨Nat.le_refl _⟩, ⟨zlR Zb.out⟩, ⟨zg_1 HB.out⟩⟩
 case round =>
  clear H'
  try clear p2
  obtain ⟨d, a, rfl, HA, u, Za, HB⟩ := hrel
  cases gk with
  | zero => exact absurd HA.out (by simp [spec_l09Clusters.l0])
  | succ k1 =>
   have H := HA.out; clear HA
   simp only [spec_l09Clusters.l0] at H
   by_cases x : a < (c.length : Int)
   rotate_left
   ·rw [if_neg x] at H
    have M := decide_eq_false x; clear x; obtain rfl := Option.some.inj H
    go_wp2
    go_ret
    exact ⟨_, ze, by (with_reducible repeat (first | apply Kd.R_alloc | apply Kd.R_drewN | apply Kd.R_drew)); exact Za.out, zg_1 HB.out⟩
   rw [if_pos x] at H; have M := decide_eq_true x; clear x
   by_cases D : 0 ≤ a
   rotate_left
   ·rw [if_neg D] at H
    exact absurd H (by simp)
   rw [if_pos D] at H; have a1 := decide_eq_true D; clear D
   by_cases y : (rd c a) ≥ 2
   rotate_left
   ·rw [if_neg y] at H
    have O := decide_eq_false y; clear y
    have H' := zm H
    clear H
    have g : 0 ≤ (a : Int) := zd
    have i : a < (c.length : Int) := zd
    obtain ⟨v, p, hx183_0⟩ := Kd.at_int z.out a g i
    cases p; replace hx183_0 := (HB.out.cell (World.block_lt_of_cell? w _ hx183_0)).trans hx183_0; replace g := eq_true g; replace i := eq_true i
    go_wp2
    go_roundg k1
    case measure => have := u.out; omega
    case rel => exact ⟨(d), (wrap64 (a + 1)), zr, H', ⟨by have := u.out; omega⟩, ⟨zlR Za.out⟩, ⟨zg_1 HB.out⟩⟩
   rw [if_pos y] at H; have O := decide_eq_true y; clear y
   by_cases E : d.length < 17592186044416
   rotate_left
   ·rw [if_neg E] at H
    exact absurd H (by simp)
   rw [if_pos E] at H; have S := zm E; clear E
   obtain ⟨B, l⟩ : ∃ y_ : List Int, y_ = (d ++ [wrap64 ((rd c a) - 2)]) := ⟨_, rfl⟩
   replace H : (spec_l09Clusters.l0 k1 c B (wrap64 (a + 1))) = some r := zy H l
   have F := zm l; clear l
   have H' := zm H
   clear H
   have g : 0 ≤ (a : Int) := zd
   have i : a < (c.length : Int) := zd
   obtain ⟨v, p, hx183_0⟩ := Kd.at_int z.out a g i
   cases p; replace hx183_0 := (HB.out.cell (World.block_lt_of_cell? w _ hx183_0)).trans hx183_0; replace g := eq_true g; replace i := eq_true i
   have q : 0 ≤ (a : Int) := zd
   have s : a < (c.length : Int) := zd
   obtain ⟨G, T, hx184_0⟩ := Kd.at_int z.out a q s
   obtain rfl : v = G := (by injection T)
   replace hx184_0 := (HB.out.cell (World.block_lt_of_cell? w _ hx184_0)).trans hx184_0; replace q := eq_true q; replace s := eq_true s
   go_wp2_with (first | ((with_reducible refine gate_builtin (b := .append) (xs := #[.tmp 17, .tmp 23]) rfl ?_); at_builtin; refine Kd.R_append (Kd.int .i64) (w0 := w) w.heap.size rfl (.tmp 17) (.tmp 23) 23 3 (.int .i64 0) 8 rfl Tryz.underlying23 info3 rfl (by decide) (by omega) u3 d (wrap64 ((rd c a) - 2)) [.int .i64 (wrap64 ((rd c a) - 2))] (fun _ => True) (fun _ => False) rfl rfl ?aP (fun _ hk => hk.elim) ?aF ?aO ?aB ?aS ?aL ?_; (case aP => exact rfl); (case aB => exact (zg_1 HB.out)); (case aF => exact (fun _ _ => trivial)); (case aO => exact (zg_6 Za.out)); (case aS => exact (below_size (zg_1 HB.out))); (case aL => have := S.out; omega); intro a2 w8 ho hb hg hat; rw [← F.out] at ho; have n := zm (hb); have o := zm (ho); clear Za; replace HB := n; have Zc := o; clear n o; clear ho hb hg hat))
   go_roundg k1
   case measure => have := u.out; omega
   case rel => exact ⟨(B), (wrap64 (a + 1)), zr, H', ⟨by have := u.out; omega⟩, ⟨zlR Zc.out⟩, ⟨zg_1 HB.out⟩⟩
def spec_l10Raise.l0 : Nat → List Int → Int → List Int → List Int → List (S66) → List Int → Option (List Int × List Int × (List (S66)) × List Int)
  | 0, _, _, _, _, _, _ => none
  | k + 1, x5, x6, x189000, x189001, x189002, x189003 => if x6 < (x5.length : Int) then (if 0 ≤ x6 then (if 0 ≤ (rd x5 x6) then (if (rd x5 x6) < (x189000.length : Int) then (spec_l10Raise.l0 k x5 (wrap64 (x6 + 1)) (x189000.set ((rd x5 x6) : Int).toNat (wrap64 ((rd x189000 (rd x5 x6)) + 1))) x189001 x189002 x189003) else (none)) else (none)) else (none)) else (some (x189000, x189001, x189002, x189003))
def spec_l10Raise.f (k : Nat) (l0_0 : List Int) (l0_1 : List Int) (l0_2 : List (S66)) (l0_3 : List Int) (l1 : List Int) : Option (List Int × List Int × (List (S66)) × List Int) := (spec_l09Clusters.f k l1).bind fun t190 => (spec_l10Raise.l0 k t190 0 l0_0 l0_1 l0_2 l0_3)
theorem spec_l10Raise.mono_l : ∀ k, (∀ y0 y1 y2 y3 y4 y5, LeO (spec_l10Raise.l0 k y0 y1 y2 y3 y4 y5) (spec_l10Raise.l0 (k + 1) y0 y1 y2 y3 y4 y5))
  | 0 => fun _ _ _ _ _ _ r h => by simp [spec_l10Raise.l0] at h
  | k + 1 => by
    have ih0 := spec_l10Raise.mono_l k
    · intro y0 y1 y2 y3 y4 y5
      unfold spec_l10Raise.l0
      repeat' first| (with_reducible first | exact ih0 _ _ _ _ _ _ | exact spec_l09Clusters.mono _ _ | exact LeO.refl _ | exact LeO.none _ | refine LeO.ite ?_ ?_ | refine LeO.bind ?_ (fun _ => ?_)) | exact ih0 _ _ _ _ _ _ | exact LeO.none _ | refine LeO.ite ?_ ?_ | refine LeO.bind ?_ (fun _ => ?_)
theorem spec_l10Raise.mono : ∀ a0 a1 a2 a3 a4 k, LeO (spec_l10Raise.f k a0 a1 a2 a3 a4) (spec_l10Raise.f (k + 1) a0 a1 a2 a3 a4) := by
  intro a0 a1 a2 a3 a4 k
  have ih0 := spec_l10Raise.mono_l k
  unfold spec_l10Raise.f
  repeat' first| (with_reducible first | exact ih0 _ _ _ _ _ _ | exact spec_l09Clusters.mono _ _ | exact LeO.refl _ | exact LeO.none _ | refine LeO.ite ?_ ?_ | refine LeO.bind ?_ (fun _ => ?_)) | exact ih0 _ _ _ _ _ _ | exact LeO.none _ | refine LeO.ite ?_ ?_ | refine LeO.bind ?_ (fun _ => ?_)
def spec_l10Raise.T5 : Bool × List (List Nat × List Nat) := (true, [([], []), ([0], [0]), ([], []), ([], []), ([2, 3], [2, 3]), ([4], [4]), ([1, 5], [1, 5]), ([6], [6]), ([7], [7]), ([1, 5, 0, 1, 2, 3, 4, 5, 6, 7, 8], [1, 5]), ([9, 8, 0, 1, 2, 3, 4, 5, 6, 7, 8], [8, 9])])
def spec_l10Raise.B5 : List Nat := [0, 1, 0, 0, 12, 28, 63, 127, 255, 511, 1023]
theorem spec_l10Raise.tab5 : rtab .any (opsOf Tryz.f46 5) = spec_l10Raise.T5 := by kernel_rfl
theorem spec_l10Raise.bits5 : waitsOk spec_l10Raise.T5.2 spec_l10Raise.B5 = true := by kernel_rfl
set_option maxHeartbeats 8000000 in
set_option maxRecDepth 100000 in
theorem spec_l10Raise.calls (k : Nat) (b : Nat → Prop) (I : Value) (E : List Int) (c : Nat → Prop) (J : Value) (F : List Int) (d : Nat → Prop) (b3 : Value) (x : List (S66)) (j : Nat → Prop) (L : Value) (G : List Int) (A1 : Option Addr) (c1 : Nat) (l1 : List Int) (r1 : List Int) (r2 : List Int) (r3 : List (S66)) (r4 : List Int) (D w : World) (hB : Below D.heap.size D w) (b0 : Kd.R (Kd.int .i64) 3 w D.heap.size b I E) (c9 : ∀ k_, b k_ → ¬ c k_) (g6 : ∀ k_, b k_ → ¬ d k_) (d0 : ∀ k_, b k_ → ¬ j k_) (b1 : Kd.R (Kd.int .i64) 3 w D.heap.size c J F) (d1 : ∀ k_, c k_ → ¬ b k_) (g7 : ∀ k_, c k_ → ¬ d k_) (d2 : ∀ k_, c k_ → ¬ j k_) (g2 : Kd.S k66 66 w D.heap.size d b3 x) (d3 : ∀ k_, d k_ → ¬ b k_) (d4 : ∀ k_, d k_ → ¬ c k_) (d5 : ∀ k_, d k_ → ¬ j k_) (b2 : Kd.R (Kd.int .i64) 3 w D.heap.size j L G) (d6 : ∀ k_, j k_ → ¬ b k_) (d7 : ∀ k_, j k_ → ¬ c k_) (g8 : ∀ k_, j k_ → ¬ d k_) (g9 : ∀ W_, Kept w W_ (fun _ => False) → Kd.C (Kd.int .i64) W_ A1 l1.length l1) (h0 : l1.length ≤ c1) (h : spec_l10Raise.f k E F x G l1 = some (r1, r2, r3, r4)) :
    Calls Tryz.prog 46 #[.agg #[I, J, b3, L], .slice A1 l1.length c1] w fun e w' => ∃ d8 d9 h1 e0 : Value, e = .returned (.agg #[d8, d9, h1, e0]) ∧ Kd.R (Kd.int .i64) 3 w' D.heap.size (fun k_ => ((b k_ ∨ c k_ ∨ d k_ ∨ j k_) ∨ w.heap.size ≤ k_) ∧ some k_ ≠ (d9 : Value).ownBlock ∧ some k_ ≠ (e0 : Value).ownBlock) d8 r1 ∧ Kd.R (Kd.int .i64) 3 w' D.heap.size (fun k_ => ((b k_ ∨ c k_ ∨ d k_ ∨ j k_) ∨ w.heap.size ≤ k_) ∧ some k_ ≠ (d8 : Value).ownBlock ∧ some k_ ≠ (e0 : Value).ownBlock) d9 r2 ∧ Kd.S k66 66 w' D.heap.size (fun k_ => ((b k_ ∨ c k_ ∨ d k_ ∨ j k_) ∨ w.heap.size ≤ k_) ∧ some k_ ≠ (d8 : Value).ownBlock ∧ some k_ ≠ (d9 : Value).ownBlock ∧ some k_ ≠ (e0 : Value).ownBlock) h1 r3 ∧ Kd.R (Kd.int .i64) 3 w' D.heap.size (fun k_ => ((b k_ ∨ c k_ ∨ d k_ ∨ j k_) ∨ w.heap.size ≤ k_) ∧ some k_ ≠ (d8 : Value).ownBlock ∧ some k_ ≠ (d9 : Value).ownBlock) e0 r4 ∧ Below D.heap.size D w' ∧ Kept w w' (fun k_ => b k_ ∨ c k_ ∨ d k_ ∨ j k_) := by
 have hu26 := Tryz.underlying26; have Zg := zm (show Kd.R (Kd.int .i64) 3 w D.heap.size (fun k_ => ((b k_ ∨ c k_ ∨ d k_ ∨ j k_) ∨ w.heap.size ≤ k_) ∧ some k_ ≠ (J : Value).ownBlock ∧ some k_ ≠ (L : Value).ownBlock) I E from Kd.R_mono b0 (fun k_ hk => ⟨(.inl (.inl hk)), fun e_ => c9 k_ hk (b1.1 k_ e_.symm), fun e_ => d0 k_ hk (b2.1 k_ e_.symm)⟩)); have Zh := zm (show Kd.R (Kd.int .i64) 3 w D.heap.size (fun k_ => ((b k_ ∨ c k_ ∨ d k_ ∨ j k_) ∨ w.heap.size ≤ k_) ∧ some k_ ≠ (I : Value).ownBlock ∧ some k_ ≠ (L : Value).ownBlock) J F from Kd.R_mono b1 (fun k_ hk => ⟨(.inl (.inr (.inl hk))), fun e_ => d1 k_ hk (b0.1 k_ e_.symm), fun e_ => d2 k_ hk (b2.1 k_ e_.symm)⟩)); have Zj := zm (show Kd.S k66 66 w D.heap.size (fun k_ => ((b k_ ∨ c k_ ∨ d k_ ∨ j k_) ∨ w.heap.size ≤ k_) ∧ some k_ ≠ (I : Value).ownBlock ∧ some k_ ≠ (J : Value).ownBlock ∧ some k_ ≠ (L : Value).ownBlock) b3 x from Kd.S_mono g2 (fun k_ hk => ⟨(.inl (.inr (.inr (.inl hk)))), fun e_ => d3 k_ hk (b0.1 k_ e_.symm), fun e_ => d4 k_ hk (b1.1 k_ e_.symm), fun e_ => d5 k_ hk (b2.1 k_ e_.symm)⟩)); have Zi := zm (show Kd.R (Kd.int .i64) 3 w D.heap.size (fun k_ => ((b k_ ∨ c k_ ∨ d k_ ∨ j k_) ∨ w.heap.size ≤ k_) ∧ some k_ ≠ (I : Value).ownBlock ∧ some k_ ≠ (J : Value).ownBlock) L G from Kd.R_mono b2 (fun k_ hk => ⟨(.inl (.inr (.inr (.inr hk)))), fun e_ => d6 k_ hk (b0.1 k_ e_.symm), fun e_ => d7 k_ hk (b1.1 k_ e_.symm)⟩)); have i9 := zm g9; have j0 := zm h0; clear g9 h0; have HK := zm (Kept.refl w (fun k_ => b k_ ∨ c k_ ∨ d k_ ∨ j k_)); have HKF := zm (Kept.refl w (fun _ => False)); have l2 := zm hB.size; have HB := zm hB; clear hB
 have H : ((spec_l09Clusters.f k l1).bind fun c5 => (spec_l10Raise.l0 k c5 0 E F x G)) = some (r1, r2, r3, r4) := h
 clear h; replace H := Option.bind_eq_some_iff.mp H
 obtain ⟨c5, h2, H⟩ := H
 try dsimp only at H
 have A3 := zm h2; clear h2
 have H' := zm H
 clear H
 obtain ⟨b5, b6, j1⟩ := Kd.R_slice Zg.out
 subst j1
 obtain ⟨b7, b8, j2⟩ := Kd.R_slice Zh.out
 subst j2
 obtain ⟨a8, a9, j3⟩ := Kd.S_slice Zj.out
 subst j3
 obtain ⟨b9, c0, j4⟩ := Kd.R_slice Zi.out
 subst j4
 go_enter Tryz.func46, Tryz.ntmps46
 go_wp2_with (first | ((with_reducible refine gate_dst (N := 2) rfl ?_); refine box_event ?hg (N := 2) ?hd (cs := #[.slice b5 E.length b6, .slice b7 F.length b8, .slice a8 x.length a9, .slice b9 G.length c0]) (t := 26) ?hr ?_; (case hd => rfl); (case hg => rfl); (case hr => first | (go_simp; done) | (go_simp; rfl)); intro q hg w8 hbox hb; have T := zm (Kd.R_below (zg_6 Zg.out) hb); have U := zm (Kd.R_below (zg_6 Zh.out) hb); have V := zm (Kd.S_below (zg_11 Zj.out) hb); have X := zm (Kd.R_below (zg_6 Zi.out) hb); have Y := zm (Kept.below (S := (fun k_ => b k_ ∨ c k_ ∨ d k_ ∨ j k_)) (zg_12 HK.out) hb); have HKG := zm (Kept.below (S := (fun _ => False)) (zg_12 HKF.out) hb); clear HKF; have HKF := HKG; clear HKG; have Z := zm (below_step (zg_1 HB.out) hb); have a5 := zm (hbox); have a6 := zm ((by rw [hg]; exact (by first | exact HK.out.1 | exact (show Kept w _ (fun k_ => b k_ ∨ c k_ ∨ d k_ ∨ j k_) from zg_12 HK.out).1) : w.heap.size ≤ q)); have a7 := zm ((by rw [hg]; exact (below_size (zg_1 HB.out)) : D.heap.size ≤ q)); replace Zg := T; replace Zh := U; replace Zj := V; replace Zi := X; replace HK := Y; replace HB := Z; have Zb := a5; have Zk := a6; have Zl := a7; clear T U V X Y Z a5 a6 a7; clear hb hbox hg) | ((with_reducible refine gate_dst (N := 4) rfl ?_); refine box_event ?hg (N := 4) ?hd (cs := #[.slice none 0 0, .slice none 0 0, .slice none 0 0, .slice none 0 0]) (t := 26) ?hr ?_; (case hd => rfl); (case hg => rfl); (case hr => first | (go_simp; done) | (go_simp; rfl)); intro O hg w9 hbox hb; have T := zm (Kd.R_below (zg_6 Zg.out) hb); have U := zm (Kd.R_below (zg_6 Zh.out) hb); have V := zm (Kd.S_below (zg_11 Zj.out) hb); have X := zm (Kd.R_below (zg_6 Zi.out) hb); have Y := zm (blk_below (g := q) (o := .cells #[.slice b5 E.length b6, .slice b7 F.length b8, .slice a8 x.length a9, .slice b9 G.length c0] 26 (0, 0)) (zg_3 Zb.out) hb); have Z := zm (Kept.below (S := (fun k_ => b k_ ∨ c k_ ∨ d k_ ∨ j k_)) (zg_13 HK.out Zk.out) hb); have HKG := zm (Kept.below (S := (fun _ => False)) (zg_13 HKF.out Zk.out) hb); clear HKF; have HKF := HKG; clear HKG; have a5 := zm (below_step (zg_2 HB.out Zl.out) hb); have a6 := zm (hbox); have a7 := zm ((by rw [hg]; exact (by first | exact HK.out.1 | exact (show Kept w _ (fun k_ => b k_ ∨ c k_ ∨ d k_ ∨ j k_) from zg_13 HK.out Zk.out).1) : w.heap.size ≤ O)); have h3 := zm ((by rw [hg]; exact (below_size (zg_2 HB.out Zl.out)) : D.heap.size ≤ O)); have f2 := zm ((by rw [hg]; exact Nat.ne_of_lt (blk_lt (g := q) (o := .cells #[.slice b5 E.length b6, .slice b7 F.length b8, .slice a8 x.length a9, .slice b9 G.length c0] 26 (0, 0)) (zg_3 Zb.out)) : q ≠ O)); have f3 := zm ((by rw [hg]; exact Nat.ne_of_gt (blk_lt (g := q) (o := .cells #[.slice b5 E.length b6, .slice b7 F.length b8, .slice a8 x.length a9, .slice b9 G.length c0] 26 (0, 0)) (zg_3 Zb.out)) : O ≠ q)); replace Zg := T; replace Zh := U; replace Zj := V; replace Zi := X; replace Zb := Y; replace HK := Z; replace HB := a5; have Zc := a6; have Zm := a7; have Zn := h3; have Zp := f2; have Zq := f3; clear T U V X Y Z a5 a6 a7 h3 f2 f3; clear hb hbox hg) | ((with_reducible refine gate_callee (f := 66) rfl ?_); refine goesL_ (some 8) rfl rfl Tryz.func66 (by kernel_rfl) rfl #[.slice A1 l1.length c1] rfl zq ?_; (with_reducible refine (spec_l09Clusters.calls k _ _ l1 c5 _ ?side1 ?side2 A3.out).mono ?_); (case side1 => exact Kd.C_kept_now i9.out (zg_14 HKF.out Zk.out Zm.out)); (case side2 => exact j0.out); rintro e l3 ⟨b4, rfl, c2, hb⟩; refine ⟨_, rfl, ?_⟩; have T := zm (Kd.R_elder' (zg_6 Zg.out) (Kd.R_base c2) hb); have U := zm (Kd.R_elder' (zg_6 Zh.out) (Kd.R_base c2) hb); have V := zm (Kd.S_elder' (zg_11 Zj.out) (Kd.R_base c2) hb); have X := zm (Kd.R_elder' (zg_6 Zi.out) (Kd.R_base c2) hb); have Y := zm (Kd.R_lower (Kd.R_new' (Kd.R_new' (Kd.R_new' (Kd.R_newM (M := fun k_ => ((b k_ ∨ c k_ ∨ d k_ ∨ j k_) ∨ w.heap.size ≤ k_)) c2 (by first | exact HK.out.1 | exact (show Kept w _ (fun k_ => b k_ ∨ c k_ ∨ d k_ ∨ j k_) from zg_14 HK.out Zk.out Zm.out).1) (fun k_ h_ => .inr h_)) (Kd.R_lt (zg_6 Zg.out))) (Kd.R_lt (zg_6 Zh.out))) (Kd.R_lt (zg_6 Zi.out))) (below_size (zg_5 HB.out Zl.out Zn.out))); have Z := zm (blk_below (g := q) (o := .cells #[.slice b5 E.length b6, .slice b7 F.length b8, .slice a8 x.length a9, .slice b9 G.length c0] 26 (0, 0)) (zg_3 Zb.out) hb); have a5 := zm (blk_below (g := O) (o := .cells #[.slice none 0 0, .slice none 0 0, .slice none 0 0, .slice none 0 0] 26 (0, 0)) (zg_3 Zc.out) hb); have a6 := zm (Kept.below (S := (fun k_ => b k_ ∨ c k_ ∨ d k_ ∨ j k_)) (zg_14 HK.out Zk.out Zm.out) hb); have a7 := zm (below_step (zg_5 HB.out Zl.out Zn.out) hb); replace Zg := T; replace Zh := U; replace Zj := V; replace Zi := X; have Zs := Y; replace Zb := Z; replace Zc := a5; replace HK := a6; replace HB := a7; clear T U V X Y Z a5 a6 a7; (try clear hb); (try clear hb2); (try clear hk); (try clear hi); (try clear c2); (try clear HKF)))
 go_loopg [6] k (fun kq v6 w' => ∃ (m : List Int) (l : Int) (a : List Int) (z : List Int) (A : List Int) (B : Value) (s : Value) (u : Value), v6 = .int .i64 l ∧ Aside0 (spec_l10Raise.l0 kq m l a z x A = some (r1, r2, r3, r4)) ∧ Aside0 (kq ≤ k) ∧ Aside0 (Kd.R (Kd.int .i64) 3 w' D.heap.size (fun k_ => ((b k_ ∨ c k_ ∨ d k_ ∨ j k_) ∨ w.heap.size ≤ k_) ∧ some k_ ≠ (B : Value).ownBlock ∧ some k_ ≠ (s : Value).ownBlock ∧ some k_ ≠ (u : Value).ownBlock) b4 m) ∧ Aside0 (Kd.R (Kd.int .i64) 3 w' D.heap.size (fun k_ => ((b k_ ∨ c k_ ∨ d k_ ∨ j k_) ∨ w.heap.size ≤ k_) ∧ some k_ ≠ (b4 : Value).ownBlock ∧ some k_ ≠ (s : Value).ownBlock ∧ some k_ ≠ (u : Value).ownBlock) B a) ∧ Aside0 (Kd.R (Kd.int .i64) 3 w' D.heap.size (fun k_ => ((b k_ ∨ c k_ ∨ d k_ ∨ j k_) ∨ w.heap.size ≤ k_) ∧ some k_ ≠ (b4 : Value).ownBlock ∧ some k_ ≠ (B : Value).ownBlock ∧ some k_ ≠ (u : Value).ownBlock) s z) ∧ Aside0 (Kd.S k66 66 w' D.heap.size (fun k_ => ((b k_ ∨ c k_ ∨ d k_ ∨ j k_) ∨ w.heap.size ≤ k_) ∧ some k_ ≠ (b4 : Value).ownBlock ∧ some k_ ≠ (B : Value).ownBlock ∧ some k_ ≠ (s : Value).ownBlock ∧ some k_ ≠ (u : Value).ownBlock) (.slice a8 x.length a9) x) ∧ Aside0 (Kd.R (Kd.int .i64) 3 w' D.heap.size (fun k_ => ((b k_ ∨ c k_ ∨ d k_ ∨ j k_) ∨ w.heap.size ≤ k_) ∧ some k_ ≠ (b4 : Value).ownBlock ∧ some k_ ≠ (B : Value).ownBlock ∧ some k_ ≠ (s : Value).ownBlock) u A) ∧ Aside0 (w'.heap[q]? = some (.cells #[B, s, (.slice a8 x.length a9), u] 26 (0, 0))) ∧ Aside0 (w'.heap[O]? = some (.cells #[(.slice none 0 0), (.slice none 0 0), (.slice none 0 0), (.slice none 0 0)] 26 (0, 0))) ∧ Aside0 (Kept w w' (fun k_ => b k_ ∨ c k_ ∨ d k_ ∨ j k_)) ∧ Aside0 (Below D.heap.size D w'))
 case atStart => exact ⟨(c5), (0), (E), (F), (G), (.slice b5 E.length b6), (.slice b7 F.length b8), (.slice b9 G.length c0), zr, H', ⟨Nat.le_refl _⟩, ⟨by (with_reducible repeat (first | apply Kd.R_alloc | apply Kd.R_drewN | apply Kd.R_drew)); exact Kd.R_mono Zs.out (fun _ hk => ⟨hk.1.1.1.1, ⟨hk.1.1.2, ⟨hk.1.2, hk.2⟩⟩⟩)⟩, ⟨by (with_reducible repeat (first | apply Kd.R_alloc | apply Kd.R_drewN | apply Kd.R_drew)); exact Kd.R_mono Zg.out (fun _ hk => ⟨hk.1.1, ⟨hk.2, ⟨hk.1.2.1, hk.1.2.2⟩⟩⟩)⟩, ⟨by (with_reducible repeat (first | apply Kd.R_alloc | apply Kd.R_drewN | apply Kd.R_drew)); exact Kd.R_mono Zh.out (fun _ hk => ⟨hk.1.1, ⟨hk.2, ⟨hk.1.2.1, hk.1.2.2⟩⟩⟩)⟩, ⟨by (with_reducible repeat (first | apply Kd.S_alloc | apply Kd.S_drewN | apply Kd.S_drew)); exact Kd.S_mono Zj.out (fun _ hk => ⟨hk.1.1, ⟨hk.2, ⟨hk.1.2.1, ⟨hk.1.2.2.1, hk.1.2.2.2⟩⟩⟩⟩)⟩, ⟨by (with_reducible repeat (first | apply Kd.R_alloc | apply Kd.R_drewN | apply Kd.R_drew)); exact Kd.R_mono Zi.out (fun _ hk => ⟨hk.1.1, ⟨hk.2, ⟨hk.1.2.1, hk.1.2.2⟩⟩⟩)⟩, ⟨zl Zb.out⟩, ⟨zl Zc.out⟩, ⟨zg_14 HK.out Zk.out Zm.out⟩, ⟨zg_5 HB.out Zl.out Zn.out⟩⟩
 case round =>
  clear H'
  try clear c1
  try clear p2
  try clear c4
  try clear c6
  obtain ⟨m, l, a, z, A, B, s, u, rfl, HA, h4, Zo, Za, Zd, Zf, Ze, Zb, Zc, HK, HB⟩ := hrel
  cases gk with
  | zero => exact absurd HA.out (by simp [spec_l10Raise.l0])
  | succ k1 =>
   have H := HA.out; clear HA
   simp only [spec_l10Raise.l0] at H
   by_cases c3 : l < (m.length : Int)
   rotate_left
   ·rw [if_neg c3] at H
    have g3 := decide_eq_false c3; clear c3
    simp only [Option.some.injEq, Prod.mk.injEq] at H
    obtain ⟨rfl, rfl, rfl, rfl⟩ := H
    obtain ⟨k4, k5, h6⟩ := Kd.R_slice Zo.out
    subst h6; have j5 := Zp.out; have j6 := Zq.out
    obtain ⟨_, _, _, _, _, _, _, _⟩ := zb4 Zb.out
    obtain ⟨h7, h8, h9⟩ := Kd.R_slice Za.out
    subst h9
    obtain ⟨_, _, _, _, _, _, _, _⟩ := zb4 Zc.out
    obtain ⟨i0, i1, i2⟩ := Kd.R_slice Zd.out
    subst i2
    obtain ⟨i3, i4, i5⟩ := Kd.R_slice Ze.out
    subst i5
    go_wp2
    refine bodyPost_ret (results_cell_row rfl _ _ O 26 #[.slice h7 a.length h8, .slice i0 z.length i1, .slice a8 x.length a9, .slice i3 A.length i4] (0, 0) _ rfl (by exact zput4 Zc.out) Tryz.underlying26 rfl (by kernel_rfl)) rfl ?_
    exact ⟨_, _, _, _, ze, Kd.R_mono (zR4 (Kd.R_types Za.out Zc.out (by decide))) (fun _ hk => ⟨hk.1.1, ⟨hk.1.2.2.1, hk.1.2.2.2⟩⟩), Kd.R_mono (zR4 (Kd.R_types Zd.out Zc.out (by decide))) (fun _ hk => ⟨hk.1.1, ⟨hk.1.2.2.1, hk.1.2.2.2⟩⟩), Kd.S_mono (zS4 (Kd.S_types Zf.out Zc.out (by decide))) (fun _ hk => ⟨hk.1.1, ⟨hk.1.2.2.1, ⟨hk.1.2.2.2.1, hk.1.2.2.2.2⟩⟩⟩), Kd.R_mono (zR4 (Kd.R_types Ze.out Zc.out (by decide))) (fun _ hk => ⟨hk.1.1, ⟨hk.1.2.2.1, hk.1.2.2.2⟩⟩), zg_5 HB.out Zl.out Zn.out, zg_14 HK.out Zk.out Zm.out⟩
   rw [if_pos c3] at H; have g3 := decide_eq_true c3; clear c3
   by_cases e5 : 0 ≤ l
   rotate_left
   ·rw [if_neg e5] at H
    exact absurd H (by simp)
   rw [if_pos e5] at H; have j7 := decide_eq_true e5; clear e5
   by_cases e6 : 0 ≤ (rd m l)
   rotate_left
   ·rw [if_neg e6] at H
    exact absurd H (by simp)
   rw [if_pos e6] at H; have j8 := decide_eq_true e6; clear e6
   by_cases e7 : (rd m l) < (a.length : Int)
   rotate_left
   ·rw [if_neg e7] at H
    exact absurd H (by simp)
   rw [if_pos e7] at H; have j9 := decide_eq_true e7; clear e7
   obtain ⟨f4, c7⟩ : ∃ y_ : List Int, y_ = (a.set ((rd m l) : Int).toNat (wrap64 ((rd a (rd m l)) + 1))) := ⟨_, rfl⟩
   replace H : (spec_l10Raise.l0 k1 m (wrap64 (l + 1)) f4 z x A) = some (r1, r2, r3, r4) := zy H c7
   have g4 := zm c7; clear c7
   have H' := zm H
   clear H
   obtain ⟨k6, k7, i6⟩ := Kd.R_slice Zo.out
   subst i6
   try go_wp2
   have T := zm (Kd.R_drew Zo.out); have U := zm (Kd.R_drew Za.out); have V := zm (Kd.R_drew Zd.out); have X := zm (Kd.S_drew Zf.out); have Y := zm (Kd.R_drew Ze.out); have Z := zm (blk_drew Zb.out); have a5 := zm (blk_drew Zc.out); have a6 := zm (Kept.drew HK.out); have a7 := zm (below_drew1 HB.out); clear Zo; clear Za; clear Zd; clear Zf; clear Ze; clear Zb; clear Zc; clear HK; clear HB; have Zo := T; have Za := U; have Zd := V; have Zf := X; have Ze := Y; have Zb := Z; have Zc := a5; have HK := a6; have HB := a7; clear T U V X Y Z a5 a6 a7
   have e1 : 0 ≤ (l : Int) := zd
   have e2 : l < (m.length : Int) := zd
   obtain ⟨g5, i7, hx193_0⟩ := Kd.at_int (Kd.R_reads' Zo.out).2.2 l e1 e2
   cases i7; replace e1 := eq_true e1; replace e2 := eq_true e2
   obtain ⟨k8, f5, f6⟩ := Kd.R_slice Za.out
   (first | subst f6 | (injection f6 with f1_ f2_ f3_; have f4_ := f1_.symm; have f5_ := f3_.symm; clear f1_ f2_ f3_; subst f4_; subst f5_))
   have e3 : 0 ≤ ((rd m l) : Int) := zd
   have e4 : (rd m l) < (a.length : Int) := zd
   obtain ⟨k0, i8, hx194_0⟩ := Kd.at_int (Kd.R_reads' Za.out).2.2 (rd m l) e3 e4
   cases i8; replace e3 := eq_true e3; replace e4 := eq_true e4
   have f7 : 0 ≤ ((rd m l) : Int) := zd
   have f8 : ((rd m l) : Int) < ((a.length : Int) : Int) := zd
   obtain ⟨y, k9, f9, g0, gl15, cl15, HG15⟩ := Kd.R_form Za.out (by omega)
   (first | cases f9 | (injection f9 with ea_ en_ ec_; (first | subst ea_ | (injection ea_ with ea_; subst ea_)); subst ec_; clear en_))
   have GB15 := zm g0; have Zu := zm HG15; clear g0 gl15 HG15; have HMgo15 := zm (show ((b y ∨ c y ∨ d y ∨ j y) ∨ w.heap.size ≤ y) from (Za.out.1 _ rfl).1)
   (first | simp only [add_plain] at hx194_0 | skip)
   obtain ⟨hx15_0, hf15_0⟩ := Kd.R_celln 0 Za.out ((rd m l) : Int) f7 f8
   replace f7 := eq_true f7; replace f8 := eq_true f8; have Zr := Kd.R_putn Za.out ((rd m l) : Int) (wrap64 ((rd a (rd m l)) + 1))
   rw [← g4.out] at Zr
   have Zt := zm Zr; clear Zr
   refine start_ (n := 11) (S := fun w' => w'.cell? ⟨q, 0, none⟩ = some (.slice (some ⟨y, 0, none⟩) a.length f5) ∧ w'.cell? ⟨q, 1, none⟩ = some (s) ∧ w'.cell? ⟨q, 2, none⟩ = some (.slice a8 x.length a9) ∧ w'.cell? ⟨q, 3, none⟩ = some (u) ∧ w'.cell? (g5.add (l).toNat) = some (.int .i64 (rd m l)) ∧ w'.cell? ⟨y, ((rd m l)).toNat, none⟩ = some (.int .i64 (rd a (rd m l)))) (ds := [10]) #[ff, ff, ff, ff, ff, ff, ff, ff, ff, ff, ff] (by kernel_rfl) rfl rfl ⟨(blk_cell Zb.out 0).trans rfl, (blk_cell Zb.out 1).trans rfl, (blk_cell Zb.out 2).trans rfl, (blk_cell Zb.out 3).trans rfl, hx193_0, hx194_0⟩ (fun hHeld => ?_); refine with_tabW spec_l10Raise.tab5 spec_l10Raise.bits5 (fun HT_ HW_ => ?_)
   generalize wr.drew = l4 at Zo Za Zd Zf Ze Zb Zc HK HB Zu Zt hf15_0 hx15_0 hx193_0 hx194_0 hHeld ⊢
   refine pure_ (i := 0) (N := some 15) (v := ?_) (a' := ?_) #[tt, ff, ff, ff, ff, ff, ff, ff, ff, ff, ff] rfl rfl (any_of HT_.out (by kernel_rfl)) (fun _ _ _ h => h) (Or.inl ⟨by rfl, ?_⟩) ?_ ?_
   rotate_left
   ·intro w'
    go_simp
    with_reducible rfl
   rotate_left
   ·simp only [Act.put, zs, zz, zt, i64_w, i32_w]
    rfl
   refine pure_ (i := 2) (N := some 17) (v := ?_) (a' := ?_) #[tt, ff, tt, ff, ff, ff, ff, ff, ff, ff, ff] rfl rfl (any_of HT_.out (by kernel_rfl)) (fun _ _ _ h => h) (Or.inl ⟨by rfl, ?_⟩) ?_ ?_
   rotate_left
   ·intro w'
    go_simp
    with_reducible rfl
   rotate_left
   ·simp only [Act.put, zs, zz, zt, i64_w, i32_w]
    rfl
   refine pure_ (i := 3) (N := some 18) (v := ?_) (a' := ?_) #[tt, ff, tt, tt, ff, ff, ff, ff, ff, ff, ff] rfl rfl (any_of HT_.out (by kernel_rfl)) (fun _ _ _ h => h) (Or.inl ⟨by rfl, ?_⟩) ?_ ?_
   rotate_left
   ·intro w'
    go_simp
    with_reducible rfl
   rotate_left
   ·simp only [Act.put, zs, zz, zt, i64_w, i32_w]
    rfl
   refine pure_ (i := 4) (N := some 19) (v := ?_) (a' := ?_) #[tt, ff, tt, tt, tt, ff, ff, ff, ff, ff, ff] rfl rfl (any_of HT_.out (by kernel_rfl)) (fun _ _ _ h => h) (Or.inl ⟨by rfl, ?_⟩) ?_ ?_
   rotate_left
   ·intro w'
    go_simp
    with_reducible rfl
   rotate_left
   ·simp only [Act.put, zs, zz, zt, i64_w, i32_w]
    rfl
   refine take_ (i := 1) (N := some 16) (v := ?_) (a' := ?_) #[tt, tt, tt, tt, tt, ff, ff, ff, ff, ff, ff] rfl rfl (take_ofW HT_.out HW_.out (by kernel_rfl)) (fun _ _ _ h => h) (Or.inl ⟨by rfl, ?_⟩) hHeld ?_ ?_
   rotate_left
   ·rintro w' ⟨s0, s1, s2, s3, s4, s5⟩
    go_simp
    with_reducible rfl
   rotate_left
   ·simp only [Act.put, zs, zz, zt, i64_w, i32_w]
    rfl
   refine take_ (i := 5) (N := some 20) (v := ?_) (a' := ?_) #[tt, tt, tt, tt, tt, tt, ff, ff, ff, ff, ff] rfl rfl (take_ofW HT_.out HW_.out (by kernel_rfl)) (fun _ _ _ h => h) (Or.inl ⟨by rfl, ?_⟩) hHeld ?_ ?_
   rotate_left
   ·rintro w' ⟨s0, s1, s2, s3, s4, s5⟩
    go_simp
    with_reducible rfl
   rotate_left
   ·simp only [Act.put, zs, zz, zt, i64_w, i32_w]
    rfl
   refine pure_ (i := 6) (N := some 21) (v := ?_) (a' := ?_) #[tt, tt, tt, tt, tt, tt, tt, ff, ff, ff, ff] rfl rfl (any_of HT_.out (by kernel_rfl)) (fun _ _ _ h => h) (Or.inl ⟨by rfl, ?_⟩) ?_ ?_
   rotate_left
   ·intro w'
    go_simp
    with_reducible rfl
   rotate_left
   ·simp only [Act.put, zs, zz, zt, i64_w, i32_w]
    rfl
   refine take_ (i := 7) (N := some 22) (v := ?_) (a' := ?_) #[tt, tt, tt, tt, tt, tt, tt, tt, ff, ff, ff] rfl rfl (take_ofW HT_.out HW_.out (by kernel_rfl)) (fun _ _ _ h => h) (Or.inl ⟨by rfl, ?_⟩) hHeld ?_ ?_
   rotate_left
   ·rintro w' ⟨s0, s1, s2, s3, s4, s5⟩
    go_simp
    with_reducible rfl
   rotate_left
   ·simp only [Act.put, zs, zz, zt, i64_w, i32_w]
    rfl
   refine pure_ (i := 8) (N := some 23) (v := ?_) (a' := ?_) #[tt, tt, tt, tt, tt, tt, tt, tt, tt, ff, ff] rfl rfl (any_of HT_.out (by kernel_rfl)) (fun _ _ _ h => h) (Or.inl ⟨by rfl, ?_⟩) ?_ ?_
   rotate_left
   ·intro w'
    go_simp
    with_reducible rfl
   rotate_left
   ·simp only [Act.put, zs, zz, zt, i64_w, i32_w]
    rfl
   refine pure_ (i := 9) (N := some 24) (v := ?_) (a' := ?_) #[tt, tt, tt, tt, tt, tt, tt, tt, tt, tt, ff] rfl rfl (any_of HT_.out (by kernel_rfl)) (fun _ _ _ h => h) (Or.inl ⟨by rfl, ?_⟩) ?_ ?_
   rotate_left
   ·intro w'
    go_simp
    with_reducible rfl
   rotate_left
   ·simp only [Act.put, zs, zz, zt, i64_w, i32_w]
    rfl
   refine last_ (i := 10) (N := none) #[tt, tt, tt, tt, tt, tt, tt, tt, tt, tt, tt] rfl rfl (one_of HT_.out (by kernel_rfl)) (by decide) (fun K hK => ?_)
   refine skip_ (w1 := ?_) (by rfl) rfl ?_ ?_
   rotate_left
   ·go_simp
    rfl
   refine hK.out _ _ ?_
   clear hK K
   refine done_ (done_of HT_.out (by kernel_rfl)) ?_
   try go_wp2
   go_roundg k1
   case measure => have := h4.out; omega
   case rel => exact ⟨(m), (wrap64 (l + 1)), (f4), (z), (A), (.slice (some ⟨y, 0, none⟩) a.length f5), (s), (u), zr, H', ⟨by have := h4.out; omega⟩, ⟨by (with_reducible repeat (first | apply Kd.R_alloc | apply Kd.R_drewN | apply Kd.R_drew)); exact Kd.R_mono (Kd.R_far (p := ⟨y, ((rd m l) : Int).toNat, none⟩) (Kd.R_mono Zo.out (fun k_ hk => (⟨hk, fun e_ => hk.2.1 (by rw [e_]; rfl)⟩ : _ ∧ k_ ≠ y))) (fun _ hk => hk.2) (.int .i64 (wrap64 ((rd a (rd m l)) + 1)))) (fun _ hk => ⟨hk.1.1, ⟨hk.1.2.1, ⟨hk.1.2.2.1, hk.1.2.2.2⟩⟩⟩)⟩, ⟨zlR Zt.out⟩, ⟨by (with_reducible repeat (first | apply Kd.R_alloc | apply Kd.R_drewN | apply Kd.R_drew)); exact Kd.R_mono (Kd.R_far (p := ⟨y, ((rd m l) : Int).toNat, none⟩) (Kd.R_mono Zd.out (fun k_ hk => (⟨hk, fun e_ => hk.2.2.1 (by rw [e_]; rfl)⟩ : _ ∧ k_ ≠ y))) (fun _ hk => hk.2) (.int .i64 (wrap64 ((rd a (rd m l)) + 1)))) (fun _ hk => ⟨hk.1.1, ⟨hk.1.2.1, ⟨hk.1.2.2.1, hk.1.2.2.2⟩⟩⟩)⟩, ⟨by (with_reducible repeat (first | apply Kd.S_alloc | apply Kd.S_drewN | apply Kd.S_drew)); exact Kd.S_mono (Kd.S_far (p := ⟨y, ((rd m l) : Int).toNat, none⟩) (Kd.S_mono Zf.out (fun k_ hk => (⟨hk, fun e_ => hk.2.2.1 (by rw [e_]; rfl)⟩ : _ ∧ k_ ≠ y))) (fun _ hk => hk.2) (.int .i64 (wrap64 ((rd a (rd m l)) + 1)))) (fun _ hk => ⟨hk.1.1, ⟨hk.1.2.1, ⟨hk.1.2.2.1, ⟨hk.1.2.2.2.1, hk.1.2.2.2.2⟩⟩⟩⟩)⟩, ⟨by (with_reducible repeat (first | apply Kd.R_alloc | apply Kd.R_drewN | apply Kd.R_drew)); exact Kd.R_mono (Kd.R_far (p := ⟨y, ((rd m l) : Int).toNat, none⟩) (Kd.R_mono Ze.out (fun k_ hk => (⟨hk, fun e_ => hk.2.2.1 (by rw [e_]; rfl)⟩ : _ ∧ k_ ≠ y))) (fun _ hk => hk.2) (.int .i64 (wrap64 ((rd a (rd m l)) + 1)))) (fun _ hk => ⟨hk.1.1, ⟨hk.1.2.1, ⟨hk.1.2.2.1, hk.1.2.2.2⟩⟩⟩)⟩, ⟨by (with_reducible repeat (first | refine blk_drewN ?_ _ | refine blk_drew ?_ | refine blk_alloc ?_ _)); refine blk_far ?_ (by have h_ := Kd.R_ne Za.out Zb.out (by decide); intro e_; exact h_ (by rw [e_]; rfl)) _; (with_reducible repeat (first | refine blk_drewN ?_ _ | refine blk_drew ?_ | refine blk_alloc ?_ _)); exact Zb.out⟩, ⟨by (with_reducible repeat (first | refine blk_drewN ?_ _ | refine blk_drew ?_ | refine blk_alloc ?_ _)); refine blk_far ?_ (by have h_ := Kd.R_ne Za.out Zc.out (by decide); intro e_; exact h_ (by rw [e_]; rfl)) _; (with_reducible repeat (first | refine blk_drewN ?_ _ | refine blk_drew ?_ | refine blk_alloc ?_ _)); exact Zc.out⟩, ⟨zg_15 HK.out HMgo15.out Zk.out Zm.out⟩, ⟨zg_10 HB.out GB15.out Zl.out Zn.out⟩⟩
end Go.Proofs.YtnibgibjfpbagaaGreat.Q
