/- What laws.FnCheck reaches, part 2: the functions as Lean functions, the proofs that the program's functions answer so, and plain laws about them. -/
import Derived.Test.YtnibgibjfpbagaaGreatKFnCheck1
namespace Go.Proofs.YtnibgibjfpbagaaGreat.Q
open Go.RowKit Go.Proofs.YtnibgibjfpbagaaGreat.Ext Go.Proofs.YtnibgibjfpbagaaGreatW.PrintWords Go.Proofs.YtnibgibjfpbagaaGreatW.PrintLast Go.Proofs.YtnibgibjfpbagaaGreatW.PrintMore
attribute [local go_sem] max2_int min2_int max_two min_two max_three min_three max_four min_four   -- for this text's walks alone
open Bool renaming true → tt, false → ff
set_option linter.unusedVariables false
set_option linter.unusedSimpArgs false

set_option linter.unusedVariables false
set_option linter.unusedSimpArgs false
def impl_Image_nearlyOK.f (k : Nat) (l0_0 : List Int) (l0_1 : List Int) (l0_2 : List (S66)) (l0_3 : List Int) : Option (Bool) := (impl_RefsOK.f l0_0).bind fun t658 => (if t658 = true then (if (l0_2.length : Int) ≤ 3 then ((impl_Image_names.f k l0_0 l0_1 l0_2 l0_3).bind fun t659 => ((impl_areNames.f k t659).bind fun t662 => (if t662 = true then ((impl_Image_tables.f k l0_0 l0_1 l0_2 l0_3).bind fun t663 => ((all35_impl_Image_nearlyOK_1.f k t663 ()).bind fun t666 => (if t666 = true then (if (l0_3.length : Int) = 24 then ((all40_impl_isNumber.f l0_3 ()).bind fun t667 => (some t667)) else (some false)) else (some false)))) else (some false)))) else (some false)) else (some false))
theorem impl_Image_nearlyOK.mono : ∀ a0 a1 a2 a3 k, LeO (impl_Image_nearlyOK.f k a0 a1 a2 a3) (impl_Image_nearlyOK.f (k + 1) a0 a1 a2 a3) := by
  intro a0 a1 a2 a3 k
  unfold impl_Image_nearlyOK.f
  repeat' first| (with_reducible first | exact all35_impl_Image_nearlyOK_1.mono _ _ _ | exact impl_Image_names.mono _ _ _ _ _ | exact impl_Image_tables.mono _ _ _ _ _ | exact impl_areNames.mono _ _ | exact LeO.refl _ | exact LeO.none _ | refine LeO.ite ?_ ?_ | refine LeO.bind ?_ (fun _ => ?_)) | exact LeO.none _ | refine LeO.ite ?_ ?_ | refine LeO.bind ?_ (fun _ => ?_)
set_option maxHeartbeats 8000000 in
set_option maxRecDepth 100000 in
theorem impl_Image_nearlyOK.calls (k : Nat) (n : Option Addr) (p : Nat) (c : List Int) (q : Option Addr) (s : Nat) (m : List Int) (u : Option Addr) (v : Nat) (j : List (S66)) (x : Option Addr) (y : Nat) (d : List Int) (r : Bool) (w : World) (L : Kd.C (Kd.int .i64) w n c.length c) (M : c.length ≤ p) (O : Kd.C (Kd.int .i64) w q m.length m) (R : m.length ≤ s) (S : Kd.C k66 w u j.length j) (T : j.length ≤ v) (U : Kd.C (Kd.int .i64) w x d.length d) (V : d.length ≤ y) (h : impl_Image_nearlyOK.f k c m j d = some r) :
    Calls Tryz.prog 15 #[.agg #[.slice n c.length p, .slice q m.length s, .slice u j.length v, .slice x d.length y]] w fun e w' => e = .returned (.bool r) ∧ Below w.heap.size w w' := by
 have hu26 := Tryz.underlying26; have Ze := zm L; have Zf := zm M; clear L M; have Zj := zm O; have Zk := zm R; clear O R; have Zl := zm S; have Zm := zm T; clear S T; have Zh := zm U; have Zi := zm V; clear U V; have HB := zm (Below.refl w.heap.size w); have H := h
 unfold impl_Image_nearlyOK.f at H
 clear h; replace H := Option.bind_eq_some_iff.mp H
 obtain ⟨b7, b2, H⟩ := H
 try dsimp only at H
 have Y := zm b2; clear b2
 by_cases c3 : b7 = true
 rotate_left
 ·replace c3 := Bool.eq_false_iff.mpr c3
  subst c3
  replace H : (some false) = some r := by rw [if_neg (show ¬ (false = true) by decide)] at H; exact H
  obtain rfl := Option.some.inj H
  go_enter Tryz.func15, Tryz.ntmps15
  go_wp2_with (first | ((with_reducible refine gate_dst (N := 1) rfl ?_); (try (refine gate_guard (by rfl) ?_; dsimp only)); refine box_event ?hg (N := 1) ?hd (cs := #[.slice n c.length p, .slice q m.length s, .slice u j.length v, .slice x d.length y]) (t := 26) ?hr ?_; (case hd => rfl); (case hg => rfl); (case hr => first | (go_simp; done) | (go_simp; rfl)); intro i hg e7 hbox hb; have a := zm (below_step (zg_1 HB.out) hb); have b := zm (hbox); have l := zm ((by rw [hg]; exact (below_size (zg_1 HB.out)) : w.heap.size ≤ i)); have z := zm ((by rw [hg]; exact (below_size (zg_1 HB.out)) : w.heap.size ≤ i)); replace HB := a; have Za := b; have Zg := l; have Zc := z; clear a b l z; clear hb hbox hg; obtain ⟨_, _, _, _, _, _, _, _⟩ := zb4 Za.out) | ((with_reducible refine gate_callee (f := 32) rfl ?_); refine goesL_ (some 5) rfl rfl Tryz.func32 (by kernel_rfl) rfl #[.slice n c.length p] rfl zq ?_; (with_reducible refine (impl_RefsOK.calls _ _ c false _ ?side1 ?side2 Y.out).mono ?_); (case side1 => exact zC (Kd.C_below Ze.out HB.out)); (case side2 => exact Zf.out); rintro e e8 ⟨rfl, hb⟩; refine ⟨_, rfl, ?_⟩; have a := zm (blk_below (g := i) (o := .cells #[.slice n c.length p, .slice q m.length s, .slice u j.length v, .slice x d.length y] 26 (0, 0)) (zg_3 Za.out) hb); have b := zm (below_step (zg_2 HB.out Zc.out) hb); replace Za := a; replace HB := b; clear a b; (try clear hb); (try clear hb2); (try clear hk); (try clear hi)))
  go_ret
  exact ⟨ze, zg_2 HB.out Zc.out⟩
 subst c3
 replace H : (if (j.length : Int) ≤ 3 then ((impl_Image_names.f k c m j d).bind fun B => ((impl_areNames.f k B).bind fun I => (if I = true then ((impl_Image_tables.f k c m j d).bind fun D => ((all35_impl_Image_nearlyOK_1.f k D ()).bind fun F => (if F = true then (if (d.length : Int) = 24 then ((all40_impl_isNumber.f d ()).bind fun E => (some E)) else (some false)) else (some false)))) else (some false)))) else (some false)) = some r := by rw [if_pos rfl] at H; exact H
 by_cases Z : (j.length : Int) ≤ 3
 rotate_left
 ·rw [if_neg Z] at H
  have b8 := decide_eq_false Z
  have b9 : decide (j.length ≤ 3) = false := decide_eq_false (by omega)
  clear Z; obtain rfl := Option.some.inj H
  go_enter Tryz.func15, Tryz.ntmps15
  go_wp2_with (first | ((with_reducible refine gate_dst (N := 1) rfl ?_); (try (refine gate_guard (by rfl) ?_; dsimp only)); refine box_event ?hg (N := 1) ?hd (cs := #[.slice n c.length p, .slice q m.length s, .slice u j.length v, .slice x d.length y]) (t := 26) ?hr ?_; (case hd => rfl); (case hg => rfl); (case hr => first | (go_simp; done) | (go_simp; rfl)); intro i hg e9 hbox hb; have a := zm (below_step (zg_1 HB.out) hb); have b := zm (hbox); have l := zm ((by rw [hg]; exact (below_size (zg_1 HB.out)) : w.heap.size ≤ i)); have z := zm ((by rw [hg]; exact (below_size (zg_1 HB.out)) : w.heap.size ≤ i)); replace HB := a; have Za := b; have Zg := l; have Zc := z; clear a b l z; clear hb hbox hg; obtain ⟨_, _, _, _, _, _, _, _⟩ := zb4 Za.out) | ((with_reducible refine gate_callee (f := 32) rfl ?_); refine goesL_ (some 5) rfl rfl Tryz.func32 (by kernel_rfl) rfl #[.slice n c.length p] rfl zq ?_; (with_reducible refine (impl_RefsOK.calls _ _ c true _ ?side1 ?side2 Y.out).mono ?_); (case side1 => exact zC (Kd.C_below Ze.out HB.out)); (case side2 => exact Zf.out); rintro e f0 ⟨rfl, hb⟩; refine ⟨_, rfl, ?_⟩; have a := zm (blk_below (g := i) (o := .cells #[.slice n c.length p, .slice q m.length s, .slice u j.length v, .slice x d.length y] 26 (0, 0)) (zg_3 Za.out) hb); have b := zm (below_step (zg_2 HB.out Zc.out) hb); replace Za := a; replace HB := b; clear a b; (try clear hb); (try clear hb2); (try clear hk); (try clear hi); obtain ⟨_, _, _, _, _, _, _, _⟩ := zb4 Za.out))
  go_ret
  exact ⟨ze, zg_2 HB.out Zc.out⟩
 rw [if_pos Z] at H; have b8 := decide_eq_true Z
 have b9 : decide (j.length ≤ 3) = true := decide_eq_true (by omega)
 clear Z; replace H := Option.bind_eq_some_iff.mp H
 obtain ⟨B, b3, H⟩ := H
 try dsimp only at H
 have A5 := zm b3; clear b3; replace H := Option.bind_eq_some_iff.mp H
 obtain ⟨I, b4, H⟩ := H
 try dsimp only at H
 have A6 := zm b4; clear b4
 by_cases c7 : I = true
 rotate_left
 ·replace c7 := Bool.eq_false_iff.mpr c7
  subst c7
  replace H : (some false) = some r := by rw [if_neg (show ¬ (false = true) by decide)] at H; exact H
  obtain rfl := Option.some.inj H
  go_enter Tryz.func15, Tryz.ntmps15
  go_wp2_with (first | ((with_reducible refine gate_dst (N := 1) rfl ?_); (try (refine gate_guard (by rfl) ?_; dsimp only)); refine box_event ?hg (N := 1) ?hd (cs := #[.slice n c.length p, .slice q m.length s, .slice u j.length v, .slice x d.length y]) (t := 26) ?hr ?_; (case hd => rfl); (case hg => rfl); (case hr => first | (go_simp; done) | (go_simp; rfl)); intro i hg f1 hbox hb; have a := zm (below_step (zg_1 HB.out) hb); have b := zm (hbox); have l := zm ((by rw [hg]; exact (below_size (zg_1 HB.out)) : w.heap.size ≤ i)); have z := zm ((by rw [hg]; exact (below_size (zg_1 HB.out)) : w.heap.size ≤ i)); replace HB := a; have Za := b; have Zg := l; have Zc := z; clear a b l z; clear hb hbox hg; obtain ⟨_, _, _, _, _, _, _, _⟩ := zb4 Za.out) | ((with_reducible refine gate_callee (f := 32) rfl ?_); refine goesL_ (some 5) rfl rfl Tryz.func32 (by kernel_rfl) rfl #[.slice n c.length p] rfl zq ?_; (with_reducible refine (impl_RefsOK.calls _ _ c true _ ?side1 ?side2 Y.out).mono ?_); (case side1 => exact zC (Kd.C_below Ze.out HB.out)); (case side2 => exact Zf.out); rintro e f2 ⟨rfl, hb⟩; refine ⟨_, rfl, ?_⟩; have a := zm (blk_below (g := i) (o := .cells #[.slice n c.length p, .slice q m.length s, .slice u j.length v, .slice x d.length y] 26 (0, 0)) (zg_3 Za.out) hb); have b := zm (below_step (zg_2 HB.out Zc.out) hb); replace Za := a; replace HB := b; clear a b; (try clear hb); (try clear hb2); (try clear hk); (try clear hi); obtain ⟨_, _, _, _, _, _, _, _⟩ := zb4 Za.out) | (go_at_call 34; (with_reducible refine (impl_Image_names.calls k _ _ c _ _ m _ _ j _ _ d B _ ?side1 ?side2 ?side3 ?side4 ?side5 ?side6 ?side7 ?side8 A5.out).mono ?_); (case side1 => exact zC (Kd.C_below Ze.out HB.out)); (case side2 => exact Zf.out); (case side3 => exact zC (Kd.C_below Zj.out HB.out)); (case side4 => exact Zk.out); (case side5 => exact zC (Kd.C_below Zl.out HB.out)); (case side6 => exact Zm.out); (case side7 => exact zC (Kd.C_below Zh.out HB.out)); (case side8 => exact Zi.out); rintro e f3 ⟨J, rfl, A, hb⟩; have a := zm (Kd.R_lower A (below_size (zg_2 HB.out Zc.out))); have b := zm (blk_below (g := i) (o := .cells #[.slice n c.length p, .slice q m.length s, .slice u j.length v, .slice x d.length y] 26 (0, 0)) (zg_3 Za.out) hb); have l := zm (below_step (zg_2 HB.out Zc.out) hb); have Zb := a; replace Za := b; replace HB := l; clear a b l; (try clear hb); (try clear hb2); (try clear hk); (try clear hi); (try clear A); obtain ⟨d9, e0, c0⟩ := Kd.R_slice Zb.out; subst c0) | (go_at_call 33; (with_reducible refine (impl_areNames.calls k _ _ B false _ ?side1 ?side2 A6.out).mono ?_); (case side1 => exact zC ((Kd.R_reads' Zb.out).2.2)); (case side2 => exact (Kd.R_reads' Zb.out).2.1); rintro e f4 ⟨rfl, hb⟩; have a := zm (Kd.R_below (zg_6 Zb.out) hb); have b := zm (blk_below (g := i) (o := .cells #[.slice n c.length p, .slice q m.length s, .slice u j.length v, .slice x d.length y] 26 (0, 0)) (zg_3 Za.out) hb); have l := zm (below_step (zg_2 HB.out Zc.out) hb); replace Zb := a; replace Za := b; replace HB := l; clear a b l; (try clear hb); (try clear hb2); (try clear hk); (try clear hi)))
  go_ret
  exact ⟨ze, zg_2 HB.out Zc.out⟩
 subst c7
 replace H : ((impl_Image_tables.f k c m j d).bind fun D => ((all35_impl_Image_nearlyOK_1.f k D ()).bind fun F => (if F = true then (if (d.length : Int) = 24 then ((all40_impl_isNumber.f d ()).bind fun E => (some E)) else (some false)) else (some false)))) = some r := by rw [if_pos rfl] at H; exact H
 replace H := Option.bind_eq_some_iff.mp H
 obtain ⟨D, b5, H⟩ := H
 try dsimp only at H
 have A8 := zm b5; clear b5; replace H := Option.bind_eq_some_iff.mp H
 obtain ⟨F, b6, H⟩ := H
 try dsimp only at H
 have A9 := zm b6; clear b6
 by_cases X : F = true
 rotate_left
 ·replace X := Bool.eq_false_iff.mpr X
  subst X
  replace H : (some false) = some r := by rw [if_neg (show ¬ (false = true) by decide)] at H; exact H
  obtain rfl := Option.some.inj H
  go_enter Tryz.func15, Tryz.ntmps15
  go_wp2_with (first | ((with_reducible refine gate_dst (N := 1) rfl ?_); (try (refine gate_guard (by rfl) ?_; dsimp only)); refine box_event ?hg (N := 1) ?hd (cs := #[.slice n c.length p, .slice q m.length s, .slice u j.length v, .slice x d.length y]) (t := 26) ?hr ?_; (case hd => rfl); (case hg => rfl); (case hr => first | (go_simp; done) | (go_simp; rfl)); intro i hg f5 hbox hb; have a := zm (below_step (zg_1 HB.out) hb); have b := zm (hbox); have l := zm ((by rw [hg]; exact (below_size (zg_1 HB.out)) : w.heap.size ≤ i)); have z := zm ((by rw [hg]; exact (below_size (zg_1 HB.out)) : w.heap.size ≤ i)); replace HB := a; have Za := b; have Zg := l; have Zc := z; clear a b l z; clear hb hbox hg; obtain ⟨_, _, _, _, _, _, _, _⟩ := zb4 Za.out) | ((with_reducible refine gate_callee (f := 32) rfl ?_); refine goesL_ (some 5) rfl rfl Tryz.func32 (by kernel_rfl) rfl #[.slice n c.length p] rfl zq ?_; (with_reducible refine (impl_RefsOK.calls _ _ c true _ ?side1 ?side2 Y.out).mono ?_); (case side1 => exact zC (Kd.C_below Ze.out HB.out)); (case side2 => exact Zf.out); rintro e f6 ⟨rfl, hb⟩; refine ⟨_, rfl, ?_⟩; have a := zm (blk_below (g := i) (o := .cells #[.slice n c.length p, .slice q m.length s, .slice u j.length v, .slice x d.length y] 26 (0, 0)) (zg_3 Za.out) hb); have b := zm (below_step (zg_2 HB.out Zc.out) hb); replace Za := a; replace HB := b; clear a b; (try clear hb); (try clear hb2); (try clear hk); (try clear hi); obtain ⟨_, _, _, _, _, _, _, _⟩ := zb4 Za.out) | (go_at_call 34; (with_reducible refine (impl_Image_names.calls k _ _ c _ _ m _ _ j _ _ d B _ ?side1 ?side2 ?side3 ?side4 ?side5 ?side6 ?side7 ?side8 A5.out).mono ?_); (case side1 => exact zC (Kd.C_below Ze.out HB.out)); (case side2 => exact Zf.out); (case side3 => exact zC (Kd.C_below Zj.out HB.out)); (case side4 => exact Zk.out); (case side5 => exact zC (Kd.C_below Zl.out HB.out)); (case side6 => exact Zm.out); (case side7 => exact zC (Kd.C_below Zh.out HB.out)); (case side8 => exact Zi.out); rintro e f7 ⟨J, rfl, A, hb⟩; have a := zm (Kd.R_lower A (below_size (zg_2 HB.out Zc.out))); have b := zm (blk_below (g := i) (o := .cells #[.slice n c.length p, .slice q m.length s, .slice u j.length v, .slice x d.length y] 26 (0, 0)) (zg_3 Za.out) hb); have l := zm (below_step (zg_2 HB.out Zc.out) hb); have Zb := a; replace Za := b; replace HB := l; clear a b l; (try clear hb); (try clear hb2); (try clear hk); (try clear hi); (try clear A); obtain ⟨c5, c6, c8⟩ := Kd.R_slice Zb.out; subst c8) | (go_at_call 33; (with_reducible refine (impl_areNames.calls k _ _ B true _ ?side1 ?side2 A6.out).mono ?_); (case side1 => exact zC ((Kd.R_reads' Zb.out).2.2)); (case side2 => exact (Kd.R_reads' Zb.out).2.1); rintro e f8 ⟨rfl, hb⟩; have a := zm (Kd.R_below (zg_6 Zb.out) hb); have b := zm (blk_below (g := i) (o := .cells #[.slice n c.length p, .slice q m.length s, .slice u j.length v, .slice x d.length y] 26 (0, 0)) (zg_3 Za.out) hb); have l := zm (below_step (zg_2 HB.out Zc.out) hb); replace Zb := a; replace Za := b; replace HB := l; clear a b l; (try clear hb); (try clear hb2); (try clear hk); (try clear hi); obtain ⟨_, _, _, _, _, _, _, _⟩ := zb4 Za.out) | (go_at_call 36; (with_reducible refine (impl_Image_tables.calls k _ _ c (fun k_ => k_ < w.heap.size) _ _ m (fun k_ => k_ < w.heap.size) _ _ j _ _ d D _ ?side1 ?side2 ?side3 ?side4 ?side5 ?side6 A8.out).mono ?_); (case side1 => exact zC (Kd.C_below Ze.out HB.out)); (case side2 => exact Zf.out); (case side3 => exact Kd.V_mk Zk.out (Kd.F_below (Kd.C_F (Kd.heap_int .i64) Zj.out) (zg_2 HB.out Zc.out))); (case side4 => exact Kd.V_mk Zm.out (Kd.F_below (Kd.C_F k66_heap Zl.out) (zg_2 HB.out Zc.out))); (case side5 => exact zC (Kd.C_below Zh.out HB.out)); (case side6 => exact Zi.out); rintro e f9 ⟨a4, rfl, A, hb⟩; have a := zm (Kd.R_below (zg_6 Zb.out) hb); have b := zm (Kd.N_lower (Kd.N_mono (ok' := fun k_ => some k_ ≠ (.slice c5 B.length c6 : Value).ownBlock ∧ k_ ≠ i) A (fun k_ hk_ => ⟨Or.elim hk_ (fun hs_ => Or.elim hs_ (fun hs_ => fun e_ => Nat.not_le.2 hs_ (Kd.R_base Zb.out k_ e_.symm)) (fun hs_ => fun e_ => Nat.not_le.2 hs_ (Kd.R_base Zb.out k_ e_.symm))) (fun hn_ => (Kd.fresh' (Kd.R_lt (zg_6 Zb.out)) k_ hn_)), Or.elim hk_ (fun hs_ => Or.elim hs_ (fun hs_ => fun e_ => Nat.not_le.2 hs_ (by rw [e_]; exact Zg.out)) (fun hs_ => fun e_ => Nat.not_le.2 hs_ (by rw [e_]; exact Zg.out))) (fun hn_ => (Kd.freshB (g := i) (o := .cells #[.slice n c.length p, .slice q m.length s, .slice u j.length v, .slice x d.length y] 26 (0, 0)) (zg_3 Za.out) k_ hn_))⟩)) (below_size (zg_2 HB.out Zc.out))); have l := zm (blk_below (g := i) (o := .cells #[.slice n c.length p, .slice q m.length s, .slice u j.length v, .slice x d.length y] 26 (0, 0)) (zg_3 Za.out) hb); have z := zm (below_step (zg_2 HB.out Zc.out) hb); replace Zb := a; have Zd := b; replace Za := l; replace HB := z; clear a b l z; (try clear hb); (try clear hb2); (try clear hk); (try clear hi); (try clear A); obtain ⟨e1, e2, c9⟩ := Kd.N_slice Zd.out; subst c9) | (go_at_call 35; (with_reducible refine (all35_impl_Image_nearlyOK_1.calls k _ _ D () false _ ?side1 ?side2 A9.out).mono ?_); (case side1 => exact zC ((Kd.N_reads' Zd.out).2.2)); (case side2 => exact (Kd.N_reads' Zd.out).2.1); rintro e g0 ⟨rfl, hb⟩; have a := zm (Kd.R_below (zg_6 Zb.out) hb); have b := zm (Kd.N_below (zg_4 Zd.out) hb); have l := zm (blk_below (g := i) (o := .cells #[.slice n c.length p, .slice q m.length s, .slice u j.length v, .slice x d.length y] 26 (0, 0)) (zg_3 Za.out) hb); have z := zm (below_step (zg_2 HB.out Zc.out) hb); replace Zb := a; replace Zd := b; replace Za := l; replace HB := z; clear a b l z; (try clear hb); (try clear hb2); (try clear hk); (try clear hi)))
  go_ret
  exact ⟨ze, zg_2 HB.out Zc.out⟩
 subst X
 replace H : (if (d.length : Int) = 24 then ((all40_impl_isNumber.f d ()).bind fun E => (some E)) else (some false)) = some r := by rw [if_pos rfl] at H; exact H
 by_cases G : (d.length : Int) = 24
 rotate_left
 ·rw [if_neg G] at H
  have b0 : ((d.length : Int) == 24) = false := beq_eq_false_iff_ne.mpr G
  have b1 : ((d.length : Int) != 24) = true := bne_iff_ne.mpr G
  obtain rfl := Option.some.inj H
  go_enter Tryz.func15, Tryz.ntmps15
  go_wp2_with (first | ((with_reducible refine gate_dst (N := 1) rfl ?_); (try (refine gate_guard (by rfl) ?_; dsimp only)); refine box_event ?hg (N := 1) ?hd (cs := #[.slice n c.length p, .slice q m.length s, .slice u j.length v, .slice x d.length y]) (t := 26) ?hr ?_; (case hd => rfl); (case hg => rfl); (case hr => first | (go_simp; done) | (go_simp; rfl)); intro i hg g1 hbox hb; have a := zm (below_step (zg_1 HB.out) hb); have b := zm (hbox); have l := zm ((by rw [hg]; exact (below_size (zg_1 HB.out)) : w.heap.size ≤ i)); have z := zm ((by rw [hg]; exact (below_size (zg_1 HB.out)) : w.heap.size ≤ i)); replace HB := a; have Za := b; have Zg := l; have Zc := z; clear a b l z; clear hb hbox hg; obtain ⟨_, _, _, _, _, _, _, _⟩ := zb4 Za.out) | ((with_reducible refine gate_callee (f := 32) rfl ?_); refine goesL_ (some 5) rfl rfl Tryz.func32 (by kernel_rfl) rfl #[.slice n c.length p] rfl zq ?_; (with_reducible refine (impl_RefsOK.calls _ _ c true _ ?side1 ?side2 Y.out).mono ?_); (case side1 => exact zC (Kd.C_below Ze.out HB.out)); (case side2 => exact Zf.out); rintro e g2 ⟨rfl, hb⟩; refine ⟨_, rfl, ?_⟩; have a := zm (blk_below (g := i) (o := .cells #[.slice n c.length p, .slice q m.length s, .slice u j.length v, .slice x d.length y] 26 (0, 0)) (zg_3 Za.out) hb); have b := zm (below_step (zg_2 HB.out Zc.out) hb); replace Za := a; replace HB := b; clear a b; (try clear hb); (try clear hb2); (try clear hk); (try clear hi); obtain ⟨_, _, _, _, _, _, _, _⟩ := zb4 Za.out) | (go_at_call 34; (with_reducible refine (impl_Image_names.calls k _ _ c _ _ m _ _ j _ _ d B _ ?side1 ?side2 ?side3 ?side4 ?side5 ?side6 ?side7 ?side8 A5.out).mono ?_); (case side1 => exact zC (Kd.C_below Ze.out HB.out)); (case side2 => exact Zf.out); (case side3 => exact zC (Kd.C_below Zj.out HB.out)); (case side4 => exact Zk.out); (case side5 => exact zC (Kd.C_below Zl.out HB.out)); (case side6 => exact Zm.out); (case side7 => exact zC (Kd.C_below Zh.out HB.out)); (case side8 => exact Zi.out); rintro e g3 ⟨J, rfl, A, hb⟩; have a := zm (Kd.R_lower A (below_size (zg_2 HB.out Zc.out))); have b := zm (blk_below (g := i) (o := .cells #[.slice n c.length p, .slice q m.length s, .slice u j.length v, .slice x d.length y] 26 (0, 0)) (zg_3 Za.out) hb); have l := zm (below_step (zg_2 HB.out Zc.out) hb); have Zb := a; replace Za := b; replace HB := l; clear a b l; (try clear hb); (try clear hb2); (try clear hk); (try clear hi); (try clear A); obtain ⟨d0, d1, d2⟩ := Kd.R_slice Zb.out; subst d2) | (go_at_call 33; (with_reducible refine (impl_areNames.calls k _ _ B true _ ?side1 ?side2 A6.out).mono ?_); (case side1 => exact zC ((Kd.R_reads' Zb.out).2.2)); (case side2 => exact (Kd.R_reads' Zb.out).2.1); rintro e g4 ⟨rfl, hb⟩; have a := zm (Kd.R_below (zg_6 Zb.out) hb); have b := zm (blk_below (g := i) (o := .cells #[.slice n c.length p, .slice q m.length s, .slice u j.length v, .slice x d.length y] 26 (0, 0)) (zg_3 Za.out) hb); have l := zm (below_step (zg_2 HB.out Zc.out) hb); replace Zb := a; replace Za := b; replace HB := l; clear a b l; (try clear hb); (try clear hb2); (try clear hk); (try clear hi); obtain ⟨_, _, _, _, _, _, _, _⟩ := zb4 Za.out) | (go_at_call 36; (with_reducible refine (impl_Image_tables.calls k _ _ c (fun k_ => k_ < w.heap.size) _ _ m (fun k_ => k_ < w.heap.size) _ _ j _ _ d D _ ?side1 ?side2 ?side3 ?side4 ?side5 ?side6 A8.out).mono ?_); (case side1 => exact zC (Kd.C_below Ze.out HB.out)); (case side2 => exact Zf.out); (case side3 => exact Kd.V_mk Zk.out (Kd.F_below (Kd.C_F (Kd.heap_int .i64) Zj.out) (zg_2 HB.out Zc.out))); (case side4 => exact Kd.V_mk Zm.out (Kd.F_below (Kd.C_F k66_heap Zl.out) (zg_2 HB.out Zc.out))); (case side5 => exact zC (Kd.C_below Zh.out HB.out)); (case side6 => exact Zi.out); rintro e g5 ⟨a4, rfl, A, hb⟩; have a := zm (Kd.R_below (zg_6 Zb.out) hb); have b := zm (Kd.N_lower (Kd.N_mono (ok' := fun k_ => some k_ ≠ (.slice d0 B.length d1 : Value).ownBlock ∧ k_ ≠ i) A (fun k_ hk_ => ⟨Or.elim hk_ (fun hs_ => Or.elim hs_ (fun hs_ => fun e_ => Nat.not_le.2 hs_ (Kd.R_base Zb.out k_ e_.symm)) (fun hs_ => fun e_ => Nat.not_le.2 hs_ (Kd.R_base Zb.out k_ e_.symm))) (fun hn_ => (Kd.fresh' (Kd.R_lt (zg_6 Zb.out)) k_ hn_)), Or.elim hk_ (fun hs_ => Or.elim hs_ (fun hs_ => fun e_ => Nat.not_le.2 hs_ (by rw [e_]; exact Zg.out)) (fun hs_ => fun e_ => Nat.not_le.2 hs_ (by rw [e_]; exact Zg.out))) (fun hn_ => (Kd.freshB (g := i) (o := .cells #[.slice n c.length p, .slice q m.length s, .slice u j.length v, .slice x d.length y] 26 (0, 0)) (zg_3 Za.out) k_ hn_))⟩)) (below_size (zg_2 HB.out Zc.out))); have l := zm (blk_below (g := i) (o := .cells #[.slice n c.length p, .slice q m.length s, .slice u j.length v, .slice x d.length y] 26 (0, 0)) (zg_3 Za.out) hb); have z := zm (below_step (zg_2 HB.out Zc.out) hb); replace Zb := a; have Zd := b; replace Za := l; replace HB := z; clear a b l z; (try clear hb); (try clear hb2); (try clear hk); (try clear hi); (try clear A); obtain ⟨e3, e4, d3⟩ := Kd.N_slice Zd.out; subst d3) | (go_at_call 35; (with_reducible refine (all35_impl_Image_nearlyOK_1.calls k _ _ D () true _ ?side1 ?side2 A9.out).mono ?_); (case side1 => exact zC ((Kd.N_reads' Zd.out).2.2)); (case side2 => exact (Kd.N_reads' Zd.out).2.1); rintro e g6 ⟨rfl, hb⟩; have a := zm (Kd.R_below (zg_6 Zb.out) hb); have b := zm (Kd.N_below (zg_4 Zd.out) hb); have l := zm (blk_below (g := i) (o := .cells #[.slice n c.length p, .slice q m.length s, .slice u j.length v, .slice x d.length y] 26 (0, 0)) (zg_3 Za.out) hb); have z := zm (below_step (zg_2 HB.out Zc.out) hb); replace Zb := a; replace Zd := b; replace Za := l; replace HB := z; clear a b l z; (try clear hb); (try clear hb2); (try clear hk); (try clear hi); obtain ⟨_, _, _, _, _, _, _, _⟩ := zb4 Za.out))
  go_ret
  exact ⟨ze, zg_2 HB.out Zc.out⟩
 rw [if_pos G] at H
 have b0 : ((d.length : Int) == 24) = true := beq_iff_eq.mpr G
 have b1 : ((d.length : Int) != 24) = false := bne_eq_false_iff_eq.mpr G
 clear G; replace H := Option.bind_eq_some_iff.mp H
 obtain ⟨E, a5, H⟩ := H
 replace H : (some E) = some r := H
 have d8 := zm a5; clear a5; obtain rfl := Option.some.inj H
 go_enter Tryz.func15, Tryz.ntmps15
 go_wp2_with (first | ((with_reducible refine gate_dst (N := 1) rfl ?_); (try (refine gate_guard (by rfl) ?_; dsimp only)); refine box_event ?hg (N := 1) ?hd (cs := #[.slice n c.length p, .slice q m.length s, .slice u j.length v, .slice x d.length y]) (t := 26) ?hr ?_; (case hd => rfl); (case hg => rfl); (case hr => first | (go_simp; done) | (go_simp; rfl)); intro i hg g7 hbox hb; have a := zm (below_step (zg_1 HB.out) hb); have b := zm (hbox); have l := zm ((by rw [hg]; exact (below_size (zg_1 HB.out)) : w.heap.size ≤ i)); have z := zm ((by rw [hg]; exact (below_size (zg_1 HB.out)) : w.heap.size ≤ i)); replace HB := a; have Za := b; have Zg := l; have Zc := z; clear a b l z; clear hb hbox hg; obtain ⟨_, _, _, _, _, _, _, _⟩ := zb4 Za.out) | ((with_reducible refine gate_callee (f := 32) rfl ?_); refine goesL_ (some 5) rfl rfl Tryz.func32 (by kernel_rfl) rfl #[.slice n c.length p] rfl zq ?_; (with_reducible refine (impl_RefsOK.calls _ _ c true _ ?side1 ?side2 Y.out).mono ?_); (case side1 => exact zC (Kd.C_below Ze.out HB.out)); (case side2 => exact Zf.out); rintro e g8 ⟨rfl, hb⟩; refine ⟨_, rfl, ?_⟩; have a := zm (blk_below (g := i) (o := .cells #[.slice n c.length p, .slice q m.length s, .slice u j.length v, .slice x d.length y] 26 (0, 0)) (zg_3 Za.out) hb); have b := zm (below_step (zg_2 HB.out Zc.out) hb); replace Za := a; replace HB := b; clear a b; (try clear hb); (try clear hb2); (try clear hk); (try clear hi); obtain ⟨_, _, _, _, _, _, _, _⟩ := zb4 Za.out) | (go_at_call 34; (with_reducible refine (impl_Image_names.calls k _ _ c _ _ m _ _ j _ _ d B _ ?side1 ?side2 ?side3 ?side4 ?side5 ?side6 ?side7 ?side8 A5.out).mono ?_); (case side1 => exact zC (Kd.C_below Ze.out HB.out)); (case side2 => exact Zf.out); (case side3 => exact zC (Kd.C_below Zj.out HB.out)); (case side4 => exact Zk.out); (case side5 => exact zC (Kd.C_below Zl.out HB.out)); (case side6 => exact Zm.out); (case side7 => exact zC (Kd.C_below Zh.out HB.out)); (case side8 => exact Zi.out); rintro e g9 ⟨J, rfl, A, hb⟩; have a := zm (Kd.R_lower A (below_size (zg_2 HB.out Zc.out))); have b := zm (blk_below (g := i) (o := .cells #[.slice n c.length p, .slice q m.length s, .slice u j.length v, .slice x d.length y] 26 (0, 0)) (zg_3 Za.out) hb); have l := zm (below_step (zg_2 HB.out Zc.out) hb); have Zb := a; replace Za := b; replace HB := l; clear a b l; (try clear hb); (try clear hb2); (try clear hk); (try clear hi); (try clear A); obtain ⟨d4, d5, d6⟩ := Kd.R_slice Zb.out; subst d6) | (go_at_call 33; (with_reducible refine (impl_areNames.calls k _ _ B true _ ?side1 ?side2 A6.out).mono ?_); (case side1 => exact zC ((Kd.R_reads' Zb.out).2.2)); (case side2 => exact (Kd.R_reads' Zb.out).2.1); rintro e h0 ⟨rfl, hb⟩; have a := zm (Kd.R_below (zg_6 Zb.out) hb); have b := zm (blk_below (g := i) (o := .cells #[.slice n c.length p, .slice q m.length s, .slice u j.length v, .slice x d.length y] 26 (0, 0)) (zg_3 Za.out) hb); have l := zm (below_step (zg_2 HB.out Zc.out) hb); replace Zb := a; replace Za := b; replace HB := l; clear a b l; (try clear hb); (try clear hb2); (try clear hk); (try clear hi); obtain ⟨_, _, _, _, _, _, _, _⟩ := zb4 Za.out) | (go_at_call 36; (with_reducible refine (impl_Image_tables.calls k _ _ c (fun k_ => k_ < w.heap.size) _ _ m (fun k_ => k_ < w.heap.size) _ _ j _ _ d D _ ?side1 ?side2 ?side3 ?side4 ?side5 ?side6 A8.out).mono ?_); (case side1 => exact zC (Kd.C_below Ze.out HB.out)); (case side2 => exact Zf.out); (case side3 => exact Kd.V_mk Zk.out (Kd.F_below (Kd.C_F (Kd.heap_int .i64) Zj.out) (zg_2 HB.out Zc.out))); (case side4 => exact Kd.V_mk Zm.out (Kd.F_below (Kd.C_F k66_heap Zl.out) (zg_2 HB.out Zc.out))); (case side5 => exact zC (Kd.C_below Zh.out HB.out)); (case side6 => exact Zi.out); rintro e h1 ⟨a4, rfl, A, hb⟩; have a := zm (Kd.R_below (zg_6 Zb.out) hb); have b := zm (Kd.N_lower (Kd.N_mono (ok' := fun k_ => some k_ ≠ (.slice d4 B.length d5 : Value).ownBlock ∧ k_ ≠ i) A (fun k_ hk_ => ⟨Or.elim hk_ (fun hs_ => Or.elim hs_ (fun hs_ => fun e_ => Nat.not_le.2 hs_ (Kd.R_base Zb.out k_ e_.symm)) (fun hs_ => fun e_ => Nat.not_le.2 hs_ (Kd.R_base Zb.out k_ e_.symm))) (fun hn_ => (Kd.fresh' (Kd.R_lt (zg_6 Zb.out)) k_ hn_)), Or.elim hk_ (fun hs_ => Or.elim hs_ (fun hs_ => fun e_ => Nat.not_le.2 hs_ (by rw [e_]; exact Zg.out)) (fun hs_ => fun e_ => Nat.not_le.2 hs_ (by rw [e_]; exact Zg.out))) (fun hn_ => (Kd.freshB (g := i) (o := .cells #[.slice n c.length p, .slice q m.length s, .slice u j.length v, .slice x d.length y] 26 (0, 0)) (zg_3 Za.out) k_ hn_))⟩)) (below_size (zg_2 HB.out Zc.out))); have l := zm (blk_below (g := i) (o := .cells #[.slice n c.length p, .slice q m.length s, .slice u j.length v, .slice x d.length y] 26 (0, 0)) (zg_3 Za.out) hb); have z := zm (below_step (zg_2 HB.out Zc.out) hb); replace Zb := a; have Zd := b; replace Za := l; replace HB := z; clear a b l z; (try clear hb); (try clear hb2); (try clear hk); (try clear hi); (try clear A); obtain ⟨e5, e6, d7⟩ := Kd.N_slice Zd.out; subst d7) | (go_at_call 35; (with_reducible refine (all35_impl_Image_nearlyOK_1.calls k _ _ D () true _ ?side1 ?side2 A9.out).mono ?_); (case side1 => exact zC ((Kd.N_reads' Zd.out).2.2)); (case side2 => exact (Kd.N_reads' Zd.out).2.1); rintro e h2 ⟨rfl, hb⟩; have a := zm (Kd.R_below (zg_6 Zb.out) hb); have b := zm (Kd.N_below (zg_4 Zd.out) hb); have l := zm (blk_below (g := i) (o := .cells #[.slice n c.length p, .slice q m.length s, .slice u j.length v, .slice x d.length y] 26 (0, 0)) (zg_3 Za.out) hb); have z := zm (below_step (zg_2 HB.out Zc.out) hb); replace Zb := a; replace Zd := b; replace Za := l; replace HB := z; clear a b l z; (try clear hb); (try clear hb2); (try clear hk); (try clear hi); obtain ⟨_, _, _, _, _, _, _, _⟩ := zb4 Za.out) | (go_at_call 40; (with_reducible refine (all40_impl_isNumber.calls _ _ d () E _ ?side1 ?side2 d8.out).mono ?_); (case side1 => exact zC (Kd.C_below Zh.out HB.out)); (case side2 => exact Zi.out); rintro e h3 ⟨rfl, hb⟩; have a := zm (Kd.R_below (zg_6 Zb.out) hb); have b := zm (Kd.N_below (zg_4 Zd.out) hb); have l := zm (blk_below (g := i) (o := .cells #[.slice n c.length p, .slice q m.length s, .slice u j.length v, .slice x d.length y] 26 (0, 0)) (zg_3 Za.out) hb); have z := zm (below_step (zg_2 HB.out Zc.out) hb); replace Zb := a; replace Zd := b; replace Za := l; replace HB := z; clear a b l z; (try clear hb); (try clear hb2); (try clear hk); (try clear hi)))
 go_ret
 exact ⟨ze, zg_2 HB.out Zc.out⟩
def impl_CountRefs.f (k : Nat) (l0_0 : List Int) (l0_1 : List Int) (l0_2 : List (S66)) (l0_3 : List Int) : Option (List Int × Int) := (impl_Image_nearlyOK.f k l0_0 l0_1 l0_2 l0_3).bind fun t718 => (if t718 = true then ((impl_Image_counted.f k l0_0 l0_1 l0_2 l0_3).bind fun t719 => (some (t719, 0))) else (some (([] : List Int), 1)))
theorem impl_CountRefs.mono : ∀ a0 a1 a2 a3 k, LeO (impl_CountRefs.f k a0 a1 a2 a3) (impl_CountRefs.f (k + 1) a0 a1 a2 a3) := by
  intro a0 a1 a2 a3 k
  unfold impl_CountRefs.f
  repeat' first| (with_reducible first | exact impl_Image_counted.mono _ _ _ _ _ | exact impl_Image_nearlyOK.mono _ _ _ _ _ | exact LeO.refl _ | exact LeO.none _ | refine LeO.ite ?_ ?_ | refine LeO.bind ?_ (fun _ => ?_)) | exact LeO.none _ | refine LeO.ite ?_ ?_ | refine LeO.bind ?_ (fun _ => ?_)
set_option maxHeartbeats 8000000 in
set_option maxRecDepth 100000 in
theorem impl_CountRefs.calls (k : Nat) (m : Option Addr) (n : Nat) (a : List Int) (p : Option Addr) (q : Nat) (b : List Int) (r : Option Addr) (s : Nat) (c : List (S66)) (u : Option Addr) (v : Nat) (d : List Int) (L : List Int) (M : Int) (w : World) (A : Kd.C (Kd.int .i64) w m a.length a) (B : a.length ≤ n) (D : Kd.C (Kd.int .i64) w p b.length b) (E : b.length ≤ q) (F : Kd.C k66 w r c.length c) (G : c.length ≤ s) (I : Kd.C (Kd.int .i64) w u d.length d) (J : d.length ≤ v) (h : impl_CountRefs.f k a b c d = some (L, M)) :
    Calls Tryz.prog 7 #[.agg #[.slice m a.length n, .slice p b.length q, .slice r c.length s, .slice u d.length v]] w fun e w' => ∃ S : Value, e = .returned (.tuple #[S, .int .i64 M]) ∧ Kd.R (Kd.int .i64) 3 w' w.heap.size (fun _ => True) S L ∧ Below w.heap.size w w' := by
 have hu26 := Tryz.underlying26; have Zc := zm A; have Zd := zm B; clear A B; have Ze := zm D; have Zf := zm E; clear D E; have Zg := zm F; have Zh := zm G; clear F G; have Zi := zm I; have Zj := zm J; clear I J; have HB := zm (Below.refl w.heap.size w); have H := h
 unfold impl_CountRefs.f at H
 clear h; replace H := Option.bind_eq_some_iff.mp H
 obtain ⟨X, T, H⟩ := H
 try dsimp only at H
 have Y := zm T; clear T
 by_cases O : X = true
 rotate_left
 ·replace O := Bool.eq_false_iff.mpr O
  subst O
  replace H : (some (([] : List Int), 1)) = some (L, M) := by rw [if_neg (show ¬ (false = true) by decide)] at H; exact H
  simp only [Option.some.injEq, Prod.mk.injEq] at H
  obtain ⟨rfl, rfl⟩ := H
  go_enter Tryz.func7, Tryz.ntmps7
  go_wp2_with (first | ((with_reducible refine gate_dst (N := 1) rfl ?_); refine box_event ?hg (N := 1) ?hd (cs := #[.slice m a.length n, .slice p b.length q, .slice r c.length s, .slice u d.length v]) (t := 26) ?hr ?_; (case hd => rfl); (case hg => rfl); (case hr => first | (go_simp; done) | (go_simp; rfl)); intro i hg a5 hbox hb; have j := zm (below_step (zg_1 HB.out) hb); have l := zm (hbox); have x := zm ((by rw [hg]; exact (below_size (zg_1 HB.out)) : w.heap.size ≤ i)); have z := zm ((by rw [hg]; exact (below_size (zg_1 HB.out)) : w.heap.size ≤ i)); replace HB := j; have Za := l; have Zk := x; have Zb := z; clear j l x z; clear hb hbox hg; obtain ⟨_, _, _, _, _, _, _, _⟩ := zb4 Za.out) | ((with_reducible refine gate_callee (f := 15) rfl ?_); refine goesL_ (some 5) rfl rfl Tryz.func15 (by kernel_rfl) rfl #[.agg #[.slice m a.length n, .slice p b.length q, .slice r c.length s, .slice u d.length v]] rfl zq ?_; (with_reducible refine (impl_Image_nearlyOK.calls k _ _ a _ _ b _ _ c _ _ d false _ ?side1 ?side2 ?side3 ?side4 ?side5 ?side6 ?side7 ?side8 Y.out).mono ?_); (case side1 => exact zC (Kd.C_below Zc.out HB.out)); (case side2 => exact Zd.out); (case side3 => exact zC (Kd.C_below Ze.out HB.out)); (case side4 => exact Zf.out); (case side5 => exact zC (Kd.C_below Zg.out HB.out)); (case side6 => exact Zh.out); (case side7 => exact zC (Kd.C_below Zi.out HB.out)); (case side8 => exact Zj.out); rintro e a6 ⟨rfl, hb⟩; refine ⟨_, rfl, ?_⟩; have j := zm (blk_below (g := i) (o := .cells #[.slice m a.length n, .slice p b.length q, .slice r c.length s, .slice u d.length v] 26 (0, 0)) (zg_3 Za.out) hb); have l := zm (below_step (zg_2 HB.out Zb.out) hb); replace Za := j; replace HB := l; clear j l; (try clear hb); (try clear hb2); (try clear hk); (try clear hi)))
  go_ret2
  exact ⟨_, ze, by first | exact Kd.R_nil _ _ _ _ _ | exact Kd.N_nil _ _ _ _ _ | exact Kd.V_nil _ _ _ _ _ | exact Kd.Q_nil _ _ _ _ _ | exact Kd.S_nil _ _ _ _ _, zg_2 HB.out Zb.out⟩
 subst O
 replace H : ((impl_Image_counted.f k a b c d).bind fun y => (some (y, 0))) = some (L, M) := by rw [if_pos rfl] at H; exact H
 replace H := Option.bind_eq_some_iff.mp H
 obtain ⟨y, U, H⟩ := H
 replace H : (some (y, 0)) = some (L, M) := H
 have Z := zm U; clear U
 simp only [Option.some.injEq, Prod.mk.injEq] at H
 obtain ⟨rfl, rfl⟩ := H
 go_enter Tryz.func7, Tryz.ntmps7
 go_wp2_with (first | ((with_reducible refine gate_dst (N := 1) rfl ?_); refine box_event ?hg (N := 1) ?hd (cs := #[.slice m a.length n, .slice p b.length q, .slice r c.length s, .slice u d.length v]) (t := 26) ?hr ?_; (case hd => rfl); (case hg => rfl); (case hr => first | (go_simp; done) | (go_simp; rfl)); intro i hg w5 hbox hb; have j := zm (below_step (zg_1 HB.out) hb); have l := zm (hbox); have x := zm ((by rw [hg]; exact (below_size (zg_1 HB.out)) : w.heap.size ≤ i)); have z := zm ((by rw [hg]; exact (below_size (zg_1 HB.out)) : w.heap.size ≤ i)); replace HB := j; have Za := l; have Zk := x; have Zb := z; clear j l x z; clear hb hbox hg; obtain ⟨_, _, _, _, _, _, _, _⟩ := zb4 Za.out) | ((with_reducible refine gate_callee (f := 15) rfl ?_); refine goesL_ (some 5) rfl rfl Tryz.func15 (by kernel_rfl) rfl #[.agg #[.slice m a.length n, .slice p b.length q, .slice r c.length s, .slice u d.length v]] rfl zq ?_; (with_reducible refine (impl_Image_nearlyOK.calls k _ _ a _ _ b _ _ c _ _ d true _ ?side1 ?side2 ?side3 ?side4 ?side5 ?side6 ?side7 ?side8 Y.out).mono ?_); (case side1 => exact zC (Kd.C_below Zc.out HB.out)); (case side2 => exact Zd.out); (case side3 => exact zC (Kd.C_below Ze.out HB.out)); (case side4 => exact Zf.out); (case side5 => exact zC (Kd.C_below Zg.out HB.out)); (case side6 => exact Zh.out); (case side7 => exact zC (Kd.C_below Zi.out HB.out)); (case side8 => exact Zj.out); rintro e w7 ⟨rfl, hb⟩; refine ⟨_, rfl, ?_⟩; have j := zm (blk_below (g := i) (o := .cells #[.slice m a.length n, .slice p b.length q, .slice r c.length s, .slice u d.length v] 26 (0, 0)) (zg_3 Za.out) hb); have l := zm (below_step (zg_2 HB.out Zb.out) hb); replace Za := j; replace HB := l; clear j l; (try clear hb); (try clear hb2); (try clear hk); (try clear hi); obtain ⟨_, _, _, _, _, _, _, _⟩ := zb4 Za.out) | ((with_reducible refine gate_callee (f := 16) rfl ?_); refine goesL_ (some 8) rfl rfl Tryz.func16 (by kernel_rfl) rfl #[.agg #[.slice m a.length n, .slice p b.length q, .slice r c.length s, .slice u d.length v]] rfl zq ?_; (with_reducible refine (impl_Image_counted.calls k _ _ a _ _ b _ _ c _ _ d y _ ?side1 ?side2 ?side3 ?side4 ?side5 ?side6 ?side7 ?side8 Z.out).mono ?_); (case side1 => exact zC (Kd.C_below Zc.out HB.out)); (case side2 => exact Zd.out); (case side3 => exact zC (Kd.C_below Ze.out HB.out)); (case side4 => exact Zf.out); (case side5 => exact zC (Kd.C_below Zg.out HB.out)); (case side6 => exact Zh.out); (case side7 => exact zC (Kd.C_below Zi.out HB.out)); (case side8 => exact Zj.out); rintro e w9 ⟨a4, rfl, V, hb⟩; refine ⟨_, rfl, ?_⟩; have j := zm (Kd.R_lower V (below_size (zg_2 HB.out Zb.out))); have l := zm (blk_below (g := i) (o := .cells #[.slice m a.length n, .slice p b.length q, .slice r c.length s, .slice u d.length v] 26 (0, 0)) (zg_3 Za.out) hb); have x := zm (below_step (zg_2 HB.out Zb.out) hb); have Zl := j; replace Za := l; replace HB := x; clear j l x; (try clear hb); (try clear hb2); (try clear hk); (try clear hi); (try clear V)))
 go_ret2
 exact ⟨_, ze, by (with_reducible repeat (first | apply Kd.R_alloc | apply Kd.R_drewN | apply Kd.R_drew)); exact Zl.out, zg_2 HB.out Zb.out⟩
def slices_Equal_int_int.l0 : Nat → List Int → List Int → Int → Int → Option (Bool)
  | 0, _, _, _, _ => none
  | k + 1, x0, x1, x12, x13 => if x13 < x12 then (if 0 ≤ x13 then (if x13 < (x0.length : Int) then (if x13 < (x1.length : Int) then (if (rd x0 x13) = (rd x1 x13) then (slices_Equal_int_int.l0 k x0 x1 x12 (wrap64 (x13 + 1))) else (some false)) else (none)) else (none)) else (none)) else (some true)
def slices_Equal_int_int.f (k : Nat) (l0 : List Int) (l1 : List Int) : Option (Bool) := if (l0.length : Int) = (l1.length : Int) then (slices_Equal_int_int.l0 k l0 l1 (l0.length : Int) 0) else (some false)
theorem slices_Equal_int_int.mono_l : ∀ k, (∀ y0 y1 y2 y3, LeO (slices_Equal_int_int.l0 k y0 y1 y2 y3) (slices_Equal_int_int.l0 (k + 1) y0 y1 y2 y3))
  | 0 => fun _ _ _ _ r h => by simp [slices_Equal_int_int.l0] at h
  | k + 1 => by
    have ih0 := slices_Equal_int_int.mono_l k
    · intro y0 y1 y2 y3
      unfold slices_Equal_int_int.l0
      repeat' first| (with_reducible first | exact ih0 _ _ _ _ | exact LeO.refl _ | exact LeO.none _ | refine LeO.ite ?_ ?_ | refine LeO.bind ?_ (fun _ => ?_)) | exact ih0 _ _ _ _ | exact LeO.none _ | refine LeO.ite ?_ ?_ | refine LeO.bind ?_ (fun _ => ?_)
theorem slices_Equal_int_int.mono : ∀ a0 a1 k, LeO (slices_Equal_int_int.f k a0 a1) (slices_Equal_int_int.f (k + 1) a0 a1) := by
  intro a0 a1 k
  have ih0 := slices_Equal_int_int.mono_l k
  unfold slices_Equal_int_int.f
  repeat' first| (with_reducible first | exact ih0 _ _ _ _ | exact LeO.refl _ | exact LeO.none _ | refine LeO.ite ?_ ?_ | refine LeO.bind ?_ (fun _ => ?_)) | exact ih0 _ _ _ _ | exact LeO.none _ | refine LeO.ite ?_ ?_ | refine LeO.bind ?_ (fun _ => ?_)
set_option maxHeartbeats 8000000 in
set_option maxRecDepth 100000 in
theorem slices_Equal_int_int.calls (k : Nat) (O : Option Addr) (R : Nat) (b : List Int) (S : Option Addr) (J : Nat) (c : List Int) (r : Bool) (w : World) (A : Kd.C (Kd.int .i64) w O b.length b) (B : b.length ≤ R) (D : Kd.C (Kd.int .i64) w S c.length c) (E : c.length ≤ J) (h : slices_Equal_int_int.f k b c = some r) :
    Calls Tryz.prog 18 #[.slice O b.length R, .slice S c.length J] w fun e w' => e = .returned (.bool r) ∧ Drawn0 w w' := by
 have F := zm A; have Y := zm B; clear A B; have G := zm D; have Z := zm E; clear D E; have H := h
 unfold slices_Equal_int_int.f at H
 clear h
 by_cases l : (b.length : Int) = (c.length : Int)
 rotate_left
 ·rw [if_neg l] at H
  have q : ((b.length : Int) == (c.length : Int)) = false := beq_eq_false_iff_ne.mpr l
  have s : ((b.length : Int) != (c.length : Int)) = true := bne_iff_ne.mpr l
  have t : (b.length == c.length) = false := by first | simpa using l | (simp at l ⊢; omega)
  obtain rfl := Option.some.inj H
  go_enter Tryz.func18, Tryz.ntmps18
  go_wp2
  repeat (go_quiet (fail); try go_wp2)
  go_ret
  exact ⟨zr, by repeat (first | exact Drawn0.refl _ | apply Drawn0.step)⟩
 rw [if_pos l] at H
 have q : ((b.length : Int) == (c.length : Int)) = true := beq_iff_eq.mpr l
 have s : ((b.length : Int) != (c.length : Int)) = false := bne_eq_false_iff_eq.mpr l
 have t : (b.length == c.length) = true := by first | simpa using l | (simp at l ⊢; omega)
 clear l
 have H' := zm H
 clear H
 go_enter Tryz.func18, Tryz.ntmps18
 go_wp2
 repeat (go_quiet (fail); try go_wp2)
 go_loopg [13] k (fun kq T w' => ∃ (a : Int), T = .int .i64 a ∧ Aside0 (slices_Equal_int_int.l0 kq b c (b.length : Int) a = some r) ∧ Aside0 (kq ≤ k) ∧ Drawn0 w w')
 case atStart => exact ⟨(0), zr, H', ⟨Nat.le_refl _⟩, by repeat (first | exact Drawn0.refl _ | apply Drawn0.step)⟩
 case round =>
  clear H'
  try clear J
  try clear p2
  try clear l
  try clear q
  try clear s
  try clear t
  obtain ⟨a, rfl, HA, I, ⟨m1, rfl⟩⟩ := hrel
  cases gk with
  | zero => exact absurd HA.out (by simp [slices_Equal_int_int.l0])
  | succ k1 =>
   have H := HA.out; clear HA
   simp only [slices_Equal_int_int.l0] at H
   by_cases p : a < (b.length : Int)
   rotate_left
   ·rw [if_neg p] at H
    have L := decide_eq_false p; clear p; obtain rfl := Option.some.inj H
    go_wp2
    repeat (go_quiet (fail); try go_wp2)
    go_ret
    exact ⟨zr, by repeat (first | exact Drawn0.refl _ | apply Drawn0.step)⟩
   rw [if_pos p] at H; have L := decide_eq_true p; clear p
   by_cases u : 0 ≤ a
   rotate_left
   ·rw [if_neg u] at H
    exact absurd H (by simp)
   rw [if_pos u] at H; have U := decide_eq_true u; clear u
   by_cases v : a < (b.length : Int)
   rotate_left
   ·rw [if_neg v] at H
    exact absurd H (by simp)
   rw [if_pos v] at H; have V := decide_eq_true v; clear v
   by_cases x : a < (c.length : Int)
   rotate_left
   ·rw [if_neg x] at H
    exact absurd H (by simp)
   rw [if_pos x] at H; have X := decide_eq_true x; clear x
   by_cases m : (rd b a) = (rd c a)
   rotate_left
   ·rw [if_neg m] at H
    have M : ((rd b a) == (rd c a)) = false := beq_eq_false_iff_ne.mpr m
    have N : ((rd b a) != (rd c a)) = true := bne_iff_ne.mpr m
    obtain rfl := Option.some.inj H
    have d : 0 ≤ (a : Int) := zd
    have g : a < (b.length : Int) := zd
    obtain ⟨y, n, hx729_0⟩ := Kd.at_int F.out a d g
    cases n; replace d := eq_true d; replace g := eq_true g
    have i : 0 ≤ (a : Int) := zd
    have j : a < (c.length : Int) := zd
    obtain ⟨z, o, hx730_0⟩ := Kd.at_int G.out a i j
    cases o; replace i := eq_true i; replace j := eq_true j
    go_wp2
    repeat (go_quiet (fail); try go_wp2)
    go_ret
    exact ⟨zr, by repeat (first | exact Drawn0.refl _ | apply Drawn0.step)⟩
   rw [if_pos m] at H
   have M : ((rd b a) == (rd c a)) = true := beq_iff_eq.mpr m
   have N : ((rd b a) != (rd c a)) = false := bne_eq_false_iff_eq.mpr m
   clear m
   have H' := zm H
   clear H
   have d : 0 ≤ (a : Int) := zd
   have g : a < (b.length : Int) := zd
   obtain ⟨y, n, hx729_0⟩ := Kd.at_int F.out a d g
   cases n; replace d := eq_true d; replace g := eq_true g
   have i : 0 ≤ (a : Int) := zd
   have j : a < (c.length : Int) := zd
   obtain ⟨z, o, hx730_0⟩ := Kd.at_int G.out a i j
   cases o; replace i := eq_true i; replace j := eq_true j
   go_wp2
   repeat (go_quiet (fail); try go_wp2)
   go_roundg k1
   case measure => have := I.out; omega
   case rel => exact ⟨(wrap64 (a + 1)), zr, H', ⟨by have := I.out; omega⟩, by repeat (first | exact Drawn0.refl _ | apply Drawn0.step)⟩
mutual
def impl_ImageOK.j0 : Nat → Bool → List Int → List Int → List (S66) → List Int → Option (Bool)
  | 0, _, _, _, _, _ => none
  | k + 1, x15, x732000, x732001, x732002, x732003 => if x15 = true then (some false) else (impl_ImageOK.l0 k x732003 (x732003.length : Int) 0 x732000 x732001 x732002 x732003)
def impl_ImageOK.l0 : Nat → List Int → Int → Int → List Int → List Int → List (S66) → List Int → Option (Bool)
  | 0, _, _, _, _, _, _, _ => none
  | k + 1, x17, x18, x19, x732000, x732001, x732002, x732003 => if x19 < x18 then (if 0 ≤ x19 then (if x19 < (x17.length : Int) then (if x19 < (x732000.length : Int) then (if (rd x732000 x19) = 0 then (if (rd x17 x19) = 0 then (impl_ImageOK.l0 k x17 x18 (wrap64 (x19 + 1)) x732000 x732001 x732002 x732003) else (some false)) else (impl_ImageOK.l0 k x17 x18 (wrap64 (x19 + 1)) x732000 x732001 x732002 x732003)) else (none)) else (none)) else (none)) else (some true)
end
def impl_ImageOK.f (k : Nat) (l0_0 : List Int) (l0_1 : List Int) (l0_2 : List (S66)) (l0_3 : List Int) : Option (Bool) := (impl_Image_nearlyOK.f k l0_0 l0_1 l0_2 l0_3).bind fun t732 => (if t732 = true then ((impl_Image_counted.f k l0_0 l0_1 l0_2 l0_3).bind fun t733 => ((slices_Equal_int_int.f k l0_0 t733).bind fun t736 => (impl_ImageOK.j0 k (!t736) l0_0 l0_1 l0_2 l0_3))) else (impl_ImageOK.j0 k true l0_0 l0_1 l0_2 l0_3))
theorem impl_ImageOK.mono_l : ∀ k, (∀ y0 y1 y2 y3 y4, LeO (impl_ImageOK.j0 k y0 y1 y2 y3 y4) (impl_ImageOK.j0 (k + 1) y0 y1 y2 y3 y4)) ∧ (∀ y0 y1 y2 y3 y4 y5 y6, LeO (impl_ImageOK.l0 k y0 y1 y2 y3 y4 y5 y6) (impl_ImageOK.l0 (k + 1) y0 y1 y2 y3 y4 y5 y6))
  | 0 => ⟨fun _ _ _ _ _ r h => by simp [impl_ImageOK.j0] at h, fun _ _ _ _ _ _ _ r h => by simp [impl_ImageOK.l0] at h⟩
  | k + 1 => by
    obtain ⟨ih0, ih1⟩ := impl_ImageOK.mono_l k
    refine ⟨?_, ?_⟩
    · intro y0 y1 y2 y3 y4
      unfold impl_ImageOK.j0
      repeat' first| (with_reducible first | exact ih0 _ _ _ _ _ | exact ih1 _ _ _ _ _ _ _ | exact impl_Image_counted.mono _ _ _ _ _ | exact impl_Image_nearlyOK.mono _ _ _ _ _ | exact slices_Equal_int_int.mono _ _ _ | exact LeO.refl _ | exact LeO.none _ | refine LeO.ite ?_ ?_ | refine LeO.bind ?_ (fun _ => ?_)) | exact ih0 _ _ _ _ _ | exact ih1 _ _ _ _ _ _ _ | exact LeO.none _ | refine LeO.ite ?_ ?_ | refine LeO.bind ?_ (fun _ => ?_)
    · intro y0 y1 y2 y3 y4 y5 y6
      unfold impl_ImageOK.l0
      repeat' first| (with_reducible first | exact ih0 _ _ _ _ _ | exact ih1 _ _ _ _ _ _ _ | exact impl_Image_counted.mono _ _ _ _ _ | exact impl_Image_nearlyOK.mono _ _ _ _ _ | exact slices_Equal_int_int.mono _ _ _ | exact LeO.refl _ | exact LeO.none _ | refine LeO.ite ?_ ?_ | refine LeO.bind ?_ (fun _ => ?_)) | exact ih0 _ _ _ _ _ | exact ih1 _ _ _ _ _ _ _ | exact LeO.none _ | refine LeO.ite ?_ ?_ | refine LeO.bind ?_ (fun _ => ?_)
theorem impl_ImageOK.mono : ∀ a0 a1 a2 a3 k, LeO (impl_ImageOK.f k a0 a1 a2 a3) (impl_ImageOK.f (k + 1) a0 a1 a2 a3) := by
  intro a0 a1 a2 a3 k
  obtain ⟨ih0, ih1⟩ := impl_ImageOK.mono_l k
  unfold impl_ImageOK.f
  repeat' first| (with_reducible first | exact ih0 _ _ _ _ _ | exact ih1 _ _ _ _ _ _ _ | exact impl_Image_counted.mono _ _ _ _ _ | exact impl_Image_nearlyOK.mono _ _ _ _ _ | exact slices_Equal_int_int.mono _ _ _ | exact LeO.refl _ | exact LeO.none _ | refine LeO.ite ?_ ?_ | refine LeO.bind ?_ (fun _ => ?_)) | exact ih0 _ _ _ _ _ | exact ih1 _ _ _ _ _ _ _ | exact LeO.none _ | refine LeO.ite ?_ ?_ | refine LeO.bind ?_ (fun _ => ?_)
def impl_ImageOK.T1 : Bool × List (List Nat × List Nat) := (true, [([], []), ([0], [0]), ([1], [1]), ([2, 1], [2]), ([3], [3]), ([4, 3], [3, 4]), ([3], [3]), ([6, 3, 3], [3, 6]), ([5, 7, 7, 3], [3, 5, 7]), ([8, 3], [3, 8]), ([3, 9], [3, 9])])
def impl_ImageOK.B1 : List Nat := [0, 1, 3, 7, 15, 31, 15, 79, 255, 511, 1023]
theorem impl_ImageOK.tab1 : rtab .any (opsOf Tryz.f10 1) = impl_ImageOK.T1 := by kernel_rfl
theorem impl_ImageOK.bits1 : waitsOk impl_ImageOK.T1.2 impl_ImageOK.B1 = true := by kernel_rfl
set_option maxHeartbeats 8000000 in
set_option maxRecDepth 100000 in
theorem impl_ImageOK.calls (k : Nat) (m : Option Addr) (p : Nat) (c : List Int) (q : Option Addr) (s : Nat) (d : List Int) (u : Option Addr) (x : Nat) (j : List (S66)) (y : Option Addr) (z : Nat) (b : List Int) (r : Bool) (w : World) (Y : Kd.C (Kd.int .i64) w m c.length c) (Z : c.length ≤ p) (a4 : Kd.C (Kd.int .i64) w q d.length d) (a5 : d.length ≤ s) (a6 : Kd.C k66 w u j.length j) (a7 : j.length ≤ x) (a8 : Kd.C (Kd.int .i64) w y b.length b) (a9 : b.length ≤ z) (h : impl_ImageOK.f k c d j b = some r) :
    Calls Tryz.prog 10 #[.agg #[.slice m c.length p, .slice q d.length s, .slice u j.length x, .slice y b.length z]] w fun e w' => e = .returned (.bool r) ∧ Below w.heap.size w w' := by
 have hu26 := Tryz.underlying26; have Zc := zm Y; have Ze := zm Z; clear Y Z; have Zf := zm a4; have Zg := zm a5; clear a4 a5; have Zh := zm a6; have Zi := zm a7; clear a6 a7; have Zd := zm a8; have Zj := zm a9; clear a8 a9; have HB := zm (Below.refl w.heap.size w); have H := h
 unfold impl_ImageOK.f at H
 clear h; have b7 := zm H; clear H
 go_enter Tryz.func10, Tryz.ntmps10
 go_upto_region 1 with (first | ((with_reducible refine gate_dst (N := 1) rfl ?_); refine box_event ?hg (N := 1) ?hd (cs := #[.slice m c.length p, .slice q d.length s, .slice u j.length x, .slice y b.length z]) (t := 26) ?hr ?_; (case hd => rfl); (case hg => rfl); (case hr => first | (go_simp; done) | (go_simp; rfl)); intro l hg w3 hbox hb; have A := zm (below_step (zg_1 HB.out) hb); have B := zm (hbox); have V := zm ((by rw [hg]; exact (below_size (zg_1 HB.out)) : w.heap.size ≤ l)); have c7 := zm ((by rw [hg]; exact (below_size (zg_1 HB.out)) : w.heap.size ≤ l)); replace HB := A; have Za := B; have Zl := V; have Zb := c7; clear A B V c7; clear hb hbox hg))
 (try simp only [Act.put, zs, zz, zt])
 go_cut [15] (fun d6 wc => ∃ (kq : Nat) (I : Bool), d6 = .bool I ∧ Aside0 (impl_ImageOK.j0 kq I c d j b = some r) ∧ Aside0 (kq ≤ k) ∧ Aside0 (wc.heap[l]? = some (.cells #[(.slice m c.length p), (.slice q d.length s), (.slice u j.length x), (.slice y b.length z)] 26 (0, 0))) ∧ Aside0 (Below w.heap.size w wc))
 case first =>
  have H := b7.out; clear b7; replace H := Option.bind_eq_some_iff.mp H
  obtain ⟨d2, c8, H⟩ := H
  try dsimp only at H
  have A4 := zm c8; clear c8
  by_cases c5 : d2 = true
  rotate_left
  ·replace c5 := Bool.eq_false_iff.mpr c5
   subst c5
   replace H : (impl_ImageOK.j0 k true c d j b) = some r := by rw [if_neg (show ¬ (false = true) by decide)] at H; exact H
   have H' := zm H
   clear H
   try go_wp2
   have A := zm (blk_drew Za.out); have B := zm (below_drew1 HB.out); clear Za; clear HB; have Za := A; have HB := B; clear A B
   refine start_ (n := 11) (S := fun w' => w'.cell? ⟨l, 0, none⟩ = some (.slice m c.length p) ∧ w'.cell? ⟨l, 1, none⟩ = some (.slice q d.length s) ∧ w'.cell? ⟨l, 2, none⟩ = some (.slice u j.length x) ∧ w'.cell? ⟨l, 3, none⟩ = some (.slice y b.length z)) (ds := []) #[ff, ff, ff, ff, ff, ff, ff, ff, ff, ff, ff] (by kernel_rfl) rfl rfl ⟨(blk_cell Za.out 0).trans rfl, (blk_cell Za.out 1).trans rfl, (blk_cell Za.out 2).trans rfl, (blk_cell Za.out 3).trans rfl⟩ (fun hHeld => ?_); refine with_tabW impl_ImageOK.tab1 impl_ImageOK.bits1 (fun HT_ HW_ => ?_)
   generalize w3.drew = e8 at Za HB hHeld ⊢
   refine take_ (i := 0) (N := some 5) (v := ?_) (a' := ?_) #[tt, ff, ff, ff, ff, ff, ff, ff, ff, ff, ff] rfl rfl (take_ofW HT_.out HW_.out (by kernel_rfl)) (fun _ _ _ h => h) (Or.inl ⟨by rfl, ?_⟩) hHeld ?_ ?_
   rotate_left
   ·rintro w' ⟨s0, s1, s2, s3⟩
    go_simp
    with_reducible rfl
   rotate_left
   ·simp only [Act.put, zs, zz, zt, i64_w, i32_w]
    rfl
   refine one_ (i := 1) (N := some 6) #[tt, tt, ff, ff, ff, ff, ff, ff, ff, ff, ff] rfl rfl (one_of HT_.out (by kernel_rfl)) (by decide) (fun K hK => ?_)
   refine goes_ Tryz.func15 (by kernel_rfl) rfl #[.agg #[.slice m c.length p, .slice q d.length s, .slice u j.length x, .slice y b.length z]] (by rfl) rfl rfl zq ?_
   with_reducible refine (impl_Image_nearlyOK.calls k _ _ c _ _ d _ _ j _ _ b false _ ?side1 ?side2 ?side3 ?side4 ?side5 ?side6 ?side7 ?side8 A4.out).mono ?_
   (case side1 => exact zC (Kd.C_below Zc.out HB.out))
   (case side2 => exact Ze.out)
   (case side3 => exact zC (Kd.C_below Zf.out HB.out))
   (case side4 => exact Zg.out)
   (case side5 => exact zC (Kd.C_below Zh.out HB.out))
   (case side6 => exact Zi.out)
   (case side7 => exact zC (Kd.C_below Zd.out HB.out))
   (case side8 => exact Zj.out)
   rintro e e9 ⟨rfl, hb⟩
   refine ⟨_, rfl, ?_⟩
   have A := zm (blk_below (g := l) (o := .cells #[.slice m c.length p, .slice q d.length s, .slice u j.length x, .slice y b.length z] 26 (0, 0)) (zg_3 Za.out) hb); have B := zm (below_step (zg_2 HB.out Zb.out) hb); clear Za; clear HB; have Za := A; have HB := B; clear A B
   (try clear hb)
   (try clear hb2)
   (try clear hk)
   (try clear hi)
   refine hK.out _ _ ⟨(blk_cell Za.out 0).trans rfl, (blk_cell Za.out 1).trans rfl, (blk_cell Za.out 2).trans rfl, (blk_cell Za.out 3).trans rfl⟩ (fun hHeld => ?_)
   clear hK K
   refine norm_ (a' := ?_) ?_ ?_
   rotate_left
   ·show Act.put _ (some 6) _ = _
    simp only [Act.put, zs, zz, zt, i64_w, i32_w]
    rfl
   refine pure_ (i := 2) (N := some 7) (v := ?_) (a' := ?_) #[tt, tt, tt, ff, ff, ff, ff, ff, ff, ff, ff] rfl rfl (any_of HT_.out (by kernel_rfl)) (fun _ _ _ h => h) (Or.inl ⟨by rfl, ?_⟩) ?_ ?_
   rotate_left
   ·intro w'
    go_simp
    with_reducible rfl
   rotate_left
   ·simp only [Act.put, zs, zz, zt, i64_w, i32_w]
    rfl
   refine pure_ (i := 3) (N := some 8) (v := ?_) (a' := ?_) #[tt, tt, tt, tt, ff, ff, ff, ff, ff, ff, ff] rfl rfl (any_of HT_.out (by kernel_rfl)) (fun _ _ _ h => h) (Or.inl ⟨by rfl, ?_⟩) ?_ ?_
   rotate_left
   ·intro w'
    go_simp
    with_reducible rfl
   rotate_left
   ·simp only [Act.put, zs, zz, zt, i64_w, i32_w]
    rfl
   refine pure_ (i := 4) (N := some 9) (v := undef) (a' := ?_) #[tt, tt, tt, tt, tt, ff, ff, ff, ff, ff, ff] rfl rfl (any_of HT_.out (by kernel_rfl)) (fun _ _ _ h => h) (Or.inr ⟨by rfl, rfl⟩) ?_ ?_
   rotate_left
   ·simp only [Act.put, zs, zz, zt, i64_w, i32_w]
    rfl
   refine pure_ (i := 5) (N := some 10) (v := undef) (a' := ?_) #[tt, tt, tt, tt, tt, tt, ff, ff, ff, ff, ff] rfl rfl (any_of HT_.out (by kernel_rfl)) (fun _ _ _ h => h) (Or.inr ⟨by rfl, rfl⟩) ?_ ?_
   rotate_left
   ·simp only [Act.put, zs, zz, zt, i64_w, i32_w]
    rfl
   refine pure_ (i := 6) (N := some 11) (v := undef) (a' := ?_) #[tt, tt, tt, tt, tt, tt, tt, ff, ff, ff, ff] rfl rfl (any_of HT_.out (by kernel_rfl)) (fun _ _ _ h => h) (Or.inr ⟨by rfl, rfl⟩) ?_ ?_
   rotate_left
   ·simp only [Act.put, zs, zz, zt, i64_w, i32_w]
    rfl
   refine pure_ (i := 7) (N := some 12) (v := undef) (a' := ?_) #[tt, tt, tt, tt, tt, tt, tt, tt, ff, ff, ff] rfl rfl (any_of HT_.out (by kernel_rfl)) (fun _ _ _ h => h) (Or.inr ⟨by rfl, rfl⟩) ?_ ?_
   rotate_left
   ·simp only [Act.put, zs, zz, zt, i64_w, i32_w]
    rfl
   refine pure_ (i := 8) (N := some 13) (v := undef) (a' := ?_) #[tt, tt, tt, tt, tt, tt, tt, tt, tt, ff, ff] rfl rfl (any_of HT_.out (by kernel_rfl)) (fun _ _ _ h => h) (Or.inr ⟨by rfl, rfl⟩) ?_ ?_
   rotate_left
   ·simp only [Act.put, zs, zz, zt, i64_w, i32_w]
    rfl
   refine pure_ (i := 9) (N := some 14) (v := undef) (a' := ?_) #[tt, tt, tt, tt, tt, tt, tt, tt, tt, tt, ff] rfl rfl (any_of HT_.out (by kernel_rfl)) (fun _ _ _ h => h) (Or.inr ⟨by rfl, rfl⟩) ?_ ?_
   rotate_left
   ·simp only [Act.put, zs, zz, zt, i64_w, i32_w]
    rfl
   refine pure_ (i := 10) (N := some 15) (v := ?_) (a' := ?_) #[tt, tt, tt, tt, tt, tt, tt, tt, tt, tt, tt] rfl rfl (any_of HT_.out (by kernel_rfl)) (fun _ _ _ h => h) (Or.inl ⟨by rfl, ?_⟩) ?_ ?_
   rotate_left
   ·intro w'
    go_simp
    with_reducible rfl
   rotate_left
   ·simp only [Act.put, zs, zz, zt, i64_w, i32_w]
    rfl
   refine done_ (done_of HT_.out (by kernel_rfl)) ?_
   try go_wp2
   go_meet
   case rel => exact ⟨_, (true), zr, H', ⟨by first | omega | exact Nat.le_refl _⟩, ⟨zl Za.out⟩, ⟨zg_2 HB.out Zb.out⟩⟩
  subst c5
  replace H : ((impl_Image_counted.f k c d j b).bind fun J => ((slices_Equal_int_int.f k c J).bind fun U => (impl_ImageOK.j0 k (!U) c d j b))) = some r := by rw [if_pos rfl] at H; exact H
  replace H := Option.bind_eq_some_iff.mp H
  obtain ⟨J, c9, H⟩ := H
  try dsimp only at H
  have A6 := zm c9; clear c9; replace H := Option.bind_eq_some_iff.mp H
  obtain ⟨U, d0, H⟩ := H
  try dsimp only at H
  have A7 := zm d0; clear d0
  have H' := zm H
  clear H
  try go_wp2
  have A := zm (blk_drew Za.out); have B := zm (below_drew1 HB.out); clear Za; clear HB; have Za := A; have HB := B; clear A B
  refine start_ (n := 11) (S := fun w' => w'.cell? ⟨l, 0, none⟩ = some (.slice m c.length p) ∧ w'.cell? ⟨l, 1, none⟩ = some (.slice q d.length s) ∧ w'.cell? ⟨l, 2, none⟩ = some (.slice u j.length x) ∧ w'.cell? ⟨l, 3, none⟩ = some (.slice y b.length z)) (ds := []) #[ff, ff, ff, ff, ff, ff, ff, ff, ff, ff, ff] (by kernel_rfl) rfl rfl ⟨(blk_cell Za.out 0).trans rfl, (blk_cell Za.out 1).trans rfl, (blk_cell Za.out 2).trans rfl, (blk_cell Za.out 3).trans rfl⟩ (fun hHeld => ?_); refine with_tabW impl_ImageOK.tab1 impl_ImageOK.bits1 (fun HT_ HW_ => ?_)
  generalize w3.drew = w8 at Za HB hHeld ⊢
  refine take_ (i := 0) (N := some 5) (v := ?_) (a' := ?_) #[tt, ff, ff, ff, ff, ff, ff, ff, ff, ff, ff] rfl rfl (take_ofW HT_.out HW_.out (by kernel_rfl)) (fun _ _ _ h => h) (Or.inl ⟨by rfl, ?_⟩) hHeld ?_ ?_
  rotate_left
  ·rintro w' ⟨s0, s1, s2, s3⟩
   go_simp
   with_reducible rfl
  rotate_left
  ·simp only [Act.put, zs, zz, zt, i64_w, i32_w]
   rfl
  refine one_ (i := 1) (N := some 6) #[tt, tt, ff, ff, ff, ff, ff, ff, ff, ff, ff] rfl rfl (one_of HT_.out (by kernel_rfl)) (by decide) (fun K hK => ?_)
  refine goes_ Tryz.func15 (by kernel_rfl) rfl #[.agg #[.slice m c.length p, .slice q d.length s, .slice u j.length x, .slice y b.length z]] (by rfl) rfl rfl zq ?_
  with_reducible refine (impl_Image_nearlyOK.calls k _ _ c _ _ d _ _ j _ _ b true _ ?side1 ?side2 ?side3 ?side4 ?side5 ?side6 ?side7 ?side8 A4.out).mono ?_
  (case side1 => exact zC (Kd.C_below Zc.out HB.out))
  (case side2 => exact Ze.out)
  (case side3 => exact zC (Kd.C_below Zf.out HB.out))
  (case side4 => exact Zg.out)
  (case side5 => exact zC (Kd.C_below Zh.out HB.out))
  (case side6 => exact Zi.out)
  (case side7 => exact zC (Kd.C_below Zd.out HB.out))
  (case side8 => exact Zj.out)
  rintro e w9 ⟨rfl, hb⟩
  refine ⟨_, rfl, ?_⟩
  have A := zm (blk_below (g := l) (o := .cells #[.slice m c.length p, .slice q d.length s, .slice u j.length x, .slice y b.length z] 26 (0, 0)) (zg_3 Za.out) hb); have B := zm (below_step (zg_2 HB.out Zb.out) hb); clear Za; clear HB; have Za := A; have HB := B; clear A B
  (try clear hb)
  (try clear hb2)
  (try clear hk)
  (try clear hi)
  refine hK.out _ _ ⟨(blk_cell Za.out 0).trans rfl, (blk_cell Za.out 1).trans rfl, (blk_cell Za.out 2).trans rfl, (blk_cell Za.out 3).trans rfl⟩ (fun hHeld => ?_)
  clear hK K
  refine norm_ (a' := ?_) ?_ ?_
  rotate_left
  ·show Act.put _ (some 6) _ = _
   simp only [Act.put, zs, zz, zt, i64_w, i32_w]
   rfl
  refine pure_ (i := 2) (N := some 7) (v := ?_) (a' := ?_) #[tt, tt, tt, ff, ff, ff, ff, ff, ff, ff, ff] rfl rfl (any_of HT_.out (by kernel_rfl)) (fun _ _ _ h => h) (Or.inl ⟨by rfl, ?_⟩) ?_ ?_
  rotate_left
  ·intro w'
   go_simp
   with_reducible rfl
  rotate_left
  ·simp only [Act.put, zs, zz, zt, i64_w, i32_w]
   rfl
  refine pure_ (i := 3) (N := some 8) (v := ?_) (a' := ?_) #[tt, tt, tt, tt, ff, ff, ff, ff, ff, ff, ff] rfl rfl (any_of HT_.out (by kernel_rfl)) (fun _ _ _ h => h) (Or.inl ⟨by rfl, ?_⟩) ?_ ?_
  rotate_left
  ·intro w'
   go_simp
   with_reducible rfl
  rotate_left
  ·simp only [Act.put, zs, zz, zt, i64_w, i32_w]
   rfl
  refine pure_ (i := 4) (N := some 9) (v := ?_) (a' := ?_) #[tt, tt, tt, tt, tt, ff, ff, ff, ff, ff, ff] rfl rfl (any_of HT_.out (by kernel_rfl)) (fun _ _ _ h => h) (Or.inl ⟨by rfl, ?_⟩) ?_ ?_
  rotate_left
  ·intro w'
   go_simp
   with_reducible rfl
  rotate_left
  ·simp only [Act.put, zs, zz, zt, i64_w, i32_w]
   rfl
  refine take_ (i := 5) (N := some 10) (v := ?_) (a' := ?_) #[tt, tt, tt, tt, tt, tt, ff, ff, ff, ff, ff] rfl rfl (take_ofW HT_.out HW_.out (by kernel_rfl)) (fun _ _ _ h => h) (Or.inl ⟨by rfl, ?_⟩) hHeld ?_ ?_
  rotate_left
  ·rintro w' ⟨s0, s1, s2, s3⟩
   go_simp
   with_reducible rfl
  rotate_left
  ·simp only [Act.put, zs, zz, zt, i64_w, i32_w]
   rfl
  refine take_ (i := 6) (N := some 11) (v := ?_) (a' := ?_) #[tt, tt, tt, tt, tt, tt, tt, ff, ff, ff, ff] rfl rfl (take_ofW HT_.out HW_.out (by kernel_rfl)) (fun _ _ _ h => h) (Or.inl ⟨by rfl, ?_⟩) hHeld ?_ ?_
  rotate_left
  ·rintro w' ⟨s0, s1, s2, s3⟩
   go_simp
   with_reducible rfl
  rotate_left
  ·simp only [Act.put, zs, zz, zt, i64_w, i32_w]
   rfl
  refine one_ (i := 7) (N := some 12) #[tt, tt, tt, tt, tt, tt, tt, tt, ff, ff, ff] rfl rfl (one_of HT_.out (by kernel_rfl)) (by decide) (fun K hK => ?_)
  refine goes_ Tryz.func16 (by kernel_rfl) rfl #[.agg #[.slice m c.length p, .slice q d.length s, .slice u j.length x, .slice y b.length z]] (by rfl) rfl rfl zq ?_
  with_reducible refine (impl_Image_counted.calls k _ _ c _ _ d _ _ j _ _ b J _ ?side1 ?side2 ?side3 ?side4 ?side5 ?side6 ?side7 ?side8 A6.out).mono ?_
  (case side1 => exact zC (Kd.C_below Zc.out HB.out))
  (case side2 => exact Ze.out)
  (case side3 => exact zC (Kd.C_below Zf.out HB.out))
  (case side4 => exact Zg.out)
  (case side5 => exact zC (Kd.C_below Zh.out HB.out))
  (case side6 => exact Zi.out)
  (case side7 => exact zC (Kd.C_below Zd.out HB.out))
  (case side8 => exact Zj.out)
  rintro e f0 ⟨e6, rfl, d1, hb⟩
  refine ⟨_, rfl, ?_⟩
  have A := zm (Kd.R_lower d1 (below_size (zg_2 HB.out Zb.out))); have B := zm (blk_below (g := l) (o := .cells #[.slice m c.length p, .slice q d.length s, .slice u j.length x, .slice y b.length z] 26 (0, 0)) (zg_3 Za.out) hb); have V := zm (below_step (zg_2 HB.out Zb.out) hb); clear Za; clear HB; have Zk := A; have Za := B; have HB := V; clear A B V
  (try clear hb)
  (try clear hb2)
  (try clear hk)
  (try clear hi)
  (try clear d1)
  obtain ⟨d3, d4, b8⟩ := Kd.R_slice Zk.out
  (first | subst b8 | (injection b8 with f1_ f2_ f3_; have f4_ := f1_.symm; have f5_ := f3_.symm; clear f1_ f2_ f3_; subst f4_; subst f5_))
  refine hK.out _ _ ⟨(blk_cell Za.out 0).trans rfl, (blk_cell Za.out 1).trans rfl, (blk_cell Za.out 2).trans rfl, (blk_cell Za.out 3).trans rfl⟩ (fun hHeld => ?_)
  clear hK K
  refine norm_ (a' := ?_) ?_ ?_
  rotate_left
  ·show Act.put _ (some 12) _ = _
   simp only [Act.put, zs, zz, zt, i64_w, i32_w]
   rfl
  refine one_ (i := 8) (N := some 13) #[tt, tt, tt, tt, tt, tt, tt, tt, tt, ff, ff] rfl rfl (one_of HT_.out (by kernel_rfl)) (by decide) (fun K hK => ?_)
  refine goes_ Tryz.func18 (by kernel_rfl) rfl #[.slice m c.length p, .slice d3 J.length d4] (by rfl) rfl rfl zq ?_
  with_reducible refine (slices_Equal_int_int.calls k _ _ c _ _ J U _ ?side1 ?side2 ?side3 ?side4 A7.out).mono ?_
  (case side1 => exact zC (Kd.C_below Zc.out HB.out))
  (case side2 => exact Ze.out)
  (case side3 => exact zC ((Kd.R_reads' Zk.out).2.2))
  (case side4 => exact (Kd.R_reads' Zk.out).2.1)
  rintro e w' ⟨rfl, ⟨nd, rfl⟩⟩
  refine ⟨_, rfl, ?_⟩
  refine hK.out _ _ ⟨(blk_cell Za.out 0).trans rfl, (blk_cell Za.out 1).trans rfl, (blk_cell Za.out 2).trans rfl, (blk_cell Za.out 3).trans rfl⟩ (fun hHeld => ?_)
  clear hK K
  refine norm_ (a' := ?_) ?_ ?_
  rotate_left
  ·show Act.put _ (some 13) _ = _
   simp only [Act.put, zs, zz, zt, i64_w, i32_w]
   rfl
  refine pure_ (i := 9) (N := some 14) (v := ?_) (a' := ?_) #[tt, tt, tt, tt, tt, tt, tt, tt, tt, tt, ff] rfl rfl (any_of HT_.out (by kernel_rfl)) (fun _ _ _ h => h) (Or.inl ⟨by rfl, ?_⟩) ?_ ?_
  rotate_left
  ·intro w'
   go_simp
   with_reducible rfl
  rotate_left
  ·simp only [Act.put, zs, zz, zt, i64_w, i32_w]
   rfl
  refine pure_ (i := 10) (N := some 15) (v := ?_) (a' := ?_) #[tt, tt, tt, tt, tt, tt, tt, tt, tt, tt, tt] rfl rfl (any_of HT_.out (by kernel_rfl)) (fun _ _ _ h => h) (Or.inl ⟨by rfl, ?_⟩) ?_ ?_
  rotate_left
  ·intro w'
   go_simp
   with_reducible rfl
  rotate_left
  ·simp only [Act.put, zs, zz, zt, i64_w, i32_w]
   rfl
  refine done_ (done_of HT_.out (by kernel_rfl)) ?_
  try go_wp2
  go_meet
  case rel => exact ⟨_, (!U), zr, H', ⟨by first | omega | exact Nat.le_refl _⟩, ⟨zl Za.out⟩, ⟨zg_2 HB.out Zb.out⟩⟩
 case rest =>
  clear b7
  try clear c1
  try clear p2
  try clear c5
  try clear d9
  obtain ⟨kq, I, rfl, HA, HJ1, Za, HB⟩ := hcut
  cases kq with
  | zero => exact absurd HA.out (by simp [impl_ImageOK.j0])
  | succ b9 =>
   have H := HA.out; clear HA
   simp only [impl_ImageOK.j0] at H
   by_cases X : I = true
   ·subst X
    replace H : (some false) = some r := by rw [if_pos rfl] at H; exact H
    obtain rfl := Option.some.inj H
    go_wp2
    go_ret
    exact ⟨ze, zg_2 HB.out Zb.out⟩
   replace X := Bool.eq_false_iff.mpr X; subst X
   replace H : (impl_ImageOK.l0 b9 b (b.length : Int) 0 c d j b) = some r := by rw [if_neg (show ¬ (false = true) by decide)] at H; exact H
   have H' := zm H
   clear H
   obtain ⟨_, _, _, _, _, _, _, _⟩ := zb4 Za.out
   go_wp2
   go_loopg [19] b9 (fun kq e0 w' => ∃ (a : Int), e0 = .int .i64 a ∧ Aside0 (impl_ImageOK.l0 kq b (b.length : Int) a c d j b = some r) ∧ Aside0 (kq ≤ b9) ∧ Aside0 (w'.heap[l]? = some (.cells #[(.slice m c.length p), (.slice q d.length s), (.slice u j.length x), (.slice y b.length z)] 26 (0, 0))) ∧ Aside0 (Below w.heap.size w w'))
   case atStart => exact ⟨(0), zr, H', ⟨Nat.le_refl _⟩, ⟨zl Za.out⟩, ⟨zg_2 HB.out Zb.out⟩⟩
   case round =>
    clear H'
    try clear c1
    try clear p2
    try clear c5
    try clear d9
    try clear X
    try clear f1
    try clear p2
    obtain ⟨a, rfl, HA, b0, Za, HB⟩ := hrel
    cases gk with
    | zero => exact absurd HA.out (by simp [impl_ImageOK.l0])
    | succ k2 =>
     have H := HA.out; clear HA
     simp only [impl_ImageOK.l0] at H
     by_cases T : a < (b.length : Int)
     rotate_left
     ·rw [if_neg T] at H
      have c0 := decide_eq_false T; clear T; obtain rfl := Option.some.inj H
      go_wp2
      go_ret
      exact ⟨ze, zg_2 HB.out Zb.out⟩
     rw [if_pos T] at H; have c0 := decide_eq_true T; clear T
     by_cases b1 : 0 ≤ a
     rotate_left
     ·rw [if_neg b1] at H
      exact absurd H (by simp)
     rw [if_pos b1] at H; have e1 := decide_eq_true b1; clear b1
     by_cases b2 : a < (b.length : Int)
     rotate_left
     ·rw [if_neg b2] at H
      exact absurd H (by simp)
     rw [if_pos b2] at H; have e2 := decide_eq_true b2; clear b2
     by_cases b3 : a < (c.length : Int)
     rotate_left
     ·rw [if_neg b3] at H
      exact absurd H (by simp)
     rw [if_pos b3] at H; have e3 := decide_eq_true b3; clear b3
     by_cases L : (rd c a) = 0
     rotate_left
     ·rw [if_neg L] at H
      have c2 : ((rd c a) == 0) = false := beq_eq_false_iff_ne.mpr L
      have c3 : ((rd c a) != 0) = true := bne_iff_ne.mpr L
      have H' := zm H
      clear H
      have D : 0 ≤ (a : Int) := zd
      have E : a < (b.length : Int) := zd
      obtain ⟨b4, M, hx737_0⟩ := Kd.at_int Zd.out a D E
      cases M; replace hx737_0 := (HB.out.cell (World.block_lt_of_cell? w _ hx737_0)).trans hx737_0; replace D := eq_true D; replace E := eq_true E
      obtain ⟨_, _, _, _, _, _, _, _⟩ := zb4 Za.out
      have F : 0 ≤ (a : Int) := zd
      have G : a < (c.length : Int) := zd
      obtain ⟨b5, O, hx738_0⟩ := Kd.at_int Zc.out a F G
      cases O; replace hx738_0 := (HB.out.cell (World.block_lt_of_cell? w _ hx738_0)).trans hx738_0; replace F := eq_true F; replace G := eq_true G
      go_wp2
      go_roundg k2
      case measure => have := HJ1.out; have := b0.out; omega
      case rel => exact ⟨(wrap64 (a + 1)), zr, H', ⟨by have := HJ1.out; have := b0.out; omega⟩, ⟨zl Za.out⟩, ⟨zg_2 HB.out Zb.out⟩⟩
     rw [if_pos L] at H
     have c2 : ((rd c a) == 0) = true := beq_iff_eq.mpr L
     have c3 : ((rd c a) != 0) = false := bne_eq_false_iff_eq.mpr L
     clear L
     by_cases R : (rd b a) = 0
     rotate_left
     ·rw [if_neg R] at H
      have c4 : ((rd b a) == 0) = false := beq_eq_false_iff_ne.mpr R
      have c6 : ((rd b a) != 0) = true := bne_iff_ne.mpr R
      obtain rfl := Option.some.inj H
      have D : 0 ≤ (a : Int) := zd
      have E : a < (b.length : Int) := zd
      obtain ⟨b4, M, hx737_0⟩ := Kd.at_int Zd.out a D E
      cases M; replace hx737_0 := (HB.out.cell (World.block_lt_of_cell? w _ hx737_0)).trans hx737_0; replace D := eq_true D; replace E := eq_true E
      obtain ⟨_, _, _, _, _, _, _, _⟩ := zb4 Za.out
      have F : 0 ≤ (a : Int) := zd
      have G : a < (c.length : Int) := zd
      obtain ⟨b5, O, hx738_0⟩ := Kd.at_int Zc.out a F G
      cases O; replace hx738_0 := (HB.out.cell (World.block_lt_of_cell? w _ hx738_0)).trans hx738_0; replace F := eq_true F; replace G := eq_true G
      go_wp2
      go_ret
      exact ⟨ze, zg_2 HB.out Zb.out⟩
     rw [if_pos R] at H
     have c4 : ((rd b a) == 0) = true := beq_iff_eq.mpr R
     have c6 : ((rd b a) != 0) = false := bne_eq_false_iff_eq.mpr R
     clear R
     have H' := zm H
     clear H
     have D : 0 ≤ (a : Int) := zd
     have E : a < (b.length : Int) := zd
     obtain ⟨b4, M, hx737_0⟩ := Kd.at_int Zd.out a D E
     cases M; replace hx737_0 := (HB.out.cell (World.block_lt_of_cell? w _ hx737_0)).trans hx737_0; replace D := eq_true D; replace E := eq_true E
     obtain ⟨_, _, _, _, _, _, _, _⟩ := zb4 Za.out
     have F : 0 ≤ (a : Int) := zd
     have G : a < (c.length : Int) := zd
     obtain ⟨b5, O, hx738_0⟩ := Kd.at_int Zc.out a F G
     cases O; replace hx738_0 := (HB.out.cell (World.block_lt_of_cell? w _ hx738_0)).trans hx738_0; replace F := eq_true F; replace G := eq_true G
     go_wp2
     go_roundg k2
     case measure => have := HJ1.out; have := b0.out; omega
     case rel => exact ⟨(wrap64 (a + 1)), zr, H', ⟨by have := HJ1.out; have := b0.out; omega⟩, ⟨zl Za.out⟩, ⟨zg_2 HB.out Zb.out⟩⟩
def impl_Leaks_1.f (a0 : Int) (a1 : Int) : Option (Bool) := some (decide (a0 > a1))
set_option maxHeartbeats 8000000 in
set_option maxRecDepth 100000 in
theorem impl_Leaks_1.calls (a0 : Int) (a1 : Int) (r : Bool) (w : World) (h : impl_Leaks_1.f a0 a1 = some r) :
    Calls Tryz.prog 17 #[.int .i64 a0, .int .i64 a1] w fun e w' => e = .returned (.bool r) ∧ Drawn0 w w' := by
  have H : (some (decide (a0 > a1))) = some r := h
  clear h; obtain rfl := Option.some.inj H
  go_enter Tryz.func17, Tryz.ntmps17
  go_wp2
  go_ret
  exact ⟨zr, by repeat (first | exact Drawn0.refl _ | apply Drawn0.step)⟩
def impl_Image_wrong_17.l0 : Nat → List Int → List Int → Int → Int → List Int → List Int → List (S66) → List Int → Option (List Int × Int)
  | 0, _, _, _, _, _, _, _, _ => none
  | k + 1, x6, x14, x15, x16, x697000, x697001, x697002, x697003 => if x16 < x15 then (if 0 ≤ x16 then (if x16 < (x14.length : Int) then (if x16 < (x697000.length : Int) then ((impl_Leaks_1.f (rd x697000 x16) (rd x14 x16)).bind fun t706 => (if t706 = true then (if x6.length < 17592186044416 then (impl_Image_wrong_17.l0 k (x6 ++ [x16]) x14 x15 (wrap64 (x16 + 1)) x697000 x697001 x697002 x697003) else (none)) else (impl_Image_wrong_17.l0 k x6 x14 x15 (wrap64 (x16 + 1)) x697000 x697001 x697002 x697003))) else (none)) else (none)) else (none)) else (some (x6, 0))
def impl_Image_wrong_17.f (k : Nat) (l0_0 : List Int) (l0_1 : List Int) (l0_2 : List (S66)) (l0_3 : List Int) (a1 : Unit) : Option (List Int × Int) := (impl_Image_nearlyOK.f k l0_0 l0_1 l0_2 l0_3).bind fun t697 => (if t697 = true then ((impl_Image_counted.f k l0_0 l0_1 l0_2 l0_3).bind fun t701 => (impl_Image_wrong_17.l0 k (([] : List Int)) t701 (t701.length : Int) 0 l0_0 l0_1 l0_2 l0_3)) else (some (([] : List Int), 1)))
theorem impl_Image_wrong_17.mono_l : ∀ k, (∀ y0 y1 y2 y3 y4 y5 y6 y7, LeO (impl_Image_wrong_17.l0 k y0 y1 y2 y3 y4 y5 y6 y7) (impl_Image_wrong_17.l0 (k + 1) y0 y1 y2 y3 y4 y5 y6 y7))
  | 0 => fun _ _ _ _ _ _ _ _ r h => by simp [impl_Image_wrong_17.l0] at h
  | k + 1 => by
    have ih0 := impl_Image_wrong_17.mono_l k
    · intro y0 y1 y2 y3 y4 y5 y6 y7
      unfold impl_Image_wrong_17.l0
      repeat' first| (with_reducible first | exact ih0 _ _ _ _ _ _ _ _ | exact impl_Image_counted.mono _ _ _ _ _ | exact impl_Image_nearlyOK.mono _ _ _ _ _ | exact LeO.refl _ | exact LeO.none _ | refine LeO.ite ?_ ?_ | refine LeO.bind ?_ (fun _ => ?_)) | exact ih0 _ _ _ _ _ _ _ _ | exact LeO.none _ | refine LeO.ite ?_ ?_ | refine LeO.bind ?_ (fun _ => ?_)
theorem impl_Image_wrong_17.mono : ∀ a0 a1 a2 a3 a4 k, LeO (impl_Image_wrong_17.f k a0 a1 a2 a3 a4) (impl_Image_wrong_17.f (k + 1) a0 a1 a2 a3 a4) := by
  intro a0 a1 a2 a3 a4 k
  have ih0 := impl_Image_wrong_17.mono_l k
  unfold impl_Image_wrong_17.f
  repeat' first| (with_reducible first | exact ih0 _ _ _ _ _ _ _ _ | exact impl_Image_counted.mono _ _ _ _ _ | exact impl_Image_nearlyOK.mono _ _ _ _ _ | exact LeO.refl _ | exact LeO.none _ | refine LeO.ite ?_ ?_ | refine LeO.bind ?_ (fun _ => ?_)) | exact ih0 _ _ _ _ _ _ _ _ | exact LeO.none _ | refine LeO.ite ?_ ?_ | refine LeO.bind ?_ (fun _ => ?_)
set_option maxHeartbeats 8000000 in
set_option maxRecDepth 100000 in
theorem impl_Image_wrong_17.calls (k : Nat) (A : Option Addr) (q : Nat) (c : List Int) (s : Option Addr) (u : Nat) (d : List Int) (v : Option Addr) (x : Nat) (i : List (S66)) (y : Option Addr) (z : Nat) (j : List Int) (a1 : Unit) (O : List Int) (S : Int) (w : World) (Z : Kd.C (Kd.int .i64) w A c.length c) (a5 : c.length ≤ q) (a6 : Kd.C (Kd.int .i64) w s d.length d) (a7 : d.length ≤ u) (a8 : Kd.C k66 w v i.length i) (a9 : i.length ≤ x) (b0 : Kd.C (Kd.int .i64) w y j.length j) (b1 : j.length ≤ z) (h : impl_Image_wrong_17.f k c d i j a1 = some (O, S)) :
    Calls Tryz.prog 13 #[.agg #[.slice A c.length q, .slice s d.length u, .slice v i.length x, .slice y j.length z], .func (.func 17) #[] #[]] w fun e w' => ∃ d3 : Value, e = .returned (.tuple #[d3, .int .i64 S]) ∧ Kd.R (Kd.int .i64) 3 w' w.heap.size (fun _ => True) d3 O ∧ Below w.heap.size w w' := by
 have hu26 := Tryz.underlying26; have Zd := zm Z; have Zf := zm a5; clear Z a5; have Zg := zm a6; have Zh := zm a7; clear a6 a7; have Zi := zm a8; have Zj := zm a9; clear a8 a9; have Zk := zm b0; have Zl := zm b1; clear b0 b1; have HB := zm (Below.refl w.heap.size w); have H := h
 unfold impl_Image_wrong_17.f at H
 clear h; replace H := Option.bind_eq_some_iff.mp H
 obtain ⟨d7, d4, H⟩ := H
 try dsimp only at H
 have A3 := zm d4; clear d4
 by_cases c4 : d7 = true
 rotate_left
 ·replace c4 := Bool.eq_false_iff.mpr c4
  subst c4
  replace H : (some (([] : List Int), 1)) = some (O, S) := by rw [if_neg (show ¬ (false = true) by decide)] at H; exact H
  simp only [Option.some.injEq, Prod.mk.injEq] at H
  obtain ⟨rfl, rfl⟩ := H
  go_enter Tryz.func13, Tryz.ntmps13
  go_wp2_with (first | ((with_reducible refine gate_dst (N := 2) rfl ?_); refine box_event ?hg (N := 2) ?hd (cs := #[.slice A c.length q, .slice s d.length u, .slice v i.length x, .slice y j.length z]) (t := 26) ?hr ?_; (case hd => rfl); (case hg => rfl); (case hr => first | (go_simp; done) | (go_simp; rfl)); intro p hg f0 hbox hb; have m := zm (below_step (zg_1 HB.out) hb); have n := zm (hbox); have B := zm ((by rw [hg]; exact (below_size (zg_1 HB.out)) : w.heap.size ≤ p)); have E := zm ((by rw [hg]; exact (below_size (zg_1 HB.out)) : w.heap.size ≤ p)); replace HB := m; have Za := n; have Zo := B; have Zb := E; clear m n B E; clear hb hbox hg; obtain ⟨_, _, _, _, _, _, _, _⟩ := zb4 Za.out) | ((with_reducible refine gate_callee (f := 15) rfl ?_); refine goesL_ (some 10) rfl rfl Tryz.func15 (by kernel_rfl) rfl #[.agg #[.slice A c.length q, .slice s d.length u, .slice v i.length x, .slice y j.length z]] rfl zq ?_; (with_reducible refine (impl_Image_nearlyOK.calls k _ _ c _ _ d _ _ i _ _ j false _ ?side1 ?side2 ?side3 ?side4 ?side5 ?side6 ?side7 ?side8 A3.out).mono ?_); (case side1 => exact zC (Kd.C_below Zd.out HB.out)); (case side2 => exact Zf.out); (case side3 => exact zC (Kd.C_below Zg.out HB.out)); (case side4 => exact Zh.out); (case side5 => exact zC (Kd.C_below Zi.out HB.out)); (case side6 => exact Zj.out); (case side7 => exact zC (Kd.C_below Zk.out HB.out)); (case side8 => exact Zl.out); rintro e f1 ⟨rfl, hb⟩; refine ⟨_, rfl, ?_⟩; have m := zm (blk_below (g := p) (o := .cells #[.slice A c.length q, .slice s d.length u, .slice v i.length x, .slice y j.length z] 26 (0, 0)) (zg_3 Za.out) hb); have n := zm (below_step (zg_2 HB.out Zb.out) hb); replace Za := m; replace HB := n; clear m n; (try clear hb); (try clear hb2); (try clear hk); (try clear hi)))
  go_ret2
  exact ⟨_, ze, by first | exact Kd.R_nil _ _ _ _ _ | exact Kd.N_nil _ _ _ _ _ | exact Kd.V_nil _ _ _ _ _ | exact Kd.Q_nil _ _ _ _ _ | exact Kd.S_nil _ _ _ _ _, zg_2 HB.out Zb.out⟩
 subst c4
 replace H : ((impl_Image_counted.f k c d i j).bind fun l => (impl_Image_wrong_17.l0 k (([] : List Int)) l (l.length : Int) 0 c d i j)) = some (O, S) := by rw [if_pos rfl] at H; exact H
 obtain ⟨c3, T⟩ : ∃ y_ : List Int, y_ = (([] : List Int)) := ⟨_, rfl⟩
 replace H : ((impl_Image_counted.f k c d i j).bind fun l => (impl_Image_wrong_17.l0 k c3 l (l.length : Int) 0 c d i j)) = some (O, S) := zy H T
 have b2 := zm T; clear T; replace H := Option.bind_eq_some_iff.mp H
 obtain ⟨l, d5, H⟩ := H
 try dsimp only at H
 have A5 := zm d5; clear d5
 have H' := zm H
 clear H
 go_enter Tryz.func13, Tryz.ntmps13
 go_wp2_with (first | ((with_reducible refine gate_dst (N := 2) rfl ?_); refine box_event ?hg (N := 2) ?hd (cs := #[.slice A c.length q, .slice s d.length u, .slice v i.length x, .slice y j.length z]) (t := 26) ?hr ?_; (case hd => rfl); (case hg => rfl); (case hr => first | (go_simp; done) | (go_simp; rfl)); intro p hg w6 hbox hb; have m := zm (below_step (zg_1 HB.out) hb); have n := zm (hbox); have B := zm ((by rw [hg]; exact (below_size (zg_1 HB.out)) : w.heap.size ≤ p)); have E := zm ((by rw [hg]; exact (below_size (zg_1 HB.out)) : w.heap.size ≤ p)); replace HB := m; have Za := n; have Zo := B; have Zb := E; clear m n B E; clear hb hbox hg; obtain ⟨_, _, _, _, _, _, _, _⟩ := zb4 Za.out) | ((with_reducible refine gate_callee (f := 15) rfl ?_); refine goesL_ (some 10) rfl rfl Tryz.func15 (by kernel_rfl) rfl #[.agg #[.slice A c.length q, .slice s d.length u, .slice v i.length x, .slice y j.length z]] rfl zq ?_; (with_reducible refine (impl_Image_nearlyOK.calls k _ _ c _ _ d _ _ i _ _ j true _ ?side1 ?side2 ?side3 ?side4 ?side5 ?side6 ?side7 ?side8 A3.out).mono ?_); (case side1 => exact zC (Kd.C_below Zd.out HB.out)); (case side2 => exact Zf.out); (case side3 => exact zC (Kd.C_below Zg.out HB.out)); (case side4 => exact Zh.out); (case side5 => exact zC (Kd.C_below Zi.out HB.out)); (case side6 => exact Zj.out); (case side7 => exact zC (Kd.C_below Zk.out HB.out)); (case side8 => exact Zl.out); rintro e w8 ⟨rfl, hb⟩; refine ⟨_, rfl, ?_⟩; have m := zm (blk_below (g := p) (o := .cells #[.slice A c.length q, .slice s d.length u, .slice v i.length x, .slice y j.length z] 26 (0, 0)) (zg_3 Za.out) hb); have n := zm (below_step (zg_2 HB.out Zb.out) hb); replace Za := m; replace HB := n; clear m n; (try clear hb); (try clear hb2); (try clear hk); (try clear hi)) | ((with_reducible refine gate_dst (N := 12) rfl ?_); refine Kd.R_lit (Kd.int .i64) _ 3 ?hg (N := 12) ?hd (xs := ([] : List Int)) (inner := []) (ok := fun _ => True) (okp := fun _ => True) ?hr ?hp (fun _ hk => hk) trivial (Below.refl _ _) (Nat.le_refl _) (by simp) ?_; (case hd => rfl); (case hg => rfl); (case hr => first | (go_simp; done) | (go_simp; rfl)); (case hp => exact (Reps.none _ _)); intro e7 w9 L hb hg_ hnew_; clear hg_ hnew_; (first | rw [← b2.out] at L | (simp only [Int.reduceToNat] at L; rw [← b2.out] at L)); have m := zm (Kd.R_lower L (below_size (zg_2 HB.out Zb.out))); have n := zm (blk_below (g := p) (o := .cells #[.slice A c.length q, .slice s d.length u, .slice v i.length x, .slice y j.length z] 26 (0, 0)) (zg_3 Za.out) hb); have B := zm (below_step (zg_2 HB.out Zb.out) hb); have Ze := m; replace Za := n; replace HB := B; clear m n B; clear hb L; obtain ⟨_, _, _, _, _, _, _, _⟩ := zb4 Za.out) | ((with_reducible refine gate_callee (f := 16) rfl ?_); refine goesL_ (some 14) rfl rfl Tryz.func16 (by kernel_rfl) rfl #[.agg #[.slice A c.length q, .slice s d.length u, .slice v i.length x, .slice y j.length z]] rfl zq ?_; (with_reducible refine (impl_Image_counted.calls k _ _ c _ _ d _ _ i _ _ j l _ ?side1 ?side2 ?side3 ?side4 ?side5 ?side6 ?side7 ?side8 A5.out).mono ?_); (case side1 => exact zC (Kd.C_below Zd.out HB.out)); (case side2 => exact Zf.out); (case side3 => exact zC (Kd.C_below Zg.out HB.out)); (case side4 => exact Zh.out); (case side5 => exact zC (Kd.C_below Zi.out HB.out)); (case side6 => exact Zj.out); (case side7 => exact zC (Kd.C_below Zk.out HB.out)); (case side8 => exact Zl.out); rintro e f2 ⟨e8, rfl, c5, hb⟩; refine ⟨_, rfl, ?_⟩; have m := zm (Kd.R_elder' (zg_6 Ze.out) (Kd.R_base c5) hb); have n := zm (Kd.R_lower (Kd.R_new' c5 (Kd.R_lt (zg_6 Ze.out))) (below_size (zg_2 HB.out Zb.out))); have B := zm (blk_below (g := p) (o := .cells #[.slice A c.length q, .slice s d.length u, .slice v i.length x, .slice y j.length z] 26 (0, 0)) (zg_3 Za.out) hb); have E := zm (below_step (zg_2 HB.out Zb.out) hb); replace Ze := m; have Zn := n; replace Za := B; replace HB := E; clear m n B E; (try clear hb); (try clear hb2); (try clear hk); (try clear hi); (try clear c5); obtain ⟨c6, V, d8⟩ := Kd.R_slice Zn.out; subst d8))
 go_loopg [6, 16] k (fun kq v6 e2 w' => ∃ (D : List Int) (a : Int), e2 = .int .i64 a ∧ Aside0 (impl_Image_wrong_17.l0 kq D l (l.length : Int) a c d i j = some (O, S)) ∧ Aside0 (kq ≤ k) ∧ Aside0 (Kd.R (Kd.int .i64) 3 w' w.heap.size (fun k_ => some k_ ≠ ((.slice c6 l.length V) : Value).ownBlock) v6 D) ∧ Aside0 (Kd.R (Kd.int .i64) 3 w' w.heap.size (fun k_ => some k_ ≠ (v6 : Value).ownBlock) (.slice c6 l.length V) l) ∧ Aside0 (w'.heap[p]? = some (.cells #[(.slice A c.length q), (.slice s d.length u), (.slice v i.length x), (.slice y j.length z)] 26 (0, 0))) ∧ Aside0 (Below w.heap.size w w'))
 case atStart => exact ⟨(c3), (0), zr, H', ⟨Nat.le_refl _⟩, ⟨by (with_reducible repeat (first | apply Kd.R_alloc | apply Kd.R_drewN | apply Kd.R_drew)); exact Kd.R_mono Ze.out (fun _ hk => hk.2)⟩, ⟨by (with_reducible repeat (first | apply Kd.R_alloc | apply Kd.R_drewN | apply Kd.R_drew)); exact Kd.R_mono Zn.out (fun _ hk => hk.2)⟩, ⟨zl Za.out⟩, ⟨zg_2 HB.out Zb.out⟩⟩
 case round =>
  clear H'
  try clear c1
  try clear p2
  try clear c4
  try clear c7
  obtain ⟨D, a, rfl, HA, b3, Zm, Zc, Za, HB⟩ := hrel
  cases gk with
  | zero => exact absurd HA.out (by simp [impl_Image_wrong_17.l0])
  | succ k1 =>
   have H := HA.out; clear HA
   simp only [impl_Image_wrong_17.l0] at H
   by_cases M : a < (l.length : Int)
   rotate_left
   ·rw [if_neg M] at H
    have d0 := decide_eq_false M; clear M
    simp only [Option.some.injEq, Prod.mk.injEq] at H
    obtain ⟨rfl, rfl⟩ := H
    go_wp2
    go_ret2
    exact ⟨_, ze, by (with_reducible repeat (first | apply Kd.R_alloc | apply Kd.R_drewN | apply Kd.R_drew)); exact Kd.R_mono Zm.out (fun _ hk => trivial), zg_2 HB.out Zb.out⟩
   rw [if_pos M] at H; have d0 := decide_eq_true M; clear M
   by_cases b4 : 0 ≤ a
   rotate_left
   ·rw [if_neg b4] at H
    exact absurd H (by simp)
   rw [if_pos b4] at H; have e3 := decide_eq_true b4; clear b4
   by_cases b5 : a < (l.length : Int)
   rotate_left
   ·rw [if_neg b5] at H
    exact absurd H (by simp)
   rw [if_pos b5] at H; have e4 := decide_eq_true b5; clear b5
   by_cases b6 : a < (c.length : Int)
   rotate_left
   ·rw [if_neg b6] at H
    exact absurd H (by simp)
   rw [if_pos b6] at H; have e5 := decide_eq_true b6; clear b6; replace H := Option.bind_eq_some_iff.mp H
   obtain ⟨d9, c8, H⟩ := H
   try dsimp only at H
   have d6 := zm c8; clear c8
   by_cases b7 : d9 = true
   rotate_left
   ·replace b7 := Bool.eq_false_iff.mpr b7
    subst b7
    replace H : (impl_Image_wrong_17.l0 k1 D l (l.length : Int) (wrap64 (a + 1)) c d i j) = some (O, S) := by rw [if_neg (show ¬ (false = true) by decide)] at H; exact H
    have H' := zm H
    clear H
    have F : 0 ≤ (a : Int) := zd
    have G : a < (l.length : Int) := zd
    obtain ⟨b8, X, hx704_0⟩ := Kd.at_int (Kd.R_reads' Zc.out).2.2 a F G
    cases X; replace F := eq_true F; replace G := eq_true G
    obtain ⟨_, _, _, _, _, _, _, _⟩ := zb4 Za.out
    have I : 0 ≤ (a : Int) := zd
    have J : a < (c.length : Int) := zd
    obtain ⟨b9, Y, hx705_0⟩ := Kd.at_int Zd.out a I J
    cases Y; replace hx705_0 := (HB.out.cell (World.block_lt_of_cell? w _ hx705_0)).trans hx705_0; replace I := eq_true I; replace J := eq_true J
    go_wp2_with (first | ((with_reducible refine gate_dst (N := 28) rfl ?_); refine goesV (some 28) rfl rfl Tryz.func17 (by kernel_rfl) rfl #[.int .i64 (rd c a), .int .i64 (rd l a)] rfl (cap := #[]) ?hx ?hargs ?_; (case hx => rfl); (case hargs => simp [Act.eval]); (with_reducible refine (impl_Leaks_1.calls (rd c a) (rd l a) false _ d6.out).mono ?_); rintro e w' ⟨rfl, ⟨nd, rfl⟩⟩; refine ⟨_, rfl, ?_⟩))
    go_roundg k1
    case measure => have := b3.out; omega
    case rel => exact ⟨(D), (wrap64 (a + 1)), zr, H', ⟨by have := b3.out; omega⟩, ⟨zlR Zm.out⟩, ⟨zlR Zc.out⟩, ⟨zl Za.out⟩, ⟨zg_2 HB.out Zb.out⟩⟩
   subst b7
   replace H : (if D.length < 17592186044416 then (impl_Image_wrong_17.l0 k1 (D ++ [a]) l (l.length : Int) (wrap64 (a + 1)) c d i j) else (none)) = some (O, S) := by rw [if_pos rfl] at H; exact H
   by_cases c0 : D.length < 17592186044416
   rotate_left
   ·rw [if_neg c0] at H
    exact absurd H (by simp)
   rw [if_pos c0] at H; have d1 := zm c0; clear c0
   obtain ⟨c9, U⟩ : ∃ y_ : List Int, y_ = (D ++ [a]) := ⟨_, rfl⟩
   replace H : (impl_Image_wrong_17.l0 k1 c9 l (l.length : Int) (wrap64 (a + 1)) c d i j) = some (O, S) := zy H U
   have d2 := zm U; clear U
   have H' := zm H
   clear H
   have F : 0 ≤ (a : Int) := zd
   have G : a < (l.length : Int) := zd
   obtain ⟨b8, X, hx704_0⟩ := Kd.at_int (Kd.R_reads' Zc.out).2.2 a F G
   cases X; replace F := eq_true F; replace G := eq_true G
   obtain ⟨_, _, _, _, _, _, _, _⟩ := zb4 Za.out
   have I : 0 ≤ (a : Int) := zd
   have J : a < (c.length : Int) := zd
   obtain ⟨b9, Y, hx705_0⟩ := Kd.at_int Zd.out a I J
   cases Y; replace hx705_0 := (HB.out.cell (World.block_lt_of_cell? w _ hx705_0)).trans hx705_0; replace I := eq_true I; replace J := eq_true J
   go_wp2_with (first | ((with_reducible refine gate_dst (N := 28) rfl ?_); refine goesV (some 28) rfl rfl Tryz.func17 (by kernel_rfl) rfl #[.int .i64 (rd c a), .int .i64 (rd l a)] rfl (cap := #[]) ?hx ?hargs ?_; (case hx => rfl); (case hargs => simp [Act.eval]); (with_reducible refine (impl_Leaks_1.calls (rd c a) (rd l a) true _ d6.out).mono ?_); rintro e w' ⟨rfl, ⟨nd, rfl⟩⟩; refine ⟨_, rfl, ?_⟩) | ((with_reducible refine gate_builtin (b := .append) (xs := #[.tmp 29, .tmp 31]) rfl ?_); at_builtin; refine Kd.R_append (Kd.int .i64) (w0 := w) w.heap.size rfl (.tmp 29) (.tmp 31) 23 3 (.int .i64 0) 8 rfl Tryz.underlying23 info3 rfl (by decide) (by omega) u6 D a [.int .i64 a] (fun k_ => some k_ ≠ (.slice (some b8) l.length V : Value).ownBlock) (fun _ => False) rfl rfl ?aP (fun _ hk => hk.elim) ?aF ?aO ?aB ?aS ?aL ?_; (case aP => exact rfl); (case aB => exact (zg_2 HB.out Zb.out)); (case aF => exact (fun k_ hk => Kd.fresh' (Kd.R_lt (zg_6 Zc.out)) k_ hk)); (case aO => exact (zg_6 Zm.out)); (case aS => exact (below_size (zg_2 HB.out Zb.out))); (case aL => have := d1.out; omega); intro e9 f3 ho hb hg hat; rw [← d2.out] at ho; have m := zm (Kd.R_after (ok := (fun _ => True)) (by (with_reducible repeat (first | apply Kd.R_alloc | apply Kd.R_drewN | apply Kd.R_drew)); exact Kd.R_mono Zc.out (fun _ hk => ⟨trivial, hk⟩)) hg hat); have n := zm (blk_grown (g := p) (o := .cells #[.slice (some b9) c.length q, .slice s d.length u, .slice v i.length x, .slice y j.length z] 26 (0, 0)) (zg_3 Za.out) hg (Kd.R_ne Zm.out Za.out (by decide))); have B := zm (hb); have E := zm (ho); clear Zm; replace Zc := m; replace Za := n; replace HB := B; have Zp := E; clear m n B E; clear ho hb hg hat))
   go_roundg k1
   case measure => have := b3.out; omega
   case rel => exact ⟨(c9), (wrap64 (a + 1)), zr, H', ⟨by have := b3.out; omega⟩, ⟨zlR Zp.out⟩, ⟨by (with_reducible repeat (first | apply Kd.R_alloc | apply Kd.R_drewN | apply Kd.R_drew)); exact Kd.R_mono Zc.out (fun _ hk => hk.2)⟩, ⟨zl Za.out⟩, ⟨zg_2 HB.out Zb.out⟩⟩
def impl_Leaks.f (k : Nat) (l0_0 : List Int) (l0_1 : List Int) (l0_2 : List (S66)) (l0_3 : List Int) : Option (List Int × Int) := (impl_Image_wrong_17.f k l0_0 l0_1 l0_2 l0_3 ()).bind fun bt725 => (some (bt725.1, bt725.2))
theorem impl_Leaks.mono : ∀ a0 a1 a2 a3 k, LeO (impl_Leaks.f k a0 a1 a2 a3) (impl_Leaks.f (k + 1) a0 a1 a2 a3) := by
  intro a0 a1 a2 a3 k
  unfold impl_Leaks.f
  repeat' first| (with_reducible first | exact impl_Image_wrong_17.mono _ _ _ _ _ _ | exact LeO.refl _ | exact LeO.none _ | refine LeO.ite ?_ ?_ | refine LeO.bind ?_ (fun _ => ?_)) | exact LeO.none _ | refine LeO.ite ?_ ?_ | refine LeO.bind ?_ (fun _ => ?_)
set_option maxHeartbeats 8000000 in
set_option maxRecDepth 100000 in
theorem impl_Leaks.calls (k : Nat) (i : Option Addr) (j : Nat) (a : List Int) (l : Option Addr) (m : Nat) (b : List Int) (n : Option Addr) (p : Nat) (c : List (S66)) (q : Option Addr) (r : Nat) (d : List Int) (S : List Int) (T : Int) (w : World) (A : Kd.C (Kd.int .i64) w i a.length a) (B : a.length ≤ j) (D : Kd.C (Kd.int .i64) w l b.length b) (E : b.length ≤ m) (F : Kd.C k66 w n c.length c) (G : c.length ≤ p) (I : Kd.C (Kd.int .i64) w q d.length d) (J : d.length ≤ r) (h : impl_Leaks.f k a b c d = some (S, T)) :
    Calls Tryz.prog 9 #[.agg #[.slice i a.length j, .slice l b.length m, .slice n c.length p, .slice q d.length r]] w fun e w' => ∃ a8 : Value, e = .returned (.tuple #[a8, .int .i64 T]) ∧ Kd.R (Kd.int .i64) 3 w' w.heap.size (fun _ => True) a8 S ∧ Below w.heap.size w w' := by
 have hu26 := Tryz.underlying26; have U := zm A; have V := zm B; clear A B; have X := zm D; have Y := zm E; clear D E; have Z := zm F; have a4 := zm G; clear F G; have a5 := zm I; have a6 := zm J; clear I J; have HB := zm (Below.refl w.heap.size w)
 have H : ((impl_Image_wrong_17.f k a b c d ()).bind fun L => (some (L.1, L.2))) = some (S, T) := h
 clear h; replace H := Option.bind_eq_some_iff.mp H
 obtain ⟨⟨M, O⟩, a9, H⟩ := H
 replace H : (some (M, O)) = some (S, T) := H
 have A2 := zm a9; clear a9
 simp only [Option.some.injEq, Prod.mk.injEq] at H
 obtain ⟨rfl, rfl⟩ := H
 go_enter Tryz.func9, Tryz.ntmps9
 go_wp2_with (first | ((with_reducible refine gate_dst (N := 1) rfl ?_); refine box_event ?hg (N := 1) ?hd (cs := #[.slice i a.length j, .slice l b.length m, .slice n c.length p, .slice q d.length r]) (t := 26) ?hr ?_; (case hd => rfl); (case hg => rfl); (case hr => first | (go_simp; done) | (go_simp; rfl)); intro s hg w3 hbox hb; have x := zm (below_step (zg_1 HB.out) hb); have y := zm (hbox); have z := zm ((by rw [hg]; exact (below_size (zg_1 HB.out)) : w.heap.size ≤ s)); have b0 := zm ((by rw [hg]; exact (below_size (zg_1 HB.out)) : w.heap.size ≤ s)); replace HB := x; have u := y; have b2 := z; have v := b0; clear x y z b0; clear hb hbox hg; obtain ⟨_, _, _, _, _, _, _, _⟩ := zb4 u.out) | ((with_reducible refine gate_callee (f := 13) rfl ?_); refine goesL_ (some 5) rfl rfl Tryz.func13 (by kernel_rfl) rfl #[.agg #[.slice i a.length j, .slice l b.length m, .slice n c.length p, .slice q d.length r], .func (.func 17) #[] #[]] rfl zq ?_; (with_reducible refine (impl_Image_wrong_17.calls k _ _ a _ _ b _ _ c _ _ d () M O _ ?side1 ?side2 ?side3 ?side4 ?side5 ?side6 ?side7 ?side8 A2.out).mono ?_); (case side1 => exact zC (Kd.C_below U.out HB.out)); (case side2 => exact V.out); (case side3 => exact zC (Kd.C_below X.out HB.out)); (case side4 => exact Y.out); (case side5 => exact zC (Kd.C_below Z.out HB.out)); (case side6 => exact a4.out); (case side7 => exact zC (Kd.C_below a5.out HB.out)); (case side8 => exact a6.out); rintro e w5 ⟨b4, rfl, b1, hb⟩; refine ⟨_, rfl, ?_⟩; have x := zm (Kd.R_lower b1 (below_size (zg_2 HB.out v.out))); have y := zm (blk_below (g := s) (o := .cells #[.slice i a.length j, .slice l b.length m, .slice n c.length p, .slice q d.length r] 26 (0, 0)) (zg_3 u.out) hb); have z := zm (below_step (zg_2 HB.out v.out) hb); have a7 := x; replace u := y; replace HB := z; clear x y z; (try clear hb); (try clear hb2); (try clear hk); (try clear hi); (try clear b1)))
 go_ret2
 exact ⟨_, ze, by (with_reducible repeat (first | apply Kd.R_alloc | apply Kd.R_drewN | apply Kd.R_drew)); exact a7.out, zg_2 HB.out v.out⟩
def impl_WrongRefs_1.f (a0 : Int) (a1 : Int) : Option (Bool) := some (a0 != a1)
set_option maxHeartbeats 8000000 in
set_option maxRecDepth 100000 in
theorem impl_WrongRefs_1.calls (a0 : Int) (a1 : Int) (r : Bool) (w : World) (h : impl_WrongRefs_1.f a0 a1 = some r) :
    Calls Tryz.prog 14 #[.int .i64 a0, .int .i64 a1] w fun e w' => e = .returned (.bool r) ∧ Drawn0 w w' := by
  have H : (some (a0 != a1)) = some r := h
  clear h; obtain rfl := Option.some.inj H
  go_enter Tryz.func14, Tryz.ntmps14
  go_wp2
  go_ret
  exact ⟨zr, by repeat (first | exact Drawn0.refl _ | apply Drawn0.step)⟩
def impl_Image_wrong_14.l0 : Nat → List Int → List Int → Int → Int → List Int → List Int → List (S66) → List Int → Option (List Int × Int)
  | 0, _, _, _, _, _, _, _, _ => none
  | k + 1, x6, x14, x15, x16, x683000, x683001, x683002, x683003 => if x16 < x15 then (if 0 ≤ x16 then (if x16 < (x14.length : Int) then (if x16 < (x683000.length : Int) then ((impl_WrongRefs_1.f (rd x683000 x16) (rd x14 x16)).bind fun t692 => (if t692 = true then (if x6.length < 17592186044416 then (impl_Image_wrong_14.l0 k (x6 ++ [x16]) x14 x15 (wrap64 (x16 + 1)) x683000 x683001 x683002 x683003) else (none)) else (impl_Image_wrong_14.l0 k x6 x14 x15 (wrap64 (x16 + 1)) x683000 x683001 x683002 x683003))) else (none)) else (none)) else (none)) else (some (x6, 0))
def impl_Image_wrong_14.f (k : Nat) (l0_0 : List Int) (l0_1 : List Int) (l0_2 : List (S66)) (l0_3 : List Int) (a1 : Unit) : Option (List Int × Int) := (impl_Image_nearlyOK.f k l0_0 l0_1 l0_2 l0_3).bind fun t683 => (if t683 = true then ((impl_Image_counted.f k l0_0 l0_1 l0_2 l0_3).bind fun t687 => (impl_Image_wrong_14.l0 k (([] : List Int)) t687 (t687.length : Int) 0 l0_0 l0_1 l0_2 l0_3)) else (some (([] : List Int), 1)))
theorem impl_Image_wrong_14.mono_l : ∀ k, (∀ y0 y1 y2 y3 y4 y5 y6 y7, LeO (impl_Image_wrong_14.l0 k y0 y1 y2 y3 y4 y5 y6 y7) (impl_Image_wrong_14.l0 (k + 1) y0 y1 y2 y3 y4 y5 y6 y7))
  | 0 => fun _ _ _ _ _ _ _ _ r h => by simp [impl_Image_wrong_14.l0] at h
  | k + 1 => by
    have ih0 := impl_Image_wrong_14.mono_l k
    · intro y0 y1 y2 y3 y4 y5 y6 y7
      unfold impl_Image_wrong_14.l0
      repeat' first| (with_reducible first | exact ih0 _ _ _ _ _ _ _ _ | exact impl_Image_counted.mono _ _ _ _ _ | exact impl_Image_nearlyOK.mono _ _ _ _ _ | exact LeO.refl _ | exact LeO.none _ | refine LeO.ite ?_ ?_ | refine LeO.bind ?_ (fun _ => ?_)) | exact ih0 _ _ _ _ _ _ _ _ | exact LeO.none _ | refine LeO.ite ?_ ?_ | refine LeO.bind ?_ (fun _ => ?_)
theorem impl_Image_wrong_14.mono : ∀ a0 a1 a2 a3 a4 k, LeO (impl_Image_wrong_14.f k a0 a1 a2 a3 a4) (impl_Image_wrong_14.f (k + 1) a0 a1 a2 a3 a4) := by
  intro a0 a1 a2 a3 a4 k
  have ih0 := impl_Image_wrong_14.mono_l k
  unfold impl_Image_wrong_14.f
  repeat' first| (with_reducible first | exact ih0 _ _ _ _ _ _ _ _ | exact impl_Image_counted.mono _ _ _ _ _ | exact impl_Image_nearlyOK.mono _ _ _ _ _ | exact LeO.refl _ | exact LeO.none _ | refine LeO.ite ?_ ?_ | refine LeO.bind ?_ (fun _ => ?_)) | exact ih0 _ _ _ _ _ _ _ _ | exact LeO.none _ | refine LeO.ite ?_ ?_ | refine LeO.bind ?_ (fun _ => ?_)
set_option maxHeartbeats 8000000 in
set_option maxRecDepth 100000 in
theorem impl_Image_wrong_14.calls (k : Nat) (A : Option Addr) (q : Nat) (c : List Int) (s : Option Addr) (u : Nat) (d : List Int) (v : Option Addr) (x : Nat) (i : List (S66)) (y : Option Addr) (z : Nat) (j : List Int) (a1 : Unit) (O : List Int) (S : Int) (w : World) (Z : Kd.C (Kd.int .i64) w A c.length c) (a5 : c.length ≤ q) (a6 : Kd.C (Kd.int .i64) w s d.length d) (a7 : d.length ≤ u) (a8 : Kd.C k66 w v i.length i) (a9 : i.length ≤ x) (b0 : Kd.C (Kd.int .i64) w y j.length j) (b1 : j.length ≤ z) (h : impl_Image_wrong_14.f k c d i j a1 = some (O, S)) :
    Calls Tryz.prog 13 #[.agg #[.slice A c.length q, .slice s d.length u, .slice v i.length x, .slice y j.length z], .func (.func 14) #[] #[]] w fun e w' => ∃ d3 : Value, e = .returned (.tuple #[d3, .int .i64 S]) ∧ Kd.R (Kd.int .i64) 3 w' w.heap.size (fun _ => True) d3 O ∧ Below w.heap.size w w' := by
 have hu26 := Tryz.underlying26; have Zd := zm Z; have Zf := zm a5; clear Z a5; have Zg := zm a6; have Zh := zm a7; clear a6 a7; have Zi := zm a8; have Zj := zm a9; clear a8 a9; have Zk := zm b0; have Zl := zm b1; clear b0 b1; have HB := zm (Below.refl w.heap.size w); have H := h
 unfold impl_Image_wrong_14.f at H
 clear h; replace H := Option.bind_eq_some_iff.mp H
 obtain ⟨d7, d4, H⟩ := H
 try dsimp only at H
 have A3 := zm d4; clear d4
 by_cases c4 : d7 = true
 rotate_left
 ·replace c4 := Bool.eq_false_iff.mpr c4
  subst c4
  replace H : (some (([] : List Int), 1)) = some (O, S) := by rw [if_neg (show ¬ (false = true) by decide)] at H; exact H
  simp only [Option.some.injEq, Prod.mk.injEq] at H
  obtain ⟨rfl, rfl⟩ := H
  go_enter Tryz.func13, Tryz.ntmps13
  go_wp2_with (first | ((with_reducible refine gate_dst (N := 2) rfl ?_); refine box_event ?hg (N := 2) ?hd (cs := #[.slice A c.length q, .slice s d.length u, .slice v i.length x, .slice y j.length z]) (t := 26) ?hr ?_; (case hd => rfl); (case hg => rfl); (case hr => first | (go_simp; done) | (go_simp; rfl)); intro p hg f0 hbox hb; have m := zm (below_step (zg_1 HB.out) hb); have n := zm (hbox); have B := zm ((by rw [hg]; exact (below_size (zg_1 HB.out)) : w.heap.size ≤ p)); have E := zm ((by rw [hg]; exact (below_size (zg_1 HB.out)) : w.heap.size ≤ p)); replace HB := m; have Za := n; have Zo := B; have Zb := E; clear m n B E; clear hb hbox hg; obtain ⟨_, _, _, _, _, _, _, _⟩ := zb4 Za.out) | ((with_reducible refine gate_callee (f := 15) rfl ?_); refine goesL_ (some 10) rfl rfl Tryz.func15 (by kernel_rfl) rfl #[.agg #[.slice A c.length q, .slice s d.length u, .slice v i.length x, .slice y j.length z]] rfl zq ?_; (with_reducible refine (impl_Image_nearlyOK.calls k _ _ c _ _ d _ _ i _ _ j false _ ?side1 ?side2 ?side3 ?side4 ?side5 ?side6 ?side7 ?side8 A3.out).mono ?_); (case side1 => exact zC (Kd.C_below Zd.out HB.out)); (case side2 => exact Zf.out); (case side3 => exact zC (Kd.C_below Zg.out HB.out)); (case side4 => exact Zh.out); (case side5 => exact zC (Kd.C_below Zi.out HB.out)); (case side6 => exact Zj.out); (case side7 => exact zC (Kd.C_below Zk.out HB.out)); (case side8 => exact Zl.out); rintro e f1 ⟨rfl, hb⟩; refine ⟨_, rfl, ?_⟩; have m := zm (blk_below (g := p) (o := .cells #[.slice A c.length q, .slice s d.length u, .slice v i.length x, .slice y j.length z] 26 (0, 0)) (zg_3 Za.out) hb); have n := zm (below_step (zg_2 HB.out Zb.out) hb); replace Za := m; replace HB := n; clear m n; (try clear hb); (try clear hb2); (try clear hk); (try clear hi)))
  go_ret2
  exact ⟨_, ze, by first | exact Kd.R_nil _ _ _ _ _ | exact Kd.N_nil _ _ _ _ _ | exact Kd.V_nil _ _ _ _ _ | exact Kd.Q_nil _ _ _ _ _ | exact Kd.S_nil _ _ _ _ _, zg_2 HB.out Zb.out⟩
 subst c4
 replace H : ((impl_Image_counted.f k c d i j).bind fun l => (impl_Image_wrong_14.l0 k (([] : List Int)) l (l.length : Int) 0 c d i j)) = some (O, S) := by rw [if_pos rfl] at H; exact H
 obtain ⟨c3, T⟩ : ∃ y_ : List Int, y_ = (([] : List Int)) := ⟨_, rfl⟩
 replace H : ((impl_Image_counted.f k c d i j).bind fun l => (impl_Image_wrong_14.l0 k c3 l (l.length : Int) 0 c d i j)) = some (O, S) := zy H T
 have b2 := zm T; clear T; replace H := Option.bind_eq_some_iff.mp H
 obtain ⟨l, d5, H⟩ := H
 try dsimp only at H
 have A5 := zm d5; clear d5
 have H' := zm H
 clear H
 go_enter Tryz.func13, Tryz.ntmps13
 go_wp2_with (first | ((with_reducible refine gate_dst (N := 2) rfl ?_); refine box_event ?hg (N := 2) ?hd (cs := #[.slice A c.length q, .slice s d.length u, .slice v i.length x, .slice y j.length z]) (t := 26) ?hr ?_; (case hd => rfl); (case hg => rfl); (case hr => first | (go_simp; done) | (go_simp; rfl)); intro p hg w6 hbox hb; have m := zm (below_step (zg_1 HB.out) hb); have n := zm (hbox); have B := zm ((by rw [hg]; exact (below_size (zg_1 HB.out)) : w.heap.size ≤ p)); have E := zm ((by rw [hg]; exact (below_size (zg_1 HB.out)) : w.heap.size ≤ p)); replace HB := m; have Za := n; have Zo := B; have Zb := E; clear m n B E; clear hb hbox hg; obtain ⟨_, _, _, _, _, _, _, _⟩ := zb4 Za.out) | ((with_reducible refine gate_callee (f := 15) rfl ?_); refine goesL_ (some 10) rfl rfl Tryz.func15 (by kernel_rfl) rfl #[.agg #[.slice A c.length q, .slice s d.length u, .slice v i.length x, .slice y j.length z]] rfl zq ?_; (with_reducible refine (impl_Image_nearlyOK.calls k _ _ c _ _ d _ _ i _ _ j true _ ?side1 ?side2 ?side3 ?side4 ?side5 ?side6 ?side7 ?side8 A3.out).mono ?_); (case side1 => exact zC (Kd.C_below Zd.out HB.out)); (case side2 => exact Zf.out); (case side3 => exact zC (Kd.C_below Zg.out HB.out)); (case side4 => exact Zh.out); (case side5 => exact zC (Kd.C_below Zi.out HB.out)); (case side6 => exact Zj.out); (case side7 => exact zC (Kd.C_below Zk.out HB.out)); (case side8 => exact Zl.out); rintro e w8 ⟨rfl, hb⟩; refine ⟨_, rfl, ?_⟩; have m := zm (blk_below (g := p) (o := .cells #[.slice A c.length q, .slice s d.length u, .slice v i.length x, .slice y j.length z] 26 (0, 0)) (zg_3 Za.out) hb); have n := zm (below_step (zg_2 HB.out Zb.out) hb); replace Za := m; replace HB := n; clear m n; (try clear hb); (try clear hb2); (try clear hk); (try clear hi)) | ((with_reducible refine gate_dst (N := 12) rfl ?_); refine Kd.R_lit (Kd.int .i64) _ 3 ?hg (N := 12) ?hd (xs := ([] : List Int)) (inner := []) (ok := fun _ => True) (okp := fun _ => True) ?hr ?hp (fun _ hk => hk) trivial (Below.refl _ _) (Nat.le_refl _) (by simp) ?_; (case hd => rfl); (case hg => rfl); (case hr => first | (go_simp; done) | (go_simp; rfl)); (case hp => exact (Reps.none _ _)); intro e7 w9 L hb hg_ hnew_; clear hg_ hnew_; (first | rw [← b2.out] at L | (simp only [Int.reduceToNat] at L; rw [← b2.out] at L)); have m := zm (Kd.R_lower L (below_size (zg_2 HB.out Zb.out))); have n := zm (blk_below (g := p) (o := .cells #[.slice A c.length q, .slice s d.length u, .slice v i.length x, .slice y j.length z] 26 (0, 0)) (zg_3 Za.out) hb); have B := zm (below_step (zg_2 HB.out Zb.out) hb); have Ze := m; replace Za := n; replace HB := B; clear m n B; clear hb L; obtain ⟨_, _, _, _, _, _, _, _⟩ := zb4 Za.out) | ((with_reducible refine gate_callee (f := 16) rfl ?_); refine goesL_ (some 14) rfl rfl Tryz.func16 (by kernel_rfl) rfl #[.agg #[.slice A c.length q, .slice s d.length u, .slice v i.length x, .slice y j.length z]] rfl zq ?_; (with_reducible refine (impl_Image_counted.calls k _ _ c _ _ d _ _ i _ _ j l _ ?side1 ?side2 ?side3 ?side4 ?side5 ?side6 ?side7 ?side8 A5.out).mono ?_); (case side1 => exact zC (Kd.C_below Zd.out HB.out)); (case side2 => exact Zf.out); (case side3 => exact zC (Kd.C_below Zg.out HB.out)); (case side4 => exact Zh.out); (case side5 => exact zC (Kd.C_below Zi.out HB.out)); (case side6 => exact Zj.out); (case side7 => exact zC (Kd.C_below Zk.out HB.out)); (case side8 => exact Zl.out); rintro e f2 ⟨e8, rfl, c5, hb⟩; refine ⟨_, rfl, ?_⟩; have m := zm (Kd.R_elder' (zg_6 Ze.out) (Kd.R_base c5) hb); have n := zm (Kd.R_lower (Kd.R_new' c5 (Kd.R_lt (zg_6 Ze.out))) (below_size (zg_2 HB.out Zb.out))); have B := zm (blk_below (g := p) (o := .cells #[.slice A c.length q, .slice s d.length u, .slice v i.length x, .slice y j.length z] 26 (0, 0)) (zg_3 Za.out) hb); have E := zm (below_step (zg_2 HB.out Zb.out) hb); replace Ze := m; have Zn := n; replace Za := B; replace HB := E; clear m n B E; (try clear hb); (try clear hb2); (try clear hk); (try clear hi); (try clear c5); obtain ⟨c6, V, d8⟩ := Kd.R_slice Zn.out; subst d8))
 go_loopg [6, 16] k (fun kq v6 e2 w' => ∃ (D : List Int) (a : Int), e2 = .int .i64 a ∧ Aside0 (impl_Image_wrong_14.l0 kq D l (l.length : Int) a c d i j = some (O, S)) ∧ Aside0 (kq ≤ k) ∧ Aside0 (Kd.R (Kd.int .i64) 3 w' w.heap.size (fun k_ => some k_ ≠ ((.slice c6 l.length V) : Value).ownBlock) v6 D) ∧ Aside0 (Kd.R (Kd.int .i64) 3 w' w.heap.size (fun k_ => some k_ ≠ (v6 : Value).ownBlock) (.slice c6 l.length V) l) ∧ Aside0 (w'.heap[p]? = some (.cells #[(.slice A c.length q), (.slice s d.length u), (.slice v i.length x), (.slice y j.length z)] 26 (0, 0))) ∧ Aside0 (Below w.heap.size w w'))
 case atStart => exact ⟨(c3), (0), zr, H', ⟨Nat.le_refl _⟩, ⟨by (with_reducible repeat (first | apply Kd.R_alloc | apply Kd.R_drewN | apply Kd.R_drew)); exact Kd.R_mono Ze.out (fun _ hk => hk.2)⟩, ⟨by (with_reducible repeat (first | apply Kd.R_alloc | apply Kd.R_drewN | apply Kd.R_drew)); exact Kd.R_mono Zn.out (fun _ hk => hk.2)⟩, ⟨zl Za.out⟩, ⟨zg_2 HB.out Zb.out⟩⟩
 case round =>
  clear H'
  try clear c1
  try clear p2
  try clear c4
  try clear c7
  obtain ⟨D, a, rfl, HA, b3, Zm, Zc, Za, HB⟩ := hrel
  cases gk with
  | zero => exact absurd HA.out (by simp [impl_Image_wrong_14.l0])
  | succ k1 =>
   have H := HA.out; clear HA
   simp only [impl_Image_wrong_14.l0] at H
   by_cases M : a < (l.length : Int)
   rotate_left
   ·rw [if_neg M] at H
    have d0 := decide_eq_false M; clear M
    simp only [Option.some.injEq, Prod.mk.injEq] at H
    obtain ⟨rfl, rfl⟩ := H
    go_wp2
    go_ret2
    exact ⟨_, ze, by (with_reducible repeat (first | apply Kd.R_alloc | apply Kd.R_drewN | apply Kd.R_drew)); exact Kd.R_mono Zm.out (fun _ hk => trivial), zg_2 HB.out Zb.out⟩
   rw [if_pos M] at H; have d0 := decide_eq_true M; clear M
   by_cases b4 : 0 ≤ a
   rotate_left
   ·rw [if_neg b4] at H
    exact absurd H (by simp)
   rw [if_pos b4] at H; have e3 := decide_eq_true b4; clear b4
   by_cases b5 : a < (l.length : Int)
   rotate_left
   ·rw [if_neg b5] at H
    exact absurd H (by simp)
   rw [if_pos b5] at H; have e4 := decide_eq_true b5; clear b5
   by_cases b6 : a < (c.length : Int)
   rotate_left
   ·rw [if_neg b6] at H
    exact absurd H (by simp)
   rw [if_pos b6] at H; have e5 := decide_eq_true b6; clear b6; replace H := Option.bind_eq_some_iff.mp H
   obtain ⟨d9, c8, H⟩ := H
   try dsimp only at H
   have d6 := zm c8; clear c8
   by_cases b7 : d9 = true
   rotate_left
   ·replace b7 := Bool.eq_false_iff.mpr b7
    subst b7
    replace H : (impl_Image_wrong_14.l0 k1 D l (l.length : Int) (wrap64 (a + 1)) c d i j) = some (O, S) := by rw [if_neg (show ¬ (false = true) by decide)] at H; exact H
    have H' := zm H
    clear H
    have F : 0 ≤ (a : Int) := zd
    have G : a < (l.length : Int) := zd
    obtain ⟨b8, X, hx690_0⟩ := Kd.at_int (Kd.R_reads' Zc.out).2.2 a F G
    cases X; replace F := eq_true F; replace G := eq_true G
    obtain ⟨_, _, _, _, _, _, _, _⟩ := zb4 Za.out
    have I : 0 ≤ (a : Int) := zd
    have J : a < (c.length : Int) := zd
    obtain ⟨b9, Y, hx691_0⟩ := Kd.at_int Zd.out a I J
    cases Y; replace hx691_0 := (HB.out.cell (World.block_lt_of_cell? w _ hx691_0)).trans hx691_0; replace I := eq_true I; replace J := eq_true J
    go_wp2_with (first | ((with_reducible refine gate_dst (N := 28) rfl ?_); refine goesV (some 28) rfl rfl Tryz.func14 (by kernel_rfl) rfl #[.int .i64 (rd c a), .int .i64 (rd l a)] rfl (cap := #[]) ?hx ?hargs ?_; (case hx => rfl); (case hargs => simp [Act.eval]); (with_reducible refine (impl_WrongRefs_1.calls (rd c a) (rd l a) false _ d6.out).mono ?_); rintro e w' ⟨rfl, ⟨nd, rfl⟩⟩; refine ⟨_, rfl, ?_⟩))
    go_roundg k1
    case measure => have := b3.out; omega
    case rel => exact ⟨(D), (wrap64 (a + 1)), zr, H', ⟨by have := b3.out; omega⟩, ⟨zlR Zm.out⟩, ⟨zlR Zc.out⟩, ⟨zl Za.out⟩, ⟨zg_2 HB.out Zb.out⟩⟩
   subst b7
   replace H : (if D.length < 17592186044416 then (impl_Image_wrong_14.l0 k1 (D ++ [a]) l (l.length : Int) (wrap64 (a + 1)) c d i j) else (none)) = some (O, S) := by rw [if_pos rfl] at H; exact H
   by_cases c0 : D.length < 17592186044416
   rotate_left
   ·rw [if_neg c0] at H
    exact absurd H (by simp)
   rw [if_pos c0] at H; have d1 := zm c0; clear c0
   obtain ⟨c9, U⟩ : ∃ y_ : List Int, y_ = (D ++ [a]) := ⟨_, rfl⟩
   replace H : (impl_Image_wrong_14.l0 k1 c9 l (l.length : Int) (wrap64 (a + 1)) c d i j) = some (O, S) := zy H U
   have d2 := zm U; clear U
   have H' := zm H
   clear H
   have F : 0 ≤ (a : Int) := zd
   have G : a < (l.length : Int) := zd
   obtain ⟨b8, X, hx690_0⟩ := Kd.at_int (Kd.R_reads' Zc.out).2.2 a F G
   cases X; replace F := eq_true F; replace G := eq_true G
   obtain ⟨_, _, _, _, _, _, _, _⟩ := zb4 Za.out
   have I : 0 ≤ (a : Int) := zd
   have J : a < (c.length : Int) := zd
   obtain ⟨b9, Y, hx691_0⟩ := Kd.at_int Zd.out a I J
   cases Y; replace hx691_0 := (HB.out.cell (World.block_lt_of_cell? w _ hx691_0)).trans hx691_0; replace I := eq_true I; replace J := eq_true J
   go_wp2_with (first | ((with_reducible refine gate_dst (N := 28) rfl ?_); refine goesV (some 28) rfl rfl Tryz.func14 (by kernel_rfl) rfl #[.int .i64 (rd c a), .int .i64 (rd l a)] rfl (cap := #[]) ?hx ?hargs ?_; (case hx => rfl); (case hargs => simp [Act.eval]); (with_reducible refine (impl_WrongRefs_1.calls (rd c a) (rd l a) true _ d6.out).mono ?_); rintro e w' ⟨rfl, ⟨nd, rfl⟩⟩; refine ⟨_, rfl, ?_⟩) | ((with_reducible refine gate_builtin (b := .append) (xs := #[.tmp 29, .tmp 31]) rfl ?_); at_builtin; refine Kd.R_append (Kd.int .i64) (w0 := w) w.heap.size rfl (.tmp 29) (.tmp 31) 23 3 (.int .i64 0) 8 rfl Tryz.underlying23 info3 rfl (by decide) (by omega) u6 D a [.int .i64 a] (fun k_ => some k_ ≠ (.slice (some b8) l.length V : Value).ownBlock) (fun _ => False) rfl rfl ?aP (fun _ hk => hk.elim) ?aF ?aO ?aB ?aS ?aL ?_; (case aP => exact rfl); (case aB => exact (zg_2 HB.out Zb.out)); (case aF => exact (fun k_ hk => Kd.fresh' (Kd.R_lt (zg_6 Zc.out)) k_ hk)); (case aO => exact (zg_6 Zm.out)); (case aS => exact (below_size (zg_2 HB.out Zb.out))); (case aL => have := d1.out; omega); intro e9 f3 ho hb hg hat; rw [← d2.out] at ho; have m := zm (Kd.R_after (ok := (fun _ => True)) (by (with_reducible repeat (first | apply Kd.R_alloc | apply Kd.R_drewN | apply Kd.R_drew)); exact Kd.R_mono Zc.out (fun _ hk => ⟨trivial, hk⟩)) hg hat); have n := zm (blk_grown (g := p) (o := .cells #[.slice (some b9) c.length q, .slice s d.length u, .slice v i.length x, .slice y j.length z] 26 (0, 0)) (zg_3 Za.out) hg (Kd.R_ne Zm.out Za.out (by decide))); have B := zm (hb); have E := zm (ho); clear Zm; replace Zc := m; replace Za := n; replace HB := B; have Zp := E; clear m n B E; clear ho hb hg hat))
   go_roundg k1
   case measure => have := b3.out; omega
   case rel => exact ⟨(c9), (wrap64 (a + 1)), zr, H', ⟨by have := b3.out; omega⟩, ⟨zlR Zp.out⟩, ⟨by (with_reducible repeat (first | apply Kd.R_alloc | apply Kd.R_drewN | apply Kd.R_drew)); exact Kd.R_mono Zc.out (fun _ hk => hk.2)⟩, ⟨zl Za.out⟩, ⟨zg_2 HB.out Zb.out⟩⟩
def impl_WrongRefs.f (k : Nat) (l0_0 : List Int) (l0_1 : List Int) (l0_2 : List (S66)) (l0_3 : List Int) : Option (List Int × Int) := (impl_Image_wrong_14.f k l0_0 l0_1 l0_2 l0_3 ()).bind fun bt711 => (some (bt711.1, bt711.2))
theorem impl_WrongRefs.mono : ∀ a0 a1 a2 a3 k, LeO (impl_WrongRefs.f k a0 a1 a2 a3) (impl_WrongRefs.f (k + 1) a0 a1 a2 a3) := by
  intro a0 a1 a2 a3 k
  unfold impl_WrongRefs.f
  repeat' first| (with_reducible first | exact impl_Image_wrong_14.mono _ _ _ _ _ _ | exact LeO.refl _ | exact LeO.none _ | refine LeO.ite ?_ ?_ | refine LeO.bind ?_ (fun _ => ?_)) | exact LeO.none _ | refine LeO.ite ?_ ?_ | refine LeO.bind ?_ (fun _ => ?_)
set_option maxHeartbeats 8000000 in
set_option maxRecDepth 100000 in
theorem impl_WrongRefs.calls (k : Nat) (i : Option Addr) (j : Nat) (a : List Int) (l : Option Addr) (m : Nat) (b : List Int) (n : Option Addr) (p : Nat) (c : List (S66)) (q : Option Addr) (r : Nat) (d : List Int) (S : List Int) (T : Int) (w : World) (A : Kd.C (Kd.int .i64) w i a.length a) (B : a.length ≤ j) (D : Kd.C (Kd.int .i64) w l b.length b) (E : b.length ≤ m) (F : Kd.C k66 w n c.length c) (G : c.length ≤ p) (I : Kd.C (Kd.int .i64) w q d.length d) (J : d.length ≤ r) (h : impl_WrongRefs.f k a b c d = some (S, T)) :
    Calls Tryz.prog 5 #[.agg #[.slice i a.length j, .slice l b.length m, .slice n c.length p, .slice q d.length r]] w fun e w' => ∃ a8 : Value, e = .returned (.tuple #[a8, .int .i64 T]) ∧ Kd.R (Kd.int .i64) 3 w' w.heap.size (fun _ => True) a8 S ∧ Below w.heap.size w w' := by
 have hu26 := Tryz.underlying26; have U := zm A; have V := zm B; clear A B; have X := zm D; have Y := zm E; clear D E; have Z := zm F; have a4 := zm G; clear F G; have a5 := zm I; have a6 := zm J; clear I J; have HB := zm (Below.refl w.heap.size w)
 have H : ((impl_Image_wrong_14.f k a b c d ()).bind fun L => (some (L.1, L.2))) = some (S, T) := h
 clear h; replace H := Option.bind_eq_some_iff.mp H
 obtain ⟨⟨M, O⟩, a9, H⟩ := H
 replace H : (some (M, O)) = some (S, T) := H
 have A2 := zm a9; clear a9
 simp only [Option.some.injEq, Prod.mk.injEq] at H
 obtain ⟨rfl, rfl⟩ := H
 go_enter Tryz.func5, Tryz.ntmps5
 go_wp2_with (first | ((with_reducible refine gate_dst (N := 1) rfl ?_); refine box_event ?hg (N := 1) ?hd (cs := #[.slice i a.length j, .slice l b.length m, .slice n c.length p, .slice q d.length r]) (t := 26) ?hr ?_; (case hd => rfl); (case hg => rfl); (case hr => first | (go_simp; done) | (go_simp; rfl)); intro s hg w3 hbox hb; have x := zm (below_step (zg_1 HB.out) hb); have y := zm (hbox); have z := zm ((by rw [hg]; exact (below_size (zg_1 HB.out)) : w.heap.size ≤ s)); have b0 := zm ((by rw [hg]; exact (below_size (zg_1 HB.out)) : w.heap.size ≤ s)); replace HB := x; have u := y; have b2 := z; have v := b0; clear x y z b0; clear hb hbox hg; obtain ⟨_, _, _, _, _, _, _, _⟩ := zb4 u.out) | ((with_reducible refine gate_callee (f := 13) rfl ?_); refine goesL_ (some 5) rfl rfl Tryz.func13 (by kernel_rfl) rfl #[.agg #[.slice i a.length j, .slice l b.length m, .slice n c.length p, .slice q d.length r], .func (.func 14) #[] #[]] rfl zq ?_; (with_reducible refine (impl_Image_wrong_14.calls k _ _ a _ _ b _ _ c _ _ d () M O _ ?side1 ?side2 ?side3 ?side4 ?side5 ?side6 ?side7 ?side8 A2.out).mono ?_); (case side1 => exact zC (Kd.C_below U.out HB.out)); (case side2 => exact V.out); (case side3 => exact zC (Kd.C_below X.out HB.out)); (case side4 => exact Y.out); (case side5 => exact zC (Kd.C_below Z.out HB.out)); (case side6 => exact a4.out); (case side7 => exact zC (Kd.C_below a5.out HB.out)); (case side8 => exact a6.out); rintro e w5 ⟨b4, rfl, b1, hb⟩; refine ⟨_, rfl, ?_⟩; have x := zm (Kd.R_lower b1 (below_size (zg_2 HB.out v.out))); have y := zm (blk_below (g := s) (o := .cells #[.slice i a.length j, .slice l b.length m, .slice n c.length p, .slice q d.length r] 26 (0, 0)) (zg_3 u.out) hb); have z := zm (below_step (zg_2 HB.out v.out) hb); have a7 := x; replace u := y; replace HB := z; clear x y z; (try clear hb); (try clear hb2); (try clear hk); (try clear hi); (try clear b1)))
 go_ret2
 exact ⟨_, ze, by (with_reducible repeat (first | apply Kd.R_alloc | apply Kd.R_drewN | apply Kd.R_drew)); exact a7.out, zg_2 HB.out v.out⟩
def laws_at.f (l0 : List Int) (a1 : Int) (a2 : Int) : Option (Int) := if a2 ≤ 1 then (some 0) else (if (l0.length : Int) = 0 then (if a2 = 0 then (none) else (some (Int.tmod (wrap64 (a1 * 7)) a2))) else (if 0 ≤ (Int.tmod a1 (l0.length : Int)) then (if (Int.tmod a1 (l0.length : Int)) < (l0.length : Int) then (if 0 ≤ (Int.tmod (wrap64 (a1 + 1)) (l0.length : Int)) then (if (Int.tmod (wrap64 (a1 + 1)) (l0.length : Int)) < (l0.length : Int) then (if a2 = 0 then (none) else (some (Int.tmod (wrap64 ((wrap64 ((wrap64 ((wrap64 (rd l0 (Int.tmod a1 (l0.length : Int)))) * 31)) + (wrap64 (rd l0 (Int.tmod (wrap64 (a1 + 1)) (l0.length : Int)))))) + (wrap64 (Int.tdiv a1 (l0.length : Int))))) a2))) else (none)) else (none)) else (none)) else (none)))
set_option maxHeartbeats 8000000 in
set_option maxRecDepth 100000 in
theorem laws_at.calls (E : Option Addr) (F : Nat) (a : List Int) (a1 : Int) (a2 : Int) (r : Int) (w : World) (u : Kd.C (Kd.int .u8) w E a.length a) (v : a.length ≤ F) (h : laws_at.f a a1 a2 = some r) :
    Calls Tryz.prog 6 #[.slice E a.length F, .int .i64 a1, .int .i64 a2] w fun e w' => e = .returned (.int .i64 r) ∧ Drawn0 w w' := by
 have x := zm u; have T := zm v; clear u v; have H := h
 unfold laws_at.f at H
 clear h
 by_cases n : a2 ≤ 1
 ·rw [if_pos n] at H
  have y := decide_eq_true n; clear n; obtain rfl := Option.some.inj H
  go_enter Tryz.func6, Tryz.ntmps6
  go_wp2
  repeat (go_quiet (fail); try go_wp2)
  go_ret
  exact ⟨zr, by repeat (first | exact Drawn0.refl _ | apply Drawn0.step)⟩
 rw [if_neg n] at H; have y := decide_eq_false n; clear n
 by_cases b : (a.length : Int) = 0
 ·rw [if_pos b] at H
  have z : ((a.length : Int) == 0) = true := beq_iff_eq.mpr b
  have A : ((a.length : Int) != 0) = false := bne_eq_false_iff_eq.mpr b
  clear b
  by_cases o : a2 = 0
  ·rw [if_pos o] at H
   exact absurd H (by simp)
  rw [if_neg o] at H
  have M : (a2 == 0) = false := beq_eq_false_iff_ne.mpr o
  have N : (a2 != 0) = true := bne_iff_ne.mpr o
  obtain rfl := Option.some.inj H
  go_enter Tryz.func6, Tryz.ntmps6
  go_wp2
  repeat (go_quiet (fail); try go_wp2)
  go_ret
  exact ⟨zr, by repeat (first | exact Drawn0.refl _ | apply Drawn0.step)⟩
 rw [if_neg b] at H
 have z : ((a.length : Int) == 0) = false := beq_eq_false_iff_ne.mpr b
 have A : ((a.length : Int) != 0) = true := bne_iff_ne.mpr b
 have O : ¬ (a = []) := fun h_ => b (by rw [h_]; rfl)
 obtain ⟨ji7, hji7⟩ : ∃ j_ : Int, (Int.tmod a1 (a.length : Int)) = j_ := ⟨_, rfl⟩
 replace H : (if 0 ≤ (ji7) then (if (ji7) < (a.length : Int) then (if 0 ≤ (Int.tmod (wrap64 (a1 + 1)) (a.length : Int)) then (if (Int.tmod (wrap64 (a1 + 1)) (a.length : Int)) < (a.length : Int) then (if a2 = 0 then (none) else (some (Int.tmod (wrap64 ((wrap64 ((wrap64 ((wrap64 (rd a (ji7))) * 31)) + (wrap64 (rd a (Int.tmod (wrap64 (a1 + 1)) (a.length : Int)))))) + (wrap64 (Int.tdiv a1 (a.length : Int))))) a2))) else (none)) else (none)) else (none)) else (none)) = some r := by first | (rw [hji7] at H; exact H) | (simp only [hji7] at H ⊢; exact H)
 by_cases p : 0 ≤ (ji7)
 rotate_left
 ·rw [if_neg p] at H
  exact absurd H (by simp)
 rw [if_pos p] at H; have R := decide_eq_true p; clear p
 by_cases q : (ji7) < (a.length : Int)
 rotate_left
 ·rw [if_neg q] at H
  exact absurd H (by simp)
 rw [if_pos q] at H; have S := decide_eq_true q; clear q
 obtain ⟨ji10, hji10⟩ : ∃ j_ : Int, (Int.tmod (wrap64 (a1 + 1)) (a.length : Int)) = j_ := ⟨_, rfl⟩
 replace H : (if 0 ≤ (ji10) then (if (ji10) < (a.length : Int) then (if a2 = 0 then (none) else (some (Int.tmod (wrap64 ((wrap64 ((wrap64 ((wrap64 (rd a (ji7))) * 31)) + (wrap64 (rd a (ji10))))) + (wrap64 (Int.tdiv a1 (a.length : Int))))) a2))) else (none)) else (none)) = some r := by first | (rw [hji10] at H; exact H) | (simp only [hji10] at H ⊢; exact H)
 by_cases j : 0 ≤ (ji10)
 rotate_left
 ·rw [if_neg j] at H
  exact absurd H (by simp)
 rw [if_pos j] at H; have G := decide_eq_true j; clear j
 by_cases l : (ji10) < (a.length : Int)
 rotate_left
 ·rw [if_neg l] at H
  exact absurd H (by simp)
 rw [if_pos l] at H; have I := decide_eq_true l; clear l
 by_cases m : a2 = 0
 ·rw [if_pos m] at H
  exact absurd H (by simp)
 rw [if_neg m] at H
 have J : (a2 == 0) = false := beq_eq_false_iff_ne.mpr m
 have L : (a2 != 0) = true := bne_iff_ne.mpr m
 obtain rfl := Option.some.inj H
 have c : 0 ≤ ((ji7) : Int) := zd
 have d : (ji7) < (a.length : Int) := zd
 obtain ⟨s, B, hx715_0⟩ := Kd.at_int x.out (ji7) c d
 cases B; replace c := eq_true c; replace d := eq_true d
 have g : 0 ≤ ((ji10) : Int) := zd
 have i : (ji10) < (a.length : Int) := zd
 obtain ⟨t, D, hx716_0⟩ := Kd.at_int x.out (ji10) g i
 obtain rfl : s = t := (by injection D)
 replace g := eq_true g; replace i := eq_true i
 go_enter Tryz.func6, Tryz.ntmps6
 go_wp2
 repeat (go_quiet (fail); try go_wp2)
 go_ret
 exact ⟨by first | rfl | (simp; done) | (simp only [← hji7, ← hji10] <;> (first | rfl | simp)) | (simp [*]; done), by repeat (first | exact Drawn0.refl _ | apply Drawn0.step)⟩
def laws_sameInts.l0 : Nat → List Int → List Int → Int → Option (Bool)
  | 0, _, _, _ => none
  | k + 1, x0, x1, x5 => if x5 < (x0.length : Int) then (if 0 ≤ x5 then (if x5 < (x1.length : Int) then (if (rd x0 x5) = (rd x1 x5) then (laws_sameInts.l0 k x0 x1 (wrap64 (x5 + 1))) else (some false)) else (none)) else (none)) else (some true)
def laws_sameInts.f (k : Nat) (l0 : List Int) (l1 : List Int) : Option (Bool) := if (l0.length : Int) = (l1.length : Int) then (laws_sameInts.l0 k l0 l1 0) else (some false)
theorem laws_sameInts.mono_l : ∀ k, (∀ y0 y1 y2, LeO (laws_sameInts.l0 k y0 y1 y2) (laws_sameInts.l0 (k + 1) y0 y1 y2))
  | 0 => fun _ _ _ r h => by simp [laws_sameInts.l0] at h
  | k + 1 => by
    have ih0 := laws_sameInts.mono_l k
    · intro y0 y1 y2
      unfold laws_sameInts.l0
      repeat' first| (with_reducible first | exact ih0 _ _ _ | exact LeO.refl _ | exact LeO.none _ | refine LeO.ite ?_ ?_ | refine LeO.bind ?_ (fun _ => ?_)) | exact ih0 _ _ _ | exact LeO.none _ | refine LeO.ite ?_ ?_ | refine LeO.bind ?_ (fun _ => ?_)
theorem laws_sameInts.mono : ∀ a0 a1 k, LeO (laws_sameInts.f k a0 a1) (laws_sameInts.f (k + 1) a0 a1) := by
  intro a0 a1 k
  have ih0 := laws_sameInts.mono_l k
  unfold laws_sameInts.f
  repeat' first| (with_reducible first | exact ih0 _ _ _ | exact LeO.refl _ | exact LeO.none _ | refine LeO.ite ?_ ?_ | refine LeO.bind ?_ (fun _ => ?_)) | exact ih0 _ _ _ | exact LeO.none _ | refine LeO.ite ?_ ?_ | refine LeO.bind ?_ (fun _ => ?_)
set_option maxHeartbeats 8000000 in
set_option maxRecDepth 100000 in
theorem laws_sameInts.calls (k : Nat) (N : Option Addr) (O : Nat) (b : List Int) (R : Option Addr) (I : Nat) (c : List Int) (r : Bool) (w : World) (z : Kd.C (Kd.int .i64) w N b.length b) (A : b.length ≤ O) (B : Kd.C (Kd.int .i64) w R c.length c) (D : c.length ≤ I) (h : laws_sameInts.f k b c = some r) :
    Calls Tryz.prog 8 #[.slice N b.length O, .slice R c.length I] w fun e w' => e = .returned (.bool r) ∧ Drawn0 w w' := by
 have E := zm z; have V := zm A; clear z A; have F := zm B; have X := zm D; clear B D
 have H : (if (b.length : Int) = (c.length : Int) then (laws_sameInts.l0 k b c 0) else (some false)) = some r := h
 clear h
 by_cases l : (b.length : Int) = (c.length : Int)
 rotate_left
 ·rw [if_neg l] at H
  have q : ((b.length : Int) == (c.length : Int)) = false := beq_eq_false_iff_ne.mpr l
  have s : ((b.length : Int) != (c.length : Int)) = true := bne_iff_ne.mpr l
  have t : (b.length == c.length) = false := by first | simpa using l | (simp at l ⊢; omega)
  obtain rfl := Option.some.inj H
  go_enter Tryz.func8, Tryz.ntmps8
  go_wp2
  repeat (go_quiet (fail); try go_wp2)
  go_ret
  exact ⟨zr, by repeat (first | exact Drawn0.refl _ | apply Drawn0.step)⟩
 rw [if_pos l] at H
 have q : ((b.length : Int) == (c.length : Int)) = true := beq_iff_eq.mpr l
 have s : ((b.length : Int) != (c.length : Int)) = false := bne_eq_false_iff_eq.mpr l
 have t : (b.length == c.length) = true := by first | simpa using l | (simp at l ⊢; omega)
 clear l
 have H' := zm H
 clear H
 go_enter Tryz.func8, Tryz.ntmps8
 go_wp2
 repeat (go_quiet (fail); try go_wp2)
 go_loopg [5] k (fun kq S w' => ∃ (a : Int), S = .int .i64 a ∧ Aside0 (laws_sameInts.l0 kq b c a = some r) ∧ Aside0 (kq ≤ k) ∧ Drawn0 w w')
 case atStart => exact ⟨(0), zr, H', ⟨Nat.le_refl _⟩, by repeat (first | exact Drawn0.refl _ | apply Drawn0.step)⟩
 case round =>
  clear H'
  try clear I
  try clear Y
  try clear l
  try clear q
  try clear s
  try clear t
  obtain ⟨a, rfl, HA, G, ⟨m1, rfl⟩⟩ := hrel
  cases gk with
  | zero => exact absurd HA.out (by simp [laws_sameInts.l0])
  | succ k1 =>
   have H := HA.out; clear HA
   simp only [laws_sameInts.l0] at H
   by_cases p : a < (b.length : Int)
   rotate_left
   ·rw [if_neg p] at H
    have J := decide_eq_false p; clear p; obtain rfl := Option.some.inj H
    go_wp2
    repeat (go_quiet (fail); try go_wp2)
    go_ret
    exact ⟨zr, by repeat (first | exact Drawn0.refl _ | apply Drawn0.step)⟩
   rw [if_pos p] at H; have J := decide_eq_true p; clear p
   by_cases u : 0 ≤ a
   rotate_left
   ·rw [if_neg u] at H
    exact absurd H (by simp)
   rw [if_pos u] at H; have T := decide_eq_true u; clear u
   by_cases v : a < (c.length : Int)
   rotate_left
   ·rw [if_neg v] at H
    exact absurd H (by simp)
   rw [if_pos v] at H; have U := decide_eq_true v; clear v
   by_cases m : (rd b a) = (rd c a)
   rotate_left
   ·rw [if_neg m] at H
    have L : ((rd b a) == (rd c a)) = false := beq_eq_false_iff_ne.mpr m
    have M : ((rd b a) != (rd c a)) = true := bne_iff_ne.mpr m
    obtain rfl := Option.some.inj H
    have d : 0 ≤ (a : Int) := zd
    have g : a < (b.length : Int) := zd
    obtain ⟨x, n, hx722_0⟩ := Kd.at_int E.out a d g
    cases n; replace d := eq_true d; replace g := eq_true g
    have i : 0 ≤ (a : Int) := zd
    have j : a < (c.length : Int) := zd
    obtain ⟨y, o, hx723_0⟩ := Kd.at_int F.out a i j
    cases o; replace i := eq_true i; replace j := eq_true j
    go_wp2
    repeat (go_quiet (fail); try go_wp2)
    go_ret
    exact ⟨zr, by repeat (first | exact Drawn0.refl _ | apply Drawn0.step)⟩
   rw [if_pos m] at H
   have L : ((rd b a) == (rd c a)) = true := beq_iff_eq.mpr m
   have M : ((rd b a) != (rd c a)) = false := bne_eq_false_iff_eq.mpr m
   clear m
   have H' := zm H
   clear H
   have d : 0 ≤ (a : Int) := zd
   have g : a < (b.length : Int) := zd
   obtain ⟨x, n, hx722_0⟩ := Kd.at_int E.out a d g
   cases n; replace d := eq_true d; replace g := eq_true g
   have i : 0 ≤ (a : Int) := zd
   have j : a < (c.length : Int) := zd
   obtain ⟨y, o, hx723_0⟩ := Kd.at_int F.out a i j
   cases o; replace i := eq_true i; replace j := eq_true j
   go_wp2
   repeat (go_quiet (fail); try go_wp2)
   go_roundg k1
   case measure => have := G.out; omega
   case rel => exact ⟨(wrap64 (a + 1)), zr, H', ⟨by have := G.out; omega⟩, by repeat (first | exact Drawn0.refl _ | apply Drawn0.step)⟩
def spec_l00Source.f (l0 : List Int) : Option (List Int × Int × Int) := some (l0, 0, (l0.length : Int) % 1000)
set_option maxHeartbeats 8000000 in
set_option maxRecDepth 100000 in
theorem spec_l00Source.calls (r : Option Addr) (s : Nat) (b : List Int) (u : List Int) (v : Int) (x : Int) (c w : World) (hB : Below c.heap.size c w) (j : Kd.C (Kd.int .u8) c r b.length b) (l : b.length ≤ s) (h : spec_l00Source.f b = some (u, v, x)) :
    Calls Tryz.prog 11 #[.slice r b.length s] w fun e w' => ∃ g_ : Nat, e = .returned (.pointer (some ⟨g_, 0, none⟩)) ∧ IsS42 c w' g_ u v x ∧ Below c.heap.size c w' ∧ Below w.heap.size w w' := by
  have hu42 := Tryz.underlying42; have y := zm j; have A := zm l; clear j l; have HBW := zm (Below.refl w.heap.size w); have z := zm hB.size; have HB := zm hB; clear hB
  have H : (some (b, 0, (b.length : Int) % 1000)) = some (u, v, x) := h
  clear h
  simp only [Option.some.injEq, Prod.mk.injEq] at H
  obtain ⟨rfl, rfl, rfl⟩ := H
  go_enter Tryz.func11, Tryz.ntmps11
  go_wp2_with (first | ((with_reducible refine gate_dst (N := 8) rfl ?_); refine box_event ?hg (N := 8) ?hd (cs := #[.slice r b.length s, .int .i64 0, .int .i64 ((b.length : Int) % 1000)]) (t := 42) ?hr ?_; (case hd => rfl); (case hg => rfl); (case hr => first | (go_simp; done) | (go_simp; rfl)); intro a hg B hbox hb; have m := zm (below_step HBW.out hb); have n := zm (below_step (by repeat (first | (with_reducible first | exact HB.out | apply below_alloc | apply pw_below_drewN | apply below_drew1) | exact HB.out)) hb); have o := zm (hbox); have p := zm ((by rw [hg]; exact (below_size (by repeat (first | (with_reducible first | exact HBW.out | apply below_alloc | apply pw_below_drewN | apply below_drew1) | exact HBW.out))) : w.heap.size ≤ a)); have q := zm ((Nat.le_trans z.out (by rw [hg]; exact (below_size (by repeat (first | (with_reducible first | exact HBW.out | apply below_alloc | apply pw_below_drewN | apply below_drew1) | exact HBW.out))) : w.heap.size ≤ a) : c.heap.size ≤ a)); replace HBW := m; replace HB := n; have g := o; have i := p; have d := q; clear m n o p q; clear hb hbox hg))
  go_ret
  exact ⟨_, rfl, (show IsS42 c _ a b 0 ((b.length : Int) % 1000) from ⟨_, _, by (with_reducible repeat (first | refine blk_drewN ?_ _ | refine blk_drew ?_ | refine blk_alloc ?_ _)); exact g.out, d.out, y.out⟩), by repeat (first | (with_reducible first | exact HB.out | apply below_alloc | apply pw_below_drewN | apply below_drew1 | refine below_set ?_ d.out) | exact HB.out), by repeat (first | (with_reducible first | exact HBW.out | apply below_alloc | apply pw_below_drewN | apply below_drew1 | refine below_set ?_ i.out) | exact HBW.out)⟩
def spec_l00Src_byte.f (s0_0 : List Int) (s0_1 : Int) (s0_2 : Int) : Option (Int × Int × Int) := if (wrap64 (s0_1 + 1)) ≤ (s0_0.length : Int) then (if 0 ≤ (wrap64 ((wrap64 (s0_1 + 1)) - 1)) then (if (wrap64 ((wrap64 (s0_1 + 1)) - 1)) < (s0_0.length : Int) then (some (wrap64 (rd s0_0 (wrap64 ((wrap64 (s0_1 + 1)) - 1))), wrap64 (s0_1 + 1), Int.tmod (wrap64 ((wrap64 ((wrap64 (s0_2 * 31)) + (wrap64 (rd s0_0 (wrap64 ((wrap64 (s0_1 + 1)) - 1)))))) + 7)) 2147483648)) else (none)) else (none)) else (if (wrap64 (s0_1 + 1)) > 3000 then (some (0, wrap64 (s0_1 + 1), s0_2)) else (some (Int.tmod (wrap64 (Int.tdiv (Int.tmod (wrap64 ((wrap64 (s0_2 * 1103515245)) + 12345)) 2147483648) 65536)) 256, wrap64 (s0_1 + 1), Int.tmod (wrap64 ((wrap64 (s0_2 * 1103515245)) + 12345)) 2147483648)))
set_option maxHeartbeats 8000000 in
set_option maxRecDepth 100000 in
theorem spec_l00Src_byte.calls (g : Nat) (a : List Int) (b : Int) (i : Int) (r : Int) (s : Int) (l : Int) (d w : World) (hI : IsS42 d w g a b i) (hB : Below d.heap.size d w) (h : spec_l00Src_byte.f a b i = some (r, s, l)) :
    Calls Tryz.prog 43 #[.pointer (some ⟨g, 0, none⟩)] w fun e w' => e = .returned (.int .i64 r) ∧ IsS42 d w' g a s l ∧ Below d.heap.size d w' ∧ KeepBut w w' g none := by
 have hu42 := Tryz.underlying42
 obtain ⟨A, c, hb, hge, hr⟩ := hI
 have t := cellS42_1 hb; have hf1 := blk_frozen hb 1
 have hb1 : (w.setCell ⟨g, 1, none⟩ (.int .i64 (wrap64 (b + 1)))).heap[g]? = some (.cells #[.slice A a.length c, .int .i64 (wrap64 (b + 1)), .int .i64 i] 42 (0, 0)) := by simpa using blk_set hb 1 _
 have hk1 : KeepBut w (w.setCell ⟨g, 1, none⟩ (.int .i64 (wrap64 (b + 1)))) g none := KeepBut.set_ (KeepBut.refl w g none) 1 _
 have hB1 : Below d.heap.size d (w.setCell ⟨g, 1, none⟩ (.int .i64 (wrap64 (b + 1)))) := below_set hB hge
 have HH := zm h; clear h; have HR := zm hr; clear hr
 go_enter Tryz.func43, Tryz.ntmps43
 go_wp2
 generalize w.setCell ⟨g, 1, none⟩ (.int .i64 (wrap64 (b + 1))) = j at hb1 hk1 hB1 ⊢
 generalize hx : wrap64 (b + 1) = x at hb1 ⊢
 clear hb t hf1; have hd0 := cellS42_0 hb1; have hd1 := cellS42_1 hb1; have hd2 := cellS42_2 hb1; have hf2 := blk_frozen hb1 2; have H := HH.out; clear HH
 unfold spec_l00Src_byte.f at H
 rw [hx] at H
 by_cases n : x ≤ (a.length : Int)
 rotate_left
 ·rw [if_neg n] at H
  have hd : decide (x ≤ (a.length : Int)) = false := decide_eq_false n
  go_quiet (fail)
  have hb3 : (j.drewN nq).heap[g]? = some (.cells #[.slice A a.length c, .int .i64 x, .int .i64 i] 42 (0, 0)) := hb1
  have hB3 : Below d.heap.size d (j.drewN nq) := (pw_below_drewN hB1 _)
  have hk3 : KeepBut w (j.drewN nq) g none := (keep_drewN hk1 _)
  generalize hw3 : (j.drewN nq) = m at hb3 hB3 hk3 ⊢
  clear hd0 hd1 hd2 hf2; have he0 := cellS42_0 hb3; have he1 := cellS42_1 hb3; have he2 := cellS42_2 hb3; have hf3 := blk_frozen hb3 2
  by_cases o : x > 3000
  ·rw [if_pos o] at H
   have hd' : decide (x > 3000) = true := decide_eq_true o
   injection H with H
   injection H with H1 H2
   injection H2 with H2 H3
   subst H1 H2 H3
   go_wp2
   go_ret
   exact ⟨rfl, ⟨_, _, hb3, hge, HR.out⟩, hB3, hk3⟩
  rw [if_neg o] at H
  have hd' : decide (x > 3000) = false := decide_eq_false o
  injection H with H
  injection H with H1 H2
  injection H2 with H2 H3
  subst H1 H2 H3
  go_wp2
  go_ret
  exact ⟨by first | rfl | (simp only [i64_w]; rfl), ⟨_, _, by simpa [World.drewN, World.drew] using blk_set hb3 2 _, hge, HR.out⟩, below_set hB3 hge, KeepBut.set_ hk3 2 _⟩
 rw [if_pos n] at H
 by_cases p : 0 ≤ wrap64 (x - 1)
 rotate_left
 ·rw [if_neg p] at H; cases H
 rw [if_pos p] at H
 by_cases q : wrap64 (x - 1) < (a.length : Int)
 rotate_left
 ·rw [if_neg q] at H; cases H
 rw [if_pos q] at H
 obtain ⟨ad, ha, hv⟩ := Kd.at_int HR.out (wrap64 (x - 1)) p q
 subst ha; have hv1 := pw_cell_below hB1 hv
 have hd : decide (x ≤ (a.length : Int)) = true := decide_eq_true n
 go_quiet (fail)
 go_wp2
 refine wp_region_still_tail 21 (by kernel_rfl) (by kernel_rfl) ?_
 simp only [List.take_succ_cons, List.take_zero, List.drop_succ_cons, List.drop_zero]
 change wpStill _ _ (j.drewN nq).drew (fun a' => wpList _ _ _ _ a' (j.drewN nq).drew) _ _
 have hb3 : (j.drewN nq).drew.heap[g]? = some (.cells #[.slice (some ad) a.length c, .int .i64 x, .int .i64 i] 42 (0, 0)) := hb1
 have hv3 : (j.drewN nq).drew.cell? (ad.add (wrap64 (x - 1)).toNat) = some (.int .u8 (rd a (wrap64 (x - 1)))) := hv1
 have hB3 : Below d.heap.size d (j.drewN nq).drew := below_drew1 (pw_below_drewN hB1 _)
 have hk3 : KeepBut w (j.drewN nq).drew g none := keep_drew (keep_drewN hk1 _)
 generalize hw3 : (j.drewN nq).drew = m at hb3 hv3 hB3 hk3 ⊢
 have he0 := cellS42_0 hb3; have he1 := cellS42_1 hb3; have he2 := cellS42_2 hb3; have hf3 := blk_frozen hb3 2
 have ew : IntKind.i64.wrap (x - 1) = wrap64 (x - 1) := i64_w _
 generalize wrap64 (x - 1) = y at p q H hv hv1 hv3 ew
 repeat still_step
 refine wpStill_nil ?_
 go_wp2
 injection H with H
 injection H with H1 H2
 injection H2 with H2 H3
 subst H1 H2
 rw [H3]
 clear H3
 have hb4 : (m.setCell ⟨g, 2, none⟩ (.int .i64 l)).heap[g]? = some (.cells #[.slice (some ad) a.length c, .int .i64 x, .int .i64 l] 42 (0, 0)) := by simpa using blk_set hb3 2 _
 have hk4 : KeepBut w (m.setCell ⟨g, 2, none⟩ (.int .i64 l)) g none := KeepBut.set_ hk3 2 _
 have hB4 : Below d.heap.size d (m.setCell ⟨g, 2, none⟩ (.int .i64 l)) := below_set hB3 hge
 generalize m.setCell ⟨g, 2, none⟩ (.int .i64 l) = u at hb4 hk4 hB4 ⊢
 clear he0 he1 he2 hf3 hv3 hv1 hd0 hd1 hd2 hf2 hb3 hb1 hk1 hB1; have hv4 := pw_cell_below hB4 hv; have he0 := cellS42_0 hb4; have he1 := cellS42_1 hb4
 go_quiet (fail)
 go_wp2
 go_ret
 exact ⟨(by rw [i64_w]; rfl), ⟨_, _, hb4, hge, HR.out⟩, pw_below_drewN hB4 _, keep_drewN hk4 _⟩
def spec_l00Src_next.f (s0_0 : List Int) (s0_1 : Int) (s0_2 : Int) (a1 : Int) : Option (Int × Int × Int) := if a1 ≤ 1 then (some (0, s0_1, s0_2)) else (if a1 ≤ 256 then ((spec_l00Src_byte.f s0_0 s0_1 s0_2).bind fun bt127 => (if a1 = 0 then (none) else (some (Int.tmod bt127.1 a1, bt127.2.1, bt127.2.2)))) else ((spec_l00Src_byte.f s0_0 s0_1 s0_2).bind fun bt130 => ((spec_l00Src_byte.f s0_0 bt130.2.1 bt130.2.2).bind fun bt133 => ((spec_l00Src_byte.f s0_0 bt133.2.1 bt133.2.2).bind fun bt136 => (if a1 = 0 then (none) else (some (Int.tmod (wrap64 ((wrap64 ((wrap64 (bt130.1 * 65536)) + (wrap64 (bt133.1 * 256)))) + bt136.1)) a1, bt136.2.1, bt136.2.2)))))))
set_option maxHeartbeats 8000000 in
set_option maxRecDepth 100000 in
theorem spec_l00Src_next.calls (g : Nat) (i : List Int) (l : Int) (m : Int) (a1 : Int) (M : Int) (N : Int) (O : Int) (j w : World) (hI : IsS42 j w g i l m) (hB : Below j.heap.size j w) (h : spec_l00Src_next.f i l m a1 = some (M, N, O)) :
    Calls Tryz.prog 20 #[.pointer (some ⟨g, 0, none⟩), .int .i64 a1] w fun e w' => e = .returned (.int .i64 M) ∧ IsS42 j w' g i N O ∧ Below j.heap.size j w' ∧ KeepBut w w' g none := by
 have a := zm hI; have HK := zm (KeepBut.refl w g none); have HL := zm hB.size; clear hI; have a0 := zm hB.size; have HB := zm hB; clear hB; have H := h
 unfold spec_l00Src_next.f at H
 clear h
 by_cases o : a1 ≤ 1
 ·rw [if_pos o] at H
  have A := decide_eq_true o; clear o
  simp only [Option.some.injEq, Prod.mk.injEq] at H
  obtain ⟨rfl, rfl, rfl⟩ := H
  go_enter Tryz.func20, Tryz.ntmps20
  go_wp2
  go_ret
  exact ⟨ze, zg_7 a.out, zg_8 HB.out a.out, zg_9 HK.out⟩
 rw [if_neg o] at H; have A := decide_eq_false o; clear o
 by_cases p : a1 ≤ 256
 ·rw [if_pos p] at H
  have B := decide_eq_true p; clear p; replace H := Option.bind_eq_some_iff.mp H
  obtain ⟨⟨C, D, E⟩, x, H⟩ := H
  try dsimp only at H
  have U := zm x; clear x
  by_cases v : a1 = 0
  ·rw [if_pos v] at H
   exact absurd H (by simp)
  rw [if_neg v] at H
  have V : (a1 == 0) = false := beq_eq_false_iff_ne.mpr v
  have X : (a1 != 0) = true := bne_iff_ne.mpr v
  simp only [Option.some.injEq, Prod.mk.injEq] at H
  obtain ⟨rfl, rfl, rfl⟩ := H
  go_enter Tryz.func20, Tryz.ntmps20
  go_wp2_with (first | ((with_reducible refine gate_callee (f := 43) rfl ?_); refine goesL_ (some 13) rfl rfl Tryz.func43 (by kernel_rfl) rfl #[.pointer (some ⟨g, 0, none⟩)] rfl zq ?_; (with_reducible refine (spec_l00Src_byte.calls g i l m C D E j _ ?side1 ?side2 U.out).mono ?_); (case side1 => exact (zg_7 a.out)); (case side2 => exact (zg_8 HB.out a.out)); rintro e w7 ⟨rfl, hi, hb, hk⟩; refine ⟨_, rfl, ?_⟩; have b := zm (KeepBut.trans (zg_9 HK.out) hk (.inl rfl)); have c := zm (hb); have d := zm (hi); replace HK := b; replace HB := c; replace a := d; clear b c d; (try clear hb); (try clear hb2); (try clear hk); (try clear hi)))
  go_ret
  exact ⟨ze, zg_7 a.out, zg_8 HB.out a.out, zg_9 HK.out⟩
 rw [if_neg p] at H; have B := decide_eq_false p; clear p; replace H := Option.bind_eq_some_iff.mp H
 obtain ⟨⟨F, q, r⟩, y, H⟩ := H
 try dsimp only at H
 have Y := zm y; clear y; replace H := Option.bind_eq_some_iff.mp H
 obtain ⟨⟨G, s, t⟩, z, H⟩ := H
 try dsimp only at H
 have Z := zm z; clear z; replace H := Option.bind_eq_some_iff.mp H
 obtain ⟨⟨I, J, L⟩, u, H⟩ := H
 try dsimp only at H
 have R := zm u; clear u
 by_cases n : a1 = 0
 ·rw [if_pos n] at H
  exact absurd H (by simp)
 rw [if_neg n] at H
 have S : (a1 == 0) = false := beq_eq_false_iff_ne.mpr n
 have T : (a1 != 0) = true := bne_iff_ne.mpr n
 simp only [Option.some.injEq, Prod.mk.injEq] at H
 obtain ⟨rfl, rfl, rfl⟩ := H
 go_enter Tryz.func20, Tryz.ntmps20
 go_wp2_with (first | ((with_reducible refine gate_callee (f := 43) rfl ?_); refine goesL_ (some 17) rfl rfl Tryz.func43 (by kernel_rfl) rfl #[.pointer (some ⟨g, 0, none⟩)] rfl zq ?_; (with_reducible refine (spec_l00Src_byte.calls g i l m F q r j _ ?side1 ?side2 Y.out).mono ?_); (case side1 => exact (zg_7 a.out)); (case side2 => exact (zg_8 HB.out a.out)); rintro e a2 ⟨rfl, hi, hb, hk⟩; refine ⟨_, rfl, ?_⟩; have b := zm (KeepBut.trans (zg_9 HK.out) hk (.inl rfl)); have c := zm (hb); have d := zm (hi); replace HK := b; replace HB := c; replace a := d; clear b c d; (try clear hb); (try clear hb2); (try clear hk); (try clear hi)) | ((with_reducible refine gate_callee (f := 43) rfl ?_); refine goesL_ (some 19) rfl rfl Tryz.func43 (by kernel_rfl) rfl #[.pointer (some ⟨g, 0, none⟩)] rfl zq ?_; (with_reducible refine (spec_l00Src_byte.calls g i q r G s t j _ ?side1 ?side2 Z.out).mono ?_); (case side1 => exact (zg_7 a.out)); (case side2 => exact (zg_8 HB.out a.out)); rintro e a3 ⟨rfl, hi, hb, hk⟩; refine ⟨_, rfl, ?_⟩; have b := zm (KeepBut.trans (zg_9 HK.out) hk (.inl rfl)); have c := zm (hb); have d := zm (hi); replace HK := b; replace HB := c; replace a := d; clear b c d; (try clear hb); (try clear hb2); (try clear hk); (try clear hi)) | ((with_reducible refine gate_callee (f := 43) rfl ?_); refine goesL_ (some 21) rfl rfl Tryz.func43 (by kernel_rfl) rfl #[.pointer (some ⟨g, 0, none⟩)] rfl zq ?_; (with_reducible refine (spec_l00Src_byte.calls g i s t I J L j _ ?side1 ?side2 R.out).mono ?_); (case side1 => exact (zg_7 a.out)); (case side2 => exact (zg_8 HB.out a.out)); rintro e a4 ⟨rfl, hi, hb, hk⟩; refine ⟨_, rfl, ?_⟩; have b := zm (KeepBut.trans (zg_9 HK.out) hk (.inl rfl)); have c := zm (hb); have d := zm (hi); replace HK := b; replace HB := c; replace a := d; clear b c d; (try clear hb); (try clear hb2); (try clear hk); (try clear hi)))
 go_ret
 exact ⟨ze, zg_7 a.out, zg_8 HB.out a.out, zg_9 HK.out⟩
def spec_l00Src_chance.f (s0_0 : List Int) (s0_1 : Int) (s0_2 : Int) (a1 : Int) : Option (Bool × Int × Int) := (spec_l00Src_next.f s0_0 s0_1 s0_2 a1).bind fun bt139 => (some ((bt139.1 == (wrap64 (a1 - 1))), bt139.2.1, bt139.2.2))
set_option maxHeartbeats 8000000 in
set_option maxRecDepth 100000 in
theorem spec_l00Src_chance.calls (g : Nat) (a : List Int) (c : Int) (d : Int) (a1 : Int) (r : Bool) (s : Int) (t : Int) (i w : World) (hI : IsS42 i w g a c d) (hB : Below i.heap.size i w) (h : spec_l00Src_chance.f a c d a1 = some (r, s, t)) :
    Calls Tryz.prog 21 #[.pointer (some ⟨g, 0, none⟩), .int .i64 a1] w fun e w' => e = .returned (.bool r) ∧ IsS42 i w' g a s t ∧ Below i.heap.size i w' ∧ KeepBut w w' g none := by
 have b := zm hI; have HK := zm (KeepBut.refl w g none); have HL := zm hB.size; clear hI; have v := zm hB.size; have HB := zm hB; clear hB; have H := h
 unfold spec_l00Src_chance.f at H
 clear h; replace H := Option.bind_eq_some_iff.mp H
 obtain ⟨⟨o, p, q⟩, j, H⟩ := H
 try dsimp only at H
 have u := zm j; clear j
 simp only [Option.some.injEq, Prod.mk.injEq] at H
 obtain ⟨rfl, rfl, rfl⟩ := H
 go_enter Tryz.func21, Tryz.ntmps21
 go_wp2_with (first | ((with_reducible refine gate_callee (f := 20) rfl ?_); refine goesL_ (some 7) rfl rfl Tryz.func20 (by kernel_rfl) rfl #[.pointer (some ⟨g, 0, none⟩), .int .i64 a1] rfl zq ?_; (with_reducible refine (spec_l00Src_next.calls g a c d a1 o p q i _ ?side1 ?side2 u.out).mono ?_); (case side1 => exact (zg_7 b.out)); (case side2 => exact (zg_8 HB.out b.out)); rintro e x ⟨rfl, hi, hb, hk⟩; refine ⟨_, rfl, ?_⟩; have l := zm (KeepBut.trans (zg_9 HK.out) hk (.inl rfl)); have m := zm (hb); have n := zm (hi); replace HK := l; replace HB := m; replace b := n; clear l m n; (try clear hb); (try clear hb2); (try clear hk); (try clear hi)))
 go_ret
 exact ⟨ze, zg_7 b.out, zg_8 HB.out b.out, zg_9 HK.out⟩
end Go.Proofs.YtnibgibjfpbagaaGreat.Q
