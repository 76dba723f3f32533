/- What laws.FnExactGuestOf reaches, part 5: the functions as Lean functions, the proofs that the program's functions answer so, and plain laws about them. -/
import Derived.Test.YtglcnnmobkocmaaGreatKFnExactGuestOf1
import Derived.Test.YtglcnnmobkocmaaGreatKFnExactGuestOf4
namespace Go.Proofs.YtglcnnmobkocmaaGreat.Q
open Go.RowKit Go.Proofs.YtglcnnmobkocmaaGreat.Ext Go.Proofs.YtglcnnmobkocmaaGreatW.PrintWords Go.Proofs.YtglcnnmobkocmaaGreatW.PrintLast Go.Proofs.YtglcnnmobkocmaaGreatW.PrintMore
attribute [local go_sem] max2_int min2_int max_two min_two max_three min_three max_four min_four   -- for this text's walks alone
set_option linter.unusedVariables false
set_option linter.unusedSimpArgs false

set_option linter.unusedVariables false
set_option linter.unusedSimpArgs false
/-! ### laws_markImage: function 20 -/
def laws_markImage.f (k : Nat) (l0_0 : List Int) (l0_1 : List Int) (l0_2 : List (S103)) (l0_3 : List Int) (a1 : Int) : Option (Int) := (laws_markIntS.f k l0_0 a1).bind fun t0 => (laws_markIntS.f k l0_1 t0.1).bind fun t1 => (laws_markSnapS.f k l0_2 t1.1).bind fun t2 => (laws_markIntS.f k l0_3 t2.1).bind fun t3 => some (t3.1)
theorem laws_markImage.mono : ∀ b0 b1 b2 b3 a1 k, LeO (laws_markImage.f k b0 b1 b2 b3 a1) (laws_markImage.f (k + 1) b0 b1 b2 b3 a1) := fun _ _ _ _ _ _ => LeO.bind (laws_markIntS.mono _ _ _) fun _ => LeO.bind (laws_markIntS.mono _ _ _) fun _ => LeO.bind (laws_markSnapS.mono _ _ _) fun _ => LeO.bind (laws_markIntS.mono _ _ _) fun _ => LeO.refl _
set_option maxHeartbeats 8000000 in
set_option maxRecDepth 100000 in
theorem laws_markImage.calls (k : Nat) (P0_0_ : Nat → Prop) (u9000_ : Value) (l0_0 : List Int) (P0_1_ : Nat → Prop) (u9001_ : Value) (l0_1 : List Int) (P0_2_ : Nat → Prop) (u9002_ : Value) (l0_2 : List (S103)) (P0_3_ : Nat → Prop) (u9003_ : Value) (l0_3 : List Int) (a1 : Int) (r : Int) (w0 w : World) (hB : Below w0.heap.size w0 w) (ho0_0 : Kd.R (Kd.int .i64) 3 w w0.heap.size P0_0_ u9000_ l0_0) (hp0_0_0_1 : ∀ k_, P0_0_ k_ → ¬ P0_1_ k_) (hp0_0_0_2 : ∀ k_, P0_0_ k_ → ¬ P0_2_ k_) (hp0_0_0_3 : ∀ k_, P0_0_ k_ → ¬ P0_3_ k_) (ho0_1 : Kd.R (Kd.int .i64) 3 w w0.heap.size P0_1_ u9001_ l0_1) (hp0_1_0_0 : ∀ k_, P0_1_ k_ → ¬ P0_0_ k_) (hp0_1_0_2 : ∀ k_, P0_1_ k_ → ¬ P0_2_ k_) (hp0_1_0_3 : ∀ k_, P0_1_ k_ → ¬ P0_3_ k_) (ho0_2 : Kd.S k103 103 w w0.heap.size P0_2_ u9002_ l0_2) (hp0_2_0_0 : ∀ k_, P0_2_ k_ → ¬ P0_0_ k_) (hp0_2_0_1 : ∀ k_, P0_2_ k_ → ¬ P0_1_ k_) (hp0_2_0_3 : ∀ k_, P0_2_ k_ → ¬ P0_3_ k_) (ho0_3 : Kd.R (Kd.int .i64) 3 w w0.heap.size P0_3_ u9003_ l0_3) (hp0_3_0_0 : ∀ k_, P0_3_ k_ → ¬ P0_0_ k_) (hp0_3_0_1 : ∀ k_, P0_3_ k_ → ¬ P0_1_ k_) (hp0_3_0_2 : ∀ k_, P0_3_ k_ → ¬ P0_2_ k_) (h : laws_markImage.f k l0_0 l0_1 l0_2 l0_3 a1 = some r) :
    Calls Tryz.prog 20 #[.agg #[u9000_, u9001_, u9002_, u9003_], .int .i64 a1] w fun e w' => e = .returned (.int .i64 r) ∧ Below w0.heap.size w0 w' ∧ Kept w w' (fun k_ => P0_0_ k_ ∨ P0_1_ k_ ∨ P0_2_ k_ ∨ P0_3_ k_) := by
 have hu26 := Tryz.underlying26
 obtain ⟨Ao0, co0, rfl⟩ := Kd.R_slice ho0_0
 obtain ⟨Ao1, co1, rfl⟩ := Kd.R_slice ho0_1
 obtain ⟨Ao2, co2, rfl⟩ := Kd.S_slice ho0_2
 obtain ⟨Ao3, co3, rfl⟩ := Kd.R_slice ho0_3
 have B0 := zm (show Kd.R (Kd.int .i64) 3 w w0.heap.size (fun k_ => some k_ = (.slice Ao0 l0_0.length co0 : Value).ownBlock) (.slice Ao0 l0_0.length co0 : Value) l0_0 from Kd.R_tight rfl ho0_0)
 have lt0 := zm (show ∀ k_, (fun k_ => some k_ = (.slice Ao0 l0_0.length co0 : Value).ownBlock) k_ → k_ < w.heap.size from fun k_ e_ => Kd.R_lt ho0_0 k_ e_.symm)
 have in0 := zm (show ∀ k_, (fun k_ => some k_ = (.slice Ao0 l0_0.length co0 : Value).ownBlock) k_ → P0_0_ k_ from fun k_ e_ => ho0_0.1 k_ e_.symm)
 have B1 := zm (show Kd.R (Kd.int .i64) 3 w w0.heap.size (fun k_ => some k_ = (.slice Ao1 l0_1.length co1 : Value).ownBlock) (.slice Ao1 l0_1.length co1 : Value) l0_1 from Kd.R_tight rfl ho0_1)
 have lt1 := zm (show ∀ k_, (fun k_ => some k_ = (.slice Ao1 l0_1.length co1 : Value).ownBlock) k_ → k_ < w.heap.size from fun k_ e_ => Kd.R_lt ho0_1 k_ e_.symm)
 have in1 := zm (show ∀ k_, (fun k_ => some k_ = (.slice Ao1 l0_1.length co1 : Value).ownBlock) k_ → P0_1_ k_ from fun k_ e_ => ho0_1.1 k_ e_.symm)
 have B2 := zm (show Kd.S k103 103 w w0.heap.size (fun k_ => P0_2_ k_ ∧ k_ < w.heap.size) (.slice Ao2 l0_2.length co2 : Value) l0_2 from Kd.S_mono (Kd.S_bound ho0_2) (fun _ h_ => ⟨h_.1, h_.2.2.1⟩))
 have lt2 := zm (show ∀ k_, (fun k_ => P0_2_ k_ ∧ k_ < w.heap.size) k_ → k_ < w.heap.size from fun _ h_ => h_.2)
 have in2 := zm (show ∀ k_, (fun k_ => P0_2_ k_ ∧ k_ < w.heap.size) k_ → P0_2_ k_ from fun _ h_ => h_.1)
 have B3 := zm (show Kd.R (Kd.int .i64) 3 w w0.heap.size (fun k_ => some k_ = (.slice Ao3 l0_3.length co3 : Value).ownBlock) (.slice Ao3 l0_3.length co3 : Value) l0_3 from Kd.R_tight rfl ho0_3)
 have lt3 := zm (show ∀ k_, (fun k_ => some k_ = (.slice Ao3 l0_3.length co3 : Value).ownBlock) k_ → k_ < w.heap.size from fun k_ e_ => Kd.R_lt ho0_3 k_ e_.symm)
 have in3 := zm (show ∀ k_, (fun k_ => some k_ = (.slice Ao3 l0_3.length co3 : Value).ownBlock) k_ → P0_3_ k_ from fun k_ e_ => ho0_3.1 k_ e_.symm)
 have ap0_1 := zm (show ∀ k_, (fun k_ => some k_ = (.slice Ao0 l0_0.length co0 : Value).ownBlock) k_ → ¬ (fun k_ => some k_ = (.slice Ao1 l0_1.length co1 : Value).ownBlock) k_ from fun k_ h_ h2_ => hp0_0_0_1 k_ (in0.out k_ h_) (in1.out k_ h2_))
 have ap0_2 := zm (show ∀ k_, (fun k_ => some k_ = (.slice Ao0 l0_0.length co0 : Value).ownBlock) k_ → ¬ (fun k_ => P0_2_ k_ ∧ k_ < w.heap.size) k_ from fun k_ h_ h2_ => hp0_0_0_2 k_ (in0.out k_ h_) (in2.out k_ h2_))
 have ap0_3 := zm (show ∀ k_, (fun k_ => some k_ = (.slice Ao0 l0_0.length co0 : Value).ownBlock) k_ → ¬ (fun k_ => some k_ = (.slice Ao3 l0_3.length co3 : Value).ownBlock) k_ from fun k_ h_ h2_ => hp0_0_0_3 k_ (in0.out k_ h_) (in3.out k_ h2_))
 have ap1_0 := zm (show ∀ k_, (fun k_ => some k_ = (.slice Ao1 l0_1.length co1 : Value).ownBlock) k_ → ¬ (fun k_ => some k_ = (.slice Ao0 l0_0.length co0 : Value).ownBlock) k_ from fun k_ h_ h2_ => hp0_1_0_0 k_ (in1.out k_ h_) (in0.out k_ h2_))
 have ap1_2 := zm (show ∀ k_, (fun k_ => some k_ = (.slice Ao1 l0_1.length co1 : Value).ownBlock) k_ → ¬ (fun k_ => P0_2_ k_ ∧ k_ < w.heap.size) k_ from fun k_ h_ h2_ => hp0_1_0_2 k_ (in1.out k_ h_) (in2.out k_ h2_))
 have ap1_3 := zm (show ∀ k_, (fun k_ => some k_ = (.slice Ao1 l0_1.length co1 : Value).ownBlock) k_ → ¬ (fun k_ => some k_ = (.slice Ao3 l0_3.length co3 : Value).ownBlock) k_ from fun k_ h_ h2_ => hp0_1_0_3 k_ (in1.out k_ h_) (in3.out k_ h2_))
 have ap2_0 := zm (show ∀ k_, (fun k_ => P0_2_ k_ ∧ k_ < w.heap.size) k_ → ¬ (fun k_ => some k_ = (.slice Ao0 l0_0.length co0 : Value).ownBlock) k_ from fun k_ h_ h2_ => hp0_2_0_0 k_ (in2.out k_ h_) (in0.out k_ h2_))
 have ap2_1 := zm (show ∀ k_, (fun k_ => P0_2_ k_ ∧ k_ < w.heap.size) k_ → ¬ (fun k_ => some k_ = (.slice Ao1 l0_1.length co1 : Value).ownBlock) k_ from fun k_ h_ h2_ => hp0_2_0_1 k_ (in2.out k_ h_) (in1.out k_ h2_))
 have ap2_3 := zm (show ∀ k_, (fun k_ => P0_2_ k_ ∧ k_ < w.heap.size) k_ → ¬ (fun k_ => some k_ = (.slice Ao3 l0_3.length co3 : Value).ownBlock) k_ from fun k_ h_ h2_ => hp0_2_0_3 k_ (in2.out k_ h_) (in3.out k_ h2_))
 have ap3_0 := zm (show ∀ k_, (fun k_ => some k_ = (.slice Ao3 l0_3.length co3 : Value).ownBlock) k_ → ¬ (fun k_ => some k_ = (.slice Ao0 l0_0.length co0 : Value).ownBlock) k_ from fun k_ h_ h2_ => hp0_3_0_0 k_ (in3.out k_ h_) (in0.out k_ h2_))
 have ap3_1 := zm (show ∀ k_, (fun k_ => some k_ = (.slice Ao3 l0_3.length co3 : Value).ownBlock) k_ → ¬ (fun k_ => some k_ = (.slice Ao1 l0_1.length co1 : Value).ownBlock) k_ from fun k_ h_ h2_ => hp0_3_0_1 k_ (in3.out k_ h_) (in1.out k_ h2_))
 have ap3_2 := zm (show ∀ k_, (fun k_ => some k_ = (.slice Ao3 l0_3.length co3 : Value).ownBlock) k_ → ¬ (fun k_ => P0_2_ k_ ∧ k_ < w.heap.size) k_ from fun k_ h_ h2_ => hp0_3_0_2 k_ (in3.out k_ h_) (in2.out k_ h2_))
 have HK := zm (Kept.refl w (fun k_ => P0_0_ k_ ∨ P0_1_ k_ ∨ P0_2_ k_ ∨ P0_3_ k_))
 have HB := zm hB
 clear hB ho0_0 ho0_1 ho0_2 ho0_3 hp0_0_0_1 hp0_0_0_2 hp0_0_0_3 hp0_1_0_0 hp0_1_0_2 hp0_1_0_3 hp0_2_0_0 hp0_2_0_1 hp0_2_0_3 hp0_3_0_0 hp0_3_0_1 hp0_3_0_2
 unfold laws_markImage.f at h
 obtain ⟨⟨t0, s0⟩, hh0, h⟩ := Option.bind_eq_some_iff.mp h
 have H0 := zm hh0
 clear hh0
 obtain ⟨⟨t1, s1⟩, hh1, h⟩ := Option.bind_eq_some_iff.mp h
 have H1 := zm hh1
 clear hh1
 obtain ⟨⟨t2, s2⟩, hh2, h⟩ := Option.bind_eq_some_iff.mp h
 have H2 := zm hh2
 clear hh2
 obtain ⟨⟨t3, s3⟩, hh3, h⟩ := Option.bind_eq_some_iff.mp h
 have H3 := zm hh3
 clear hh3
 simp only [Option.some.injEq] at h
 obtain rfl := h
 go_enter Tryz.func20, Tryz.ntmps20
 go_wp2_with (first | ((with_reducible refine gate_dst (N := 2) rfl ?_); refine box_event ?hg (N := 2) ?hd (cs := #[.slice Ao0 l0_0.length co0, .slice Ao1 l0_1.length co1, .slice Ao2 l0_2.length co2, .slice Ao3 l0_3.length co3]) (t := 26) ?hr ?_; (case hd => rfl); (case hg => rfl); (case hr => first | (go_simp; done) | (go_simp; rfl)); intro gb hg w7 hbox hb; have n0_ := zm (Kd.R_below (zg_6 B0.out) hb); have n1_ := zm (Kd.R_below (zg_6 B1.out) hb); have n2_ := zm (Kd.S_below (zg_7 B2.out) hb); have n3_ := zm (Kd.R_below (zg_6 B3.out) hb); have nk_ := zm (Kept.below (S := (fun k_ => P0_0_ k_ ∨ P0_1_ k_ ∨ P0_2_ k_ ∨ P0_3_ k_)) (zg_10 HK.out) hb); have nb_ := zm (below_step (zg_1 HB.out) hb); have BK := zm hbox; have GW := zm ((by rw [hg]; exact (show Kept w _ (fun k_ => P0_0_ k_ ∨ P0_1_ k_ ∨ P0_2_ k_ ∨ P0_3_ k_) from (zg_10 HK.out)).1) : w.heap.size ≤ gb); clear HB HK B0 B1 B2 B3; have B0 := n0_; have B1 := n1_; have B2 := n2_; have B3 := n3_; have HK := nk_; have HB := nb_; clear nk_ nb_ n0_ n1_ n2_ n3_ hb hbox hg; have hcz0_0 : w7.cell? ⟨gb, 0, none⟩ = some (.slice Ao0 l0_0.length co0) := (blk_cell BK.out 0).trans rfl; have hcz0_1 : w7.cell? ⟨gb, 1, none⟩ = some (.slice Ao1 l0_1.length co1) := (blk_cell BK.out 1).trans rfl; have hcz0_2 : w7.cell? ⟨gb, 2, none⟩ = some (.slice Ao2 l0_2.length co2) := (blk_cell BK.out 2).trans rfl; have hcz0_3 : w7.cell? ⟨gb, 3, none⟩ = some (.slice Ao3 l0_3.length co3) := (blk_cell BK.out 3).trans rfl; have hfz0_0 := blk_frozen BK.out 0; have hfz0_1 := blk_frozen BK.out 1; have hfz0_2 := blk_frozen BK.out 2; have hfz0_3 := blk_frozen BK.out 3) | ((with_reducible refine gate_callee (f := 48) rfl ?_); refine goesL_ (some 8) rfl rfl Tryz.func48 (by kernel_rfl) rfl #[.slice Ao0 l0_0.length co0, .int .i64 a1] rfl (by (try simp only [List.map_toArray, List.map_cons, List.map_nil]); first | done | rfl) ?_; (with_reducible refine (laws_markIntS.calls k (fun k_ => some k_ = (.slice Ao0 l0_0.length co0 : Value).ownBlock) (.slice Ao0 l0_0.length co0 : Value) l0_0 a1 t0 s0 w0 _ ?s1 ?s2 H0.out).mono ?_); (case s1 => exact (zg_1 HB.out)); (case s2 => exact (zg_6 B0.out)); rintro e w20 ⟨rfl, hy, hb, hkp⟩; refine ⟨_, rfl, ?_⟩; have n1_ := zm (Kd.R_kept (zg_6 B1.out) hkp ap1_0.out); have n2_ := zm (Kd.S_kept (zg_7 B2.out) hkp ap2_0.out); have n3_ := zm (Kd.R_kept (zg_6 B3.out) hkp ap3_0.out); have nk_ := zm (Kept.then_ (S := (fun k_ => P0_0_ k_ ∨ P0_1_ k_ ∨ P0_2_ k_ ∨ P0_3_ k_)) (zg_10 HK.out) hkp (fun k_ h_ => .inl (Or.inl (in0.out k_ h_)))); have nb_ := zm hb; have nB_ := zm (blk_kept BK.out hkp (fun h_ => Nat.not_lt.2 GW.out (lt0.out _ h_))); clear HK HB BK hy hb hkp B0 B1 B2 B3 hcz0_0 hfz0_0 hcz0_1 hfz0_1 hcz0_2 hfz0_2 hcz0_3 hfz0_3; have HK := nk_; have HB := nb_; have BK := nB_; have B1 := n1_; have B2 := n2_; have B3 := n3_; clear nk_ nb_ nB_ n1_ n2_ n3_; have hcz1_0 : w20.cell? ⟨gb, 0, none⟩ = some (.slice Ao0 l0_0.length co0) := (blk_cell BK.out 0).trans rfl; have hcz1_1 : w20.cell? ⟨gb, 1, none⟩ = some (.slice Ao1 l0_1.length co1) := (blk_cell BK.out 1).trans rfl; have hcz1_2 : w20.cell? ⟨gb, 2, none⟩ = some (.slice Ao2 l0_2.length co2) := (blk_cell BK.out 2).trans rfl; have hcz1_3 : w20.cell? ⟨gb, 3, none⟩ = some (.slice Ao3 l0_3.length co3) := (blk_cell BK.out 3).trans rfl; have hfz1_0 := blk_frozen BK.out 0; have hfz1_1 := blk_frozen BK.out 1; have hfz1_2 := blk_frozen BK.out 2; have hfz1_3 := blk_frozen BK.out 3) | ((with_reducible refine gate_callee (f := 48) rfl ?_); refine goesL_ (some 12) rfl rfl Tryz.func48 (by kernel_rfl) rfl #[.slice Ao1 l0_1.length co1, .int .i64 t0] rfl (by (try simp only [List.map_toArray, List.map_cons, List.map_nil]); first | done | rfl) ?_; (with_reducible refine (laws_markIntS.calls k (fun k_ => some k_ = (.slice Ao1 l0_1.length co1 : Value).ownBlock) (.slice Ao1 l0_1.length co1 : Value) l0_1 t0 t1 s1 w0 _ ?s1 ?s2 H1.out).mono ?_); (case s1 => exact (zg_1 HB.out)); (case s2 => exact (zg_6 B1.out)); rintro e w21 ⟨rfl, hy, hb, hkp⟩; refine ⟨_, rfl, ?_⟩; have n2_ := zm (Kd.S_kept (zg_7 B2.out) hkp ap2_1.out); have n3_ := zm (Kd.R_kept (zg_6 B3.out) hkp ap3_1.out); have nk_ := zm (Kept.then_ (S := (fun k_ => P0_0_ k_ ∨ P0_1_ k_ ∨ P0_2_ k_ ∨ P0_3_ k_)) (zg_10 HK.out) hkp (fun k_ h_ => .inl (Or.inr (Or.inl (in1.out k_ h_))))); have nb_ := zm hb; have nB_ := zm (blk_kept BK.out hkp (fun h_ => Nat.not_lt.2 GW.out (lt1.out _ h_))); clear HK HB BK hy hb hkp B1 B2 B3 hcz1_0 hfz1_0 hcz1_1 hfz1_1 hcz1_2 hfz1_2 hcz1_3 hfz1_3; have HK := nk_; have HB := nb_; have BK := nB_; have B2 := n2_; have B3 := n3_; clear nk_ nb_ nB_ n2_ n3_; have hcz2_0 : w21.cell? ⟨gb, 0, none⟩ = some (.slice Ao0 l0_0.length co0) := (blk_cell BK.out 0).trans rfl; have hcz2_1 : w21.cell? ⟨gb, 1, none⟩ = some (.slice Ao1 l0_1.length co1) := (blk_cell BK.out 1).trans rfl; have hcz2_2 : w21.cell? ⟨gb, 2, none⟩ = some (.slice Ao2 l0_2.length co2) := (blk_cell BK.out 2).trans rfl; have hcz2_3 : w21.cell? ⟨gb, 3, none⟩ = some (.slice Ao3 l0_3.length co3) := (blk_cell BK.out 3).trans rfl; have hfz2_0 := blk_frozen BK.out 0; have hfz2_1 := blk_frozen BK.out 1; have hfz2_2 := blk_frozen BK.out 2; have hfz2_3 := blk_frozen BK.out 3) | ((with_reducible refine gate_callee (f := 49) rfl ?_); refine goesL_ (some 16) rfl rfl Tryz.func49 (by kernel_rfl) rfl #[.slice Ao2 l0_2.length co2, .int .i64 t1] rfl (by (try simp only [List.map_toArray, List.map_cons, List.map_nil]); first | done | rfl) ?_; (with_reducible refine (laws_markSnapS.calls k (fun k_ => P0_2_ k_ ∧ k_ < w.heap.size) (.slice Ao2 l0_2.length co2 : Value) l0_2 t1 t2 s2 w0 _ ?s1 ?s2 H2.out).mono ?_); (case s1 => exact (zg_1 HB.out)); (case s2 => exact (zg_7 B2.out)); rintro e w22 ⟨rfl, hy, hb, hkp⟩; refine ⟨_, rfl, ?_⟩; have n3_ := zm (Kd.R_kept (zg_6 B3.out) hkp ap3_2.out); have nk_ := zm (Kept.then_ (S := (fun k_ => P0_0_ k_ ∨ P0_1_ k_ ∨ P0_2_ k_ ∨ P0_3_ k_)) (zg_10 HK.out) hkp (fun k_ h_ => .inl (Or.inr (Or.inr (Or.inl (in2.out k_ h_)))))); have nb_ := zm hb; have nB_ := zm (blk_kept BK.out hkp (fun h_ => Nat.not_lt.2 GW.out (lt2.out _ h_))); clear HK HB BK hy hb hkp B2 B3 hcz2_0 hfz2_0 hcz2_1 hfz2_1 hcz2_2 hfz2_2 hcz2_3 hfz2_3; have HK := nk_; have HB := nb_; have BK := nB_; have B3 := n3_; clear nk_ nb_ nB_ n3_; have hcz3_0 : w22.cell? ⟨gb, 0, none⟩ = some (.slice Ao0 l0_0.length co0) := (blk_cell BK.out 0).trans rfl; have hcz3_1 : w22.cell? ⟨gb, 1, none⟩ = some (.slice Ao1 l0_1.length co1) := (blk_cell BK.out 1).trans rfl; have hcz3_2 : w22.cell? ⟨gb, 2, none⟩ = some (.slice Ao2 l0_2.length co2) := (blk_cell BK.out 2).trans rfl; have hcz3_3 : w22.cell? ⟨gb, 3, none⟩ = some (.slice Ao3 l0_3.length co3) := (blk_cell BK.out 3).trans rfl; have hfz3_0 := blk_frozen BK.out 0; have hfz3_1 := blk_frozen BK.out 1; have hfz3_2 := blk_frozen BK.out 2; have hfz3_3 := blk_frozen BK.out 3) | ((with_reducible refine gate_callee (f := 48) rfl ?_); refine goesL_ (some 20) rfl rfl Tryz.func48 (by kernel_rfl) rfl #[.slice Ao3 l0_3.length co3, .int .i64 t2] rfl (by (try simp only [List.map_toArray, List.map_cons, List.map_nil]); first | done | rfl) ?_; (with_reducible refine (laws_markIntS.calls k (fun k_ => some k_ = (.slice Ao3 l0_3.length co3 : Value).ownBlock) (.slice Ao3 l0_3.length co3 : Value) l0_3 t2 t3 s3 w0 _ ?s1 ?s2 H3.out).mono ?_); (case s1 => exact (zg_1 HB.out)); (case s2 => exact (zg_6 B3.out)); rintro e w23 ⟨rfl, hy, hb, hkp⟩; refine ⟨_, rfl, ?_⟩; have nk_ := zm (Kept.then_ (S := (fun k_ => P0_0_ k_ ∨ P0_1_ k_ ∨ P0_2_ k_ ∨ P0_3_ k_)) (zg_10 HK.out) hkp (fun k_ h_ => .inl (Or.inr (Or.inr (Or.inr (in3.out k_ h_)))))); have nb_ := zm hb; have nB_ := zm (blk_kept BK.out hkp (fun h_ => Nat.not_lt.2 GW.out (lt3.out _ h_))); clear HK HB BK hy hb hkp B3 hcz3_0 hfz3_0 hcz3_1 hfz3_1 hcz3_2 hfz3_2 hcz3_3 hfz3_3; have HK := nk_; have HB := nb_; have BK := nB_; clear nk_ nb_ nB_ ; have hcz4_0 : w23.cell? ⟨gb, 0, none⟩ = some (.slice Ao0 l0_0.length co0) := (blk_cell BK.out 0).trans rfl; have hcz4_1 : w23.cell? ⟨gb, 1, none⟩ = some (.slice Ao1 l0_1.length co1) := (blk_cell BK.out 1).trans rfl; have hcz4_2 : w23.cell? ⟨gb, 2, none⟩ = some (.slice Ao2 l0_2.length co2) := (blk_cell BK.out 2).trans rfl; have hcz4_3 : w23.cell? ⟨gb, 3, none⟩ = some (.slice Ao3 l0_3.length co3) := (blk_cell BK.out 3).trans rfl; have hfz4_0 := blk_frozen BK.out 0; have hfz4_1 := blk_frozen BK.out 1; have hfz4_2 := blk_frozen BK.out 2; have hfz4_3 := blk_frozen BK.out 3))
 go_ret
 exact ⟨by first | rfl | (simp <;> rfl) | (simp [*] <;> rfl), (zg_1 HB.out), (zg_10 HK.out)⟩
/-! ### laws_szIntS: function 38 -/
def laws_szIntS.f (l0 : List Int) (a1 : Int) : Option (Int) := if (wrap64 (a1 - (l0.length : Int))) < 0 then (some (-1)) else (some (wrap64 (a1 - (l0.length : Int))))
set_option maxHeartbeats 8000000 in
set_option maxRecDepth 100000 in
theorem laws_szIntS.calls (A0 : Option Addr) (c0 : Nat) (l0 : List Int) (a1 : Int) (r : Int) (w : World) (hr0 : Kd.C (Kd.int .i64) w A0 l0.length l0) (hc0 : l0.length ≤ c0) (h : laws_szIntS.f l0 a1 = some r) :
    Calls Tryz.prog 38 #[.slice A0 l0.length c0, .int .i64 a1] w fun e w' => e = .returned (.int .i64 r) ∧ Drawn0 w w' := by
  have HR0 := Aside0.mk hr0
  have HC0 := Aside0.mk hc0
  clear hr0 hc0
  have H : (if (wrap64 (a1 - (l0.length : Int))) < 0 then (some (-1)) else (some (wrap64 (a1 - (l0.length : Int))))) = some r := h
  clear h
  by_cases c3 : (wrap64 (a1 - (l0.length : Int))) < 0
  · rw [if_pos c3] at H
    have c3b0 : decide ((wrap64 (a1 - (l0.length : Int))) < 0) = true := decide_eq_true c3
    clear c3
    obtain rfl := Option.some.inj H
    go_enter Tryz.func38, Tryz.ntmps38
    go_wp2
    go_ret
    exact ⟨by first | rfl | (simp; done) | (simp [*]; done), by repeat (first | exact Drawn0.refl _ | apply Drawn0.step)⟩
  · rw [if_neg c3] at H
    have c3b0 : decide ((wrap64 (a1 - (l0.length : Int))) < 0) = false := decide_eq_false c3
    clear c3
    obtain rfl := Option.some.inj H
    go_enter Tryz.func38, Tryz.ntmps38
    go_wp2
    go_ret
    exact ⟨by first | rfl | (simp; done) | (simp [*]; done), by repeat (first | exact Drawn0.refl _ | apply Drawn0.step)⟩
/-! ### laws_szSnap: function 83 -/
def laws_szSnap.f (a0_0 : ByteArray) (l0_1 : List Int) (a1 : Int) : Option (Int) := if (wrap64 (a1 - (a0_0.size : Int))) < 0 then (some (-1)) else ((laws_szIntS.f l0_1 (wrap64 (a1 - (a0_0.size : Int)))).bind fun t414 => (if t414 < 0 then (some (-1)) else (some t414)))
set_option maxHeartbeats 8000000 in
set_option maxRecDepth 100000 in
theorem laws_szSnap.calls (a0_0 : ByteArray) (A0_1 : Option Addr) (c0_1 : Nat) (l0_1 : List Int) (a1 : Int) (r : Int) (w : World) (hr0_1 : Kd.C (Kd.int .i64) w A0_1 l0_1.length l0_1) (hc0_1 : l0_1.length ≤ c0_1) (h : laws_szSnap.f a0_0 l0_1 a1 = some r) :
    Calls Tryz.prog 83 #[.agg #[.string a0_0, .slice A0_1 l0_1.length c0_1], .int .i64 a1] w fun e w' => e = .returned (.int .i64 r) ∧ Below w.heap.size w w' := by
 have hu102 := Tryz.underlying102
 have HR0_1 := zm hr0_1
 have HC0_1 := zm hc0_1
 clear hr0_1 hc0_1
 have HB := zm (Below.refl w.heap.size w)
 have H : (if (wrap64 (a1 - (a0_0.size : Int))) < 0 then (some (-1)) else ((laws_szIntS.f l0_1 (wrap64 (a1 - (a0_0.size : Int)))).bind fun t414 => (if t414 < 0 then (some (-1)) else (some t414)))) = some r := h
 clear h
 by_cases c3 : (wrap64 (a1 - (a0_0.size : Int))) < 0
 ·rw [if_pos c3] at H
  have c3b0 : decide ((wrap64 (a1 - (a0_0.size : Int))) < 0) = true := decide_eq_true c3
  clear c3
  obtain rfl := Option.some.inj H
  go_enter Tryz.func83, Tryz.ntmps83
  go_wp2_with (first | ((with_reducible refine gate_dst (N := 2) rfl ?_); refine box_event ?hg (N := 2) ?hd (cs := #[.string a0_0, .slice A0_1 l0_1.length c0_1]) (t := 102) ?hr ?_; (case hd => rfl); (case hg => rfl); (case hr => first | (go_simp; done) | (go_simp; rfl)); intro gb413 hg w4 hbox hb; have n0_ := zm (below_step (zg_1 HB.out) hb); have n1_ := zm (hbox); have n2_ := zm ((by rw [hg]; exact (below_size (zg_1 HB.out)) : w.heap.size ≤ gb413)); have n3_ := zm ((by rw [hg]; exact (below_size (zg_1 HB.out)) : w.heap.size ≤ gb413)); clear HB; have HB := n0_; have BK413 := n1_; have GW413 := n2_; have GE413 := n3_; clear n0_ n1_ n2_ n3_; clear hb hbox hg; have hcz5_0 : w4.cell? ⟨gb413, 0, none⟩ = some (.string a0_0) := (blk_cell BK413.out 0).trans rfl; have hcz5_1 : w4.cell? ⟨gb413, 1, none⟩ = some (.slice A0_1 l0_1.length c0_1) := (blk_cell BK413.out 1).trans rfl; have hfz5_0 := blk_frozen BK413.out 0; have hfz5_1 := blk_frozen BK413.out 1))
  go_ret
  exact ⟨by first | rfl | (simp [errW_none, errW_some] <;> rfl) | (simp [*, errW_none, errW_some] <;> rfl), zg_2 HB.out GE413.out⟩
 ·rw [if_neg c3] at H
  have c3b0 : decide ((wrap64 (a1 - (a0_0.size : Int))) < 0) = false := decide_eq_false c3
  clear c3
  replace H := Option.bind_eq_some_iff.mp H
  obtain ⟨t414, A60, H⟩ := H
  replace H : (if t414 < 0 then (some (-1)) else (some t414)) = some r := H
  have A6 := zm A60
  clear A60
  by_cases c7 : t414 < 0
  ·rw [if_pos c7] at H
   have c7b0 : decide (t414 < 0) = true := decide_eq_true c7
   clear c7
   obtain rfl := Option.some.inj H
   go_enter Tryz.func83, Tryz.ntmps83
   go_wp2_with (first | ((with_reducible refine gate_dst (N := 2) rfl ?_); refine box_event ?hg (N := 2) ?hd (cs := #[.string a0_0, .slice A0_1 l0_1.length c0_1]) (t := 102) ?hr ?_; (case hd => rfl); (case hg => rfl); (case hr => first | (go_simp; done) | (go_simp; rfl)); intro gb413 hg w8 hbox hb; have n0_ := zm (below_step (zg_1 HB.out) hb); have n1_ := zm (hbox); have n2_ := zm ((by rw [hg]; exact (below_size (zg_1 HB.out)) : w.heap.size ≤ gb413)); have n3_ := zm ((by rw [hg]; exact (below_size (zg_1 HB.out)) : w.heap.size ≤ gb413)); clear HB; have HB := n0_; have BK413 := n1_; have GW413 := n2_; have GE413 := n3_; clear n0_ n1_ n2_ n3_; clear hb hbox hg; have hcz9_0 : w8.cell? ⟨gb413, 0, none⟩ = some (.string a0_0) := (blk_cell BK413.out 0).trans rfl; have hcz9_1 : w8.cell? ⟨gb413, 1, none⟩ = some (.slice A0_1 l0_1.length c0_1) := (blk_cell BK413.out 1).trans rfl; have hfz9_0 := blk_frozen BK413.out 0; have hfz9_1 := blk_frozen BK413.out 1) | ((with_reducible refine gate_callee (f := 38) rfl ?_); refine goesL_ (some 15) rfl rfl Tryz.func38 (by kernel_rfl) rfl #[.slice A0_1 l0_1.length c0_1, .int .i64 (wrap64 (a1 - (a0_0.size : Int)))] rfl zq ?_; (with_reducible refine (laws_szIntS.calls _ _ l0_1 (wrap64 (a1 - (a0_0.size : Int))) t414 _ ?side1 ?side2 A6.out).mono ?_); (case side1 => exact zC (Kd.C_below HR0_1.out HB.out)); (case side2 => exact HC0_1.out); rintro e w' ⟨rfl, ⟨nd, rfl⟩⟩; refine ⟨_, rfl, ?_⟩))
   go_ret
   exact ⟨by first | rfl | (simp [errW_none, errW_some] <;> rfl) | (simp [*, errW_none, errW_some] <;> rfl), zg_2 HB.out GE413.out⟩
  ·rw [if_neg c7] at H
   have c7b0 : decide (t414 < 0) = false := decide_eq_false c7
   clear c7
   obtain rfl := Option.some.inj H
   go_enter Tryz.func83, Tryz.ntmps83
   go_wp2_with (first | ((with_reducible refine gate_dst (N := 2) rfl ?_); refine box_event ?hg (N := 2) ?hd (cs := #[.string a0_0, .slice A0_1 l0_1.length c0_1]) (t := 102) ?hr ?_; (case hd => rfl); (case hg => rfl); (case hr => first | (go_simp; done) | (go_simp; rfl)); intro gb413 hg w10 hbox hb; have n0_ := zm (below_step (zg_1 HB.out) hb); have n1_ := zm (hbox); have n2_ := zm ((by rw [hg]; exact (below_size (zg_1 HB.out)) : w.heap.size ≤ gb413)); have n3_ := zm ((by rw [hg]; exact (below_size (zg_1 HB.out)) : w.heap.size ≤ gb413)); clear HB; have HB := n0_; have BK413 := n1_; have GW413 := n2_; have GE413 := n3_; clear n0_ n1_ n2_ n3_; clear hb hbox hg; have hcz11_0 : w10.cell? ⟨gb413, 0, none⟩ = some (.string a0_0) := (blk_cell BK413.out 0).trans rfl; have hcz11_1 : w10.cell? ⟨gb413, 1, none⟩ = some (.slice A0_1 l0_1.length c0_1) := (blk_cell BK413.out 1).trans rfl; have hfz11_0 := blk_frozen BK413.out 0; have hfz11_1 := blk_frozen BK413.out 1) | ((with_reducible refine gate_callee (f := 38) rfl ?_); refine goesL_ (some 15) rfl rfl Tryz.func38 (by kernel_rfl) rfl #[.slice A0_1 l0_1.length c0_1, .int .i64 (wrap64 (a1 - (a0_0.size : Int)))] rfl zq ?_; (with_reducible refine (laws_szIntS.calls _ _ l0_1 (wrap64 (a1 - (a0_0.size : Int))) t414 _ ?side1 ?side2 A6.out).mono ?_); (case side1 => exact zC (Kd.C_below HR0_1.out HB.out)); (case side2 => exact HC0_1.out); rintro e w' ⟨rfl, ⟨nd, rfl⟩⟩; refine ⟨_, rfl, ?_⟩))
   go_ret
   exact ⟨by first | rfl | (simp [errW_none, errW_some] <;> rfl) | (simp [*, errW_none, errW_some] <;> rfl), zg_2 HB.out GE413.out⟩
/-! ### laws_szSnapS: function 39 -/
def laws_szSnapS.l0 : Nat → List (S102) → Int → Int → Option (Int)
  | 0, _, _, _ => none
  | k + 1, x0, x1, x5 => if x5 < (x0.length : Int) then (if 0 ≤ x5 then ((laws_szSnap.f ((rd_T102 x0 x5).f0) ((rd_T102 x0 x5).f1) x1).bind fun t416 => (if t416 < 0 then (some (-1)) else (laws_szSnapS.l0 k x0 t416 (wrap64 (x5 + 1))))) else (none)) else (some x1)
def laws_szSnapS.f (k : Nat) (l0 : List (S102)) (a1 : Int) : Option (Int) := if (wrap64 (a1 - (l0.length : Int))) < 0 then (some (-1)) else (laws_szSnapS.l0 k l0 (wrap64 (a1 - (l0.length : Int))) 0)
theorem laws_szSnapS.mono_l : ∀ k, (∀ y0 y1 y2, LeO (laws_szSnapS.l0 k y0 y1 y2) (laws_szSnapS.l0 (k + 1) y0 y1 y2))
  | 0 => fun _ _ _ r h => by simp [laws_szSnapS.l0] at h
  | k + 1 => by
    have ih0 := laws_szSnapS.mono_l k
    · intro y0 y1 y2
      unfold laws_szSnapS.l0
      repeat' first
      | (with_reducible exact ih0 _ _ _)
      | (with_reducible exact LeO.refl _)
      | (with_reducible exact LeO.none _)
      | (with_reducible refine LeO.ite ?_ ?_)
      | (with_reducible refine LeO.bind ?_ (fun _ => ?_))
      | exact ih0 _ _ _
      | exact LeO.none _
      | refine LeO.ite ?_ ?_
      | refine LeO.bind ?_ (fun _ => ?_)
theorem laws_szSnapS.mono : ∀ a0 a1 k, LeO (laws_szSnapS.f k a0 a1) (laws_szSnapS.f (k + 1) a0 a1) := by
  intro a0 a1 k
  have ih0 := laws_szSnapS.mono_l k
  unfold laws_szSnapS.f
  repeat' first
      | (with_reducible exact ih0 _ _ _)
      | (with_reducible exact LeO.refl _)
      | (with_reducible exact LeO.none _)
      | (with_reducible refine LeO.ite ?_ ?_)
      | (with_reducible refine LeO.bind ?_ (fun _ => ?_))
      | exact ih0 _ _ _
      | exact LeO.none _
      | refine LeO.ite ?_ ?_
      | refine LeO.bind ?_ (fun _ => ?_)
set_option maxHeartbeats 8000000 in
set_option maxRecDepth 100000 in
theorem laws_szSnapS.calls (k : Nat) (A0 : Option Addr) (c0 : Nat) (l0 : List (S102)) (a1 : Int) (r : Int) (w : World) (hr0 : Kd.C k102 w A0 l0.length l0) (hc0 : l0.length ≤ c0) (h : laws_szSnapS.f k l0 a1 = some r) :
    Calls Tryz.prog 39 #[.slice A0 l0.length c0, .int .i64 a1] w fun e w' => e = .returned (.int .i64 r) ∧ Below w.heap.size w w' := by
 have hu102 := Tryz.underlying102
 have HR0 := zm hr0
 have HC0 := zm hc0
 clear hr0 hc0
 have HB := zm (Below.refl w.heap.size w)
 have H : (if (wrap64 (a1 - (l0.length : Int))) < 0 then (some (-1)) else (laws_szSnapS.l0 k l0 (wrap64 (a1 - (l0.length : Int))) 0)) = some r := h
 clear h
 by_cases c3 : (wrap64 (a1 - (l0.length : Int))) < 0
 ·rw [if_pos c3] at H
  have c3b0 : decide ((wrap64 (a1 - (l0.length : Int))) < 0) = true := decide_eq_true c3
  clear c3
  obtain rfl := Option.some.inj H
  go_enter Tryz.func39, Tryz.ntmps39
  go_wp2
  go_ret
  exact ⟨by first | rfl | (simp [errW_none, errW_some] <;> rfl) | (simp [*, errW_none, errW_some] <;> rfl), zg_1 HB.out⟩
 ·rw [if_neg c3] at H
  have c3b0 : decide ((wrap64 (a1 - (l0.length : Int))) < 0) = false := decide_eq_false c3
  clear c3
  have H' := zm H
  clear H
  go_enter Tryz.func39, Tryz.ntmps39
  go_wp2
  go_loopg [1, 5] k (fun kq v1 v5 w' => ∃ (x1_1 : Int) (x5_1 : Int), v1 = .int .i64 x1_1 ∧ v5 = .int .i64 x5_1 ∧ Aside0 (laws_szSnapS.l0 kq l0 x1_1 x5_1 = some r) ∧ Aside0 (kq ≤ k) ∧ Aside0 (Below w.heap.size w w'))
  case atStart => exact ⟨(wrap64 (a1 - (l0.length : Int))), (0), zr, zr, H', ⟨Nat.le_refl _⟩, ⟨zg_1 HB.out⟩⟩
  case round =>
   clear H'
   try clear p2
   try clear c3
   try clear c3b0
   obtain ⟨x1_1, x5_1, rfl, rfl, HA, HK1, HB⟩ := hrel
   cases gk with
   | zero => exact absurd HA.out (by simp [laws_szSnapS.l0])
   | succ k1 =>
    have H := HA.out
    clear HA
    simp only [laws_szSnapS.l0] at H
    by_cases c4 : x5_1 < (l0.length : Int)
    ·rw [if_pos c4] at H
     have c4b0 : decide (x5_1 < (l0.length : Int)) = true := decide_eq_true c4
     clear c4
     by_cases c5 : 0 ≤ x5_1
     ·rw [if_pos c5] at H
      have c5b0 : decide (0 ≤ x5_1) = true := decide_eq_true c5
      clear c5
      replace H := Option.bind_eq_some_iff.mp H
      obtain ⟨t416, A60, H⟩ := H
      replace H : (if t416 < 0 then (some (-1)) else (laws_szSnapS.l0 k1 l0 t416 (wrap64 (x5_1 + 1)))) = some r := H
      have A6 := zm A60
      clear A60
      by_cases c7 : t416 < 0
      ·rw [if_pos c7] at H
       have c7b0 : decide (t416 < 0) = true := decide_eq_true c7
       clear c7
       obtain rfl := Option.some.inj H
       have p415 : 0 ≤ (x5_1 : Int) := zd
       have q415 : x5_1 < (l0.length : Int) := zd
       obtain ⟨ad415, A415_1, c415_1, e415, hx415_0, hx415_1, hl415_1, hi415_1⟩ := at_T102 HR0.out x5_1 p415 q415
       cases e415
       replace hx415_0 := (HB.out.cell (World.block_lt_of_cell? w _ hx415_0)).trans hx415_0
       replace hx415_1 := (HB.out.cell (World.block_lt_of_cell? w _ hx415_1)).trans hx415_1
       have HR415_1 := zm hi415_1
       have HC415_1 := zm hl415_1
       clear hi415_1 hl415_1
       replace p415 := eq_true p415
       replace q415 := eq_true q415
       go_wp2_with (first | ((with_reducible refine gate_callee (f := 83) rfl ?_); refine goesL_ (some 23) rfl rfl Tryz.func83 (by kernel_rfl) rfl #[.agg #[.string ((rd_T102 l0 x5_1).f0), .slice A415_1 ((rd_T102 l0 x5_1).f1).length c415_1], .int .i64 x1_1] rfl zq ?_; (with_reducible refine (laws_szSnap.calls ((rd_T102 l0 x5_1).f0) _ _ ((rd_T102 l0 x5_1).f1) x1_1 t416 _ ?side1 ?side2 A6.out).mono ?_); (case side1 => exact zC (Kd.C_below HR415_1.out HB.out)); (case side2 => exact HC415_1.out); rintro e w8 ⟨rfl, hb⟩; refine ⟨_, rfl, ?_⟩; have n0_ := zm (below_step (zg_1 HB.out) hb); clear HB; have HB := n0_; clear n0_; (try clear hb); (try clear hb2); (try clear hk); (try clear hi)))
       go_ret
       exact ⟨by first | rfl | (simp [errW_none, errW_some] <;> rfl) | (simp [*, errW_none, errW_some] <;> rfl), zg_1 HB.out⟩
      ·rw [if_neg c7] at H
       have c7b0 : decide (t416 < 0) = false := decide_eq_false c7
       clear c7
       have H' := zm H
       clear H
       have p415 : 0 ≤ (x5_1 : Int) := zd
       have q415 : x5_1 < (l0.length : Int) := zd
       obtain ⟨ad415, A415_1, c415_1, e415, hx415_0, hx415_1, hl415_1, hi415_1⟩ := at_T102 HR0.out x5_1 p415 q415
       cases e415
       replace hx415_0 := (HB.out.cell (World.block_lt_of_cell? w _ hx415_0)).trans hx415_0
       replace hx415_1 := (HB.out.cell (World.block_lt_of_cell? w _ hx415_1)).trans hx415_1
       have HR415_1 := zm hi415_1
       have HC415_1 := zm hl415_1
       clear hi415_1 hl415_1
       replace p415 := eq_true p415
       replace q415 := eq_true q415
       go_wp2_with (first | ((with_reducible refine gate_callee (f := 83) rfl ?_); refine goesL_ (some 23) rfl rfl Tryz.func83 (by kernel_rfl) rfl #[.agg #[.string ((rd_T102 l0 x5_1).f0), .slice A415_1 ((rd_T102 l0 x5_1).f1).length c415_1], .int .i64 x1_1] rfl zq ?_; (with_reducible refine (laws_szSnap.calls ((rd_T102 l0 x5_1).f0) _ _ ((rd_T102 l0 x5_1).f1) x1_1 t416 _ ?side1 ?side2 A6.out).mono ?_); (case side1 => exact zC (Kd.C_below HR415_1.out HB.out)); (case side2 => exact HC415_1.out); rintro e w9 ⟨rfl, hb⟩; refine ⟨_, rfl, ?_⟩; have n0_ := zm (below_step (zg_1 HB.out) hb); clear HB; have HB := n0_; clear n0_; (try clear hb); (try clear hb2); (try clear hk); (try clear hi)))
       go_roundg k1
       case measure => have := HK1.out; omega
       case rel => exact ⟨(t416), (wrap64 (x5_1 + 1)), zr, zr, H', ⟨by have := HK1.out; omega⟩, ⟨zg_1 HB.out⟩⟩
     ·rw [if_neg c5] at H
      exact absurd H (by simp)
    ·rw [if_neg c4] at H
     have c4b0 : decide (x5_1 < (l0.length : Int)) = false := decide_eq_false c4
     clear c4
     obtain rfl := Option.some.inj H
     go_wp2
     go_ret
     exact ⟨by first | rfl | (simp [errW_none, errW_some] <;> rfl) | (simp [*, errW_none, errW_some] <;> rfl), zg_1 HB.out⟩
/-! ### laws_szImage: function 14 -/
def laws_szImage.f (k : Nat) (l0_0 : List Int) (l0_1 : List Int) (l0_2 : List (S102)) (l0_3 : List Int) (a1 : Int) : Option (Int) := (laws_szIntS.f l0_0 a1).bind fun t418 => (if t418 < 0 then (some (-1)) else ((laws_szIntS.f l0_1 t418).bind fun t419 => (if t419 < 0 then (some (-1)) else ((laws_szSnapS.f k l0_2 t419).bind fun t420 => (if t420 < 0 then (some (-1)) else ((laws_szIntS.f l0_3 t420).bind fun t421 => (if t421 < 0 then (some (-1)) else (some t421))))))))
theorem laws_szImage.mono : ∀ a0 a1 a2 a3 a4 k, LeO (laws_szImage.f k a0 a1 a2 a3 a4) (laws_szImage.f (k + 1) a0 a1 a2 a3 a4) := by
  intro a0 a1 a2 a3 a4 k
  unfold laws_szImage.f
  repeat' first
      | (with_reducible exact laws_szSnapS.mono _ _ _)
      | (with_reducible exact LeO.refl _)
      | (with_reducible exact LeO.none _)
      | (with_reducible refine LeO.ite ?_ ?_)
      | (with_reducible refine LeO.bind ?_ (fun _ => ?_))
      | exact laws_szSnapS.mono _ _ _
      | exact LeO.none _
      | refine LeO.ite ?_ ?_
      | refine LeO.bind ?_ (fun _ => ?_)
set_option maxHeartbeats 8000000 in
set_option maxRecDepth 100000 in
theorem laws_szImage.calls (k : Nat) (A0_0 : Option Addr) (c0_0 : Nat) (l0_0 : List Int) (A0_1 : Option Addr) (c0_1 : Nat) (l0_1 : List Int) (A0_2 : Option Addr) (c0_2 : Nat) (l0_2 : List (S102)) (A0_3 : Option Addr) (c0_3 : Nat) (l0_3 : List Int) (a1 : Int) (r : Int) (w : World) (hr0_0 : Kd.C (Kd.int .i64) w A0_0 l0_0.length l0_0) (hc0_0 : l0_0.length ≤ c0_0) (hr0_1 : Kd.C (Kd.int .i64) w A0_1 l0_1.length l0_1) (hc0_1 : l0_1.length ≤ c0_1) (hr0_2 : Kd.C k102 w A0_2 l0_2.length l0_2) (hc0_2 : l0_2.length ≤ c0_2) (hr0_3 : Kd.C (Kd.int .i64) w A0_3 l0_3.length l0_3) (hc0_3 : l0_3.length ≤ c0_3) (h : laws_szImage.f k l0_0 l0_1 l0_2 l0_3 a1 = some r) :
    Calls Tryz.prog 14 #[.agg #[.slice A0_0 l0_0.length c0_0, .slice A0_1 l0_1.length c0_1, .slice A0_2 l0_2.length c0_2, .slice A0_3 l0_3.length c0_3], .int .i64 a1] w fun e w' => e = .returned (.int .i64 r) ∧ Below w.heap.size w w' := by
 have hu36 := Tryz.underlying36
 have Zc := zm hr0_0
 have Zd := zm hc0_0
 clear hr0_0 hc0_0
 have Ze := zm hr0_1
 have Zf := zm hc0_1
 clear hr0_1 hc0_1
 have Zh := zm hr0_2
 have Zi := zm hc0_2
 clear hr0_2 hc0_2
 have Zj := zm hr0_3
 have Zk := zm hc0_3
 clear hr0_3 hc0_3
 have HB := zm (Below.refl w.heap.size w)
 have H : ((laws_szIntS.f l0_0 a1).bind fun t418 => (if t418 < 0 then (some (-1)) else ((laws_szIntS.f l0_1 t418).bind fun t419 => (if t419 < 0 then (some (-1)) else ((laws_szSnapS.f k l0_2 t419).bind fun t420 => (if t420 < 0 then (some (-1)) else ((laws_szIntS.f l0_3 t420).bind fun t421 => (if t421 < 0 then (some (-1)) else (some t421))))))))) = some r := h
 clear h
 replace H := Option.bind_eq_some_iff.mp H
 obtain ⟨t418, A30, H⟩ := H
 replace H : (if t418 < 0 then (some (-1)) else ((laws_szIntS.f l0_1 t418).bind fun t419 => (if t419 < 0 then (some (-1)) else ((laws_szSnapS.f k l0_2 t419).bind fun t420 => (if t420 < 0 then (some (-1)) else ((laws_szIntS.f l0_3 t420).bind fun t421 => (if t421 < 0 then (some (-1)) else (some t421)))))))) = some r := H
 have A3 := zm A30
 clear A30
 by_cases c4 : t418 < 0
 ·rw [if_pos c4] at H
  have c4b0 : decide (t418 < 0) = true := decide_eq_true c4
  clear c4
  obtain rfl := Option.some.inj H
  go_enter Tryz.func14, Tryz.ntmps14
  go_wp2_with (first | ((with_reducible refine gate_dst (N := 2) rfl ?_); refine box_event ?hg (N := 2) ?hd (cs := #[.slice A0_0 l0_0.length c0_0, .slice A0_1 l0_1.length c0_1, .slice A0_2 l0_2.length c0_2, .slice A0_3 l0_3.length c0_3]) (t := 36) ?hr ?_; (case hd => rfl); (case hg => rfl); (case hr => first | (go_simp; done) | (go_simp; rfl)); intro gb417 hg w5 hbox hb; have n0_ := zm (below_step (zg_1 HB.out) hb); have n1_ := zm (hbox); have n2_ := zm ((by rw [hg]; exact (below_size (zg_1 HB.out)) : w.heap.size ≤ gb417)); have n3_ := zm ((by rw [hg]; exact (below_size (zg_1 HB.out)) : w.heap.size ≤ gb417)); clear HB; have HB := n0_; have Za := n1_; have Zg := n2_; have Zb := n3_; clear n0_ n1_ n2_ n3_; clear hb hbox hg; have hcz6_0 : w5.cell? ⟨gb417, 0, none⟩ = some (.slice A0_0 l0_0.length c0_0) := (blk_cell Za.out 0).trans rfl; have hcz6_1 : w5.cell? ⟨gb417, 1, none⟩ = some (.slice A0_1 l0_1.length c0_1) := (blk_cell Za.out 1).trans rfl; have hcz6_2 : w5.cell? ⟨gb417, 2, none⟩ = some (.slice A0_2 l0_2.length c0_2) := (blk_cell Za.out 2).trans rfl; have hcz6_3 : w5.cell? ⟨gb417, 3, none⟩ = some (.slice A0_3 l0_3.length c0_3) := (blk_cell Za.out 3).trans rfl; have hfz6_0 := blk_frozen Za.out 0; have hfz6_1 := blk_frozen Za.out 1; have hfz6_2 := blk_frozen Za.out 2; have hfz6_3 := blk_frozen Za.out 3) | ((with_reducible refine gate_callee (f := 38) rfl ?_); refine goesL_ (some 8) rfl rfl Tryz.func38 (by kernel_rfl) rfl #[.slice A0_0 l0_0.length c0_0, .int .i64 a1] rfl zq ?_; (with_reducible refine (laws_szIntS.calls _ _ l0_0 a1 t418 _ ?side1 ?side2 A3.out).mono ?_); (case side1 => exact zC (Kd.C_below Zc.out HB.out)); (case side2 => exact Zd.out); rintro e w' ⟨rfl, ⟨nd, rfl⟩⟩; refine ⟨_, rfl, ?_⟩))
  go_ret
  exact ⟨by first | rfl | (simp [errW_none, errW_some] <;> rfl) | (simp [*, errW_none, errW_some] <;> rfl), zg_2 HB.out Zb.out⟩
 ·rw [if_neg c4] at H
  have c4b0 : decide (t418 < 0) = false := decide_eq_false c4
  clear c4
  replace H := Option.bind_eq_some_iff.mp H
  obtain ⟨t419, A70, H⟩ := H
  replace H : (if t419 < 0 then (some (-1)) else ((laws_szSnapS.f k l0_2 t419).bind fun t420 => (if t420 < 0 then (some (-1)) else ((laws_szIntS.f l0_3 t420).bind fun t421 => (if t421 < 0 then (some (-1)) else (some t421)))))) = some r := H
  have A7 := zm A70
  clear A70
  by_cases c8 : t419 < 0
  ·rw [if_pos c8] at H
   have c8b0 : decide (t419 < 0) = true := decide_eq_true c8
   clear c8
   obtain rfl := Option.some.inj H
   go_enter Tryz.func14, Tryz.ntmps14
   go_wp2_with (first | ((with_reducible refine gate_dst (N := 2) rfl ?_); refine box_event ?hg (N := 2) ?hd (cs := #[.slice A0_0 l0_0.length c0_0, .slice A0_1 l0_1.length c0_1, .slice A0_2 l0_2.length c0_2, .slice A0_3 l0_3.length c0_3]) (t := 36) ?hr ?_; (case hd => rfl); (case hg => rfl); (case hr => first | (go_simp; done) | (go_simp; rfl)); intro gb417 hg w9 hbox hb; have n0_ := zm (below_step (zg_1 HB.out) hb); have n1_ := zm (hbox); have n2_ := zm ((by rw [hg]; exact (below_size (zg_1 HB.out)) : w.heap.size ≤ gb417)); have n3_ := zm ((by rw [hg]; exact (below_size (zg_1 HB.out)) : w.heap.size ≤ gb417)); clear HB; have HB := n0_; have Za := n1_; have Zg := n2_; have Zb := n3_; clear n0_ n1_ n2_ n3_; clear hb hbox hg; have hcz10_0 : w9.cell? ⟨gb417, 0, none⟩ = some (.slice A0_0 l0_0.length c0_0) := (blk_cell Za.out 0).trans rfl; have hcz10_1 : w9.cell? ⟨gb417, 1, none⟩ = some (.slice A0_1 l0_1.length c0_1) := (blk_cell Za.out 1).trans rfl; have hcz10_2 : w9.cell? ⟨gb417, 2, none⟩ = some (.slice A0_2 l0_2.length c0_2) := (blk_cell Za.out 2).trans rfl; have hcz10_3 : w9.cell? ⟨gb417, 3, none⟩ = some (.slice A0_3 l0_3.length c0_3) := (blk_cell Za.out 3).trans rfl; have hfz10_0 := blk_frozen Za.out 0; have hfz10_1 := blk_frozen Za.out 1; have hfz10_2 := blk_frozen Za.out 2; have hfz10_3 := blk_frozen Za.out 3) | ((with_reducible refine gate_callee (f := 38) rfl ?_); refine goesL_ (some 8) rfl rfl Tryz.func38 (by kernel_rfl) rfl #[.slice A0_0 l0_0.length c0_0, .int .i64 a1] rfl zq ?_; (with_reducible refine (laws_szIntS.calls _ _ l0_0 a1 t418 _ ?side1 ?side2 A3.out).mono ?_); (case side1 => exact zC (Kd.C_below Zc.out HB.out)); (case side2 => exact Zd.out); rintro e w' ⟨rfl, ⟨nd, rfl⟩⟩; refine ⟨_, rfl, ?_⟩) | ((with_reducible refine gate_callee (f := 38) rfl ?_); refine goesL_ (some 14) rfl rfl Tryz.func38 (by kernel_rfl) rfl #[.slice A0_1 l0_1.length c0_1, .int .i64 t418] rfl zq ?_; (with_reducible refine (laws_szIntS.calls _ _ l0_1 t418 t419 _ ?side1 ?side2 A7.out).mono ?_); (case side1 => exact zC (Kd.C_below Ze.out (zg_2 HB.out Zb.out))); (case side2 => exact Zf.out); rintro e w' ⟨rfl, ⟨nd, rfl⟩⟩; refine ⟨_, rfl, ?_⟩))
   go_ret
   exact ⟨by first | rfl | (simp [errW_none, errW_some] <;> rfl) | (simp [*, errW_none, errW_some] <;> rfl), zg_2 HB.out Zb.out⟩
  ·rw [if_neg c8] at H
   have c8b0 : decide (t419 < 0) = false := decide_eq_false c8
   clear c8
   replace H := Option.bind_eq_some_iff.mp H
   obtain ⟨t420, A110, H⟩ := H
   replace H : (if t420 < 0 then (some (-1)) else ((laws_szIntS.f l0_3 t420).bind fun t421 => (if t421 < 0 then (some (-1)) else (some t421)))) = some r := H
   have A11 := zm A110
   clear A110
   by_cases c12 : t420 < 0
   ·rw [if_pos c12] at H
    have c12b0 : decide (t420 < 0) = true := decide_eq_true c12
    clear c12
    obtain rfl := Option.some.inj H
    go_enter Tryz.func14, Tryz.ntmps14
    go_wp2_with (first | ((with_reducible refine gate_dst (N := 2) rfl ?_); refine box_event ?hg (N := 2) ?hd (cs := #[.slice A0_0 l0_0.length c0_0, .slice A0_1 l0_1.length c0_1, .slice A0_2 l0_2.length c0_2, .slice A0_3 l0_3.length c0_3]) (t := 36) ?hr ?_; (case hd => rfl); (case hg => rfl); (case hr => first | (go_simp; done) | (go_simp; rfl)); intro gb417 hg w13 hbox hb; have n0_ := zm (below_step (zg_1 HB.out) hb); have n1_ := zm (hbox); have n2_ := zm ((by rw [hg]; exact (below_size (zg_1 HB.out)) : w.heap.size ≤ gb417)); have n3_ := zm ((by rw [hg]; exact (below_size (zg_1 HB.out)) : w.heap.size ≤ gb417)); clear HB; have HB := n0_; have Za := n1_; have Zg := n2_; have Zb := n3_; clear n0_ n1_ n2_ n3_; clear hb hbox hg; have hcz14_0 : w13.cell? ⟨gb417, 0, none⟩ = some (.slice A0_0 l0_0.length c0_0) := (blk_cell Za.out 0).trans rfl; have hcz14_1 : w13.cell? ⟨gb417, 1, none⟩ = some (.slice A0_1 l0_1.length c0_1) := (blk_cell Za.out 1).trans rfl; have hcz14_2 : w13.cell? ⟨gb417, 2, none⟩ = some (.slice A0_2 l0_2.length c0_2) := (blk_cell Za.out 2).trans rfl; have hcz14_3 : w13.cell? ⟨gb417, 3, none⟩ = some (.slice A0_3 l0_3.length c0_3) := (blk_cell Za.out 3).trans rfl; have hfz14_0 := blk_frozen Za.out 0; have hfz14_1 := blk_frozen Za.out 1; have hfz14_2 := blk_frozen Za.out 2; have hfz14_3 := blk_frozen Za.out 3) | ((with_reducible refine gate_callee (f := 38) rfl ?_); refine goesL_ (some 8) rfl rfl Tryz.func38 (by kernel_rfl) rfl #[.slice A0_0 l0_0.length c0_0, .int .i64 a1] rfl zq ?_; (with_reducible refine (laws_szIntS.calls _ _ l0_0 a1 t418 _ ?side1 ?side2 A3.out).mono ?_); (case side1 => exact zC (Kd.C_below Zc.out HB.out)); (case side2 => exact Zd.out); rintro e w' ⟨rfl, ⟨nd, rfl⟩⟩; refine ⟨_, rfl, ?_⟩) | ((with_reducible refine gate_callee (f := 38) rfl ?_); refine goesL_ (some 14) rfl rfl Tryz.func38 (by kernel_rfl) rfl #[.slice A0_1 l0_1.length c0_1, .int .i64 t418] rfl zq ?_; (with_reducible refine (laws_szIntS.calls _ _ l0_1 t418 t419 _ ?side1 ?side2 A7.out).mono ?_); (case side1 => exact zC (Kd.C_below Ze.out (zg_2 HB.out Zb.out))); (case side2 => exact Zf.out); rintro e w' ⟨rfl, ⟨nd, rfl⟩⟩; refine ⟨_, rfl, ?_⟩) | ((with_reducible refine gate_callee (f := 39) rfl ?_); refine goesL_ (some 20) rfl rfl Tryz.func39 (by kernel_rfl) rfl #[.slice A0_2 l0_2.length c0_2, .int .i64 t419] rfl zq ?_; (with_reducible refine (laws_szSnapS.calls k _ _ l0_2 t419 t420 _ ?side1 ?side2 A11.out).mono ?_); (case side1 => exact zC (Kd.C_below Zh.out (zg_2 HB.out Zb.out))); (case side2 => exact Zi.out); rintro e w15 ⟨rfl, hb⟩; refine ⟨_, rfl, ?_⟩; have n0_ := zm (blk_below (g := gb417) (o := .cells #[.slice A0_0 l0_0.length c0_0, .slice A0_1 l0_1.length c0_1, .slice A0_2 l0_2.length c0_2, .slice A0_3 l0_3.length c0_3] 36 (0, 0)) (zg_3 Za.out) hb); have n1_ := zm (below_step (zg_2 HB.out Zb.out) hb); clear Za; clear HB; have Za := n0_; have HB := n1_; clear n0_ n1_; (try clear hb); (try clear hb2); (try clear hk); (try clear hi)))
    go_ret
    exact ⟨by first | rfl | (simp [errW_none, errW_some] <;> rfl) | (simp [*, errW_none, errW_some] <;> rfl), zg_2 HB.out Zb.out⟩
   ·rw [if_neg c12] at H
    have c12b0 : decide (t420 < 0) = false := decide_eq_false c12
    clear c12
    replace H := Option.bind_eq_some_iff.mp H
    obtain ⟨t421, A160, H⟩ := H
    replace H : (if t421 < 0 then (some (-1)) else (some t421)) = some r := H
    have A16 := zm A160
    clear A160
    by_cases c17 : t421 < 0
    ·rw [if_pos c17] at H
     have c17b0 : decide (t421 < 0) = true := decide_eq_true c17
     clear c17
     obtain rfl := Option.some.inj H
     go_enter Tryz.func14, Tryz.ntmps14
     go_wp2_with (first | ((with_reducible refine gate_dst (N := 2) rfl ?_); refine box_event ?hg (N := 2) ?hd (cs := #[.slice A0_0 l0_0.length c0_0, .slice A0_1 l0_1.length c0_1, .slice A0_2 l0_2.length c0_2, .slice A0_3 l0_3.length c0_3]) (t := 36) ?hr ?_; (case hd => rfl); (case hg => rfl); (case hr => first | (go_simp; done) | (go_simp; rfl)); intro gb417 hg w18 hbox hb; have n0_ := zm (below_step (zg_1 HB.out) hb); have n1_ := zm (hbox); have n2_ := zm ((by rw [hg]; exact (below_size (zg_1 HB.out)) : w.heap.size ≤ gb417)); have n3_ := zm ((by rw [hg]; exact (below_size (zg_1 HB.out)) : w.heap.size ≤ gb417)); clear HB; have HB := n0_; have Za := n1_; have Zg := n2_; have Zb := n3_; clear n0_ n1_ n2_ n3_; clear hb hbox hg; have hcz19_0 : w18.cell? ⟨gb417, 0, none⟩ = some (.slice A0_0 l0_0.length c0_0) := (blk_cell Za.out 0).trans rfl; have hcz19_1 : w18.cell? ⟨gb417, 1, none⟩ = some (.slice A0_1 l0_1.length c0_1) := (blk_cell Za.out 1).trans rfl; have hcz19_2 : w18.cell? ⟨gb417, 2, none⟩ = some (.slice A0_2 l0_2.length c0_2) := (blk_cell Za.out 2).trans rfl; have hcz19_3 : w18.cell? ⟨gb417, 3, none⟩ = some (.slice A0_3 l0_3.length c0_3) := (blk_cell Za.out 3).trans rfl; have hfz19_0 := blk_frozen Za.out 0; have hfz19_1 := blk_frozen Za.out 1; have hfz19_2 := blk_frozen Za.out 2; have hfz19_3 := blk_frozen Za.out 3) | ((with_reducible refine gate_callee (f := 38) rfl ?_); refine goesL_ (some 8) rfl rfl Tryz.func38 (by kernel_rfl) rfl #[.slice A0_0 l0_0.length c0_0, .int .i64 a1] rfl zq ?_; (with_reducible refine (laws_szIntS.calls _ _ l0_0 a1 t418 _ ?side1 ?side2 A3.out).mono ?_); (case side1 => exact zC (Kd.C_below Zc.out HB.out)); (case side2 => exact Zd.out); rintro e w' ⟨rfl, ⟨nd, rfl⟩⟩; refine ⟨_, rfl, ?_⟩) | ((with_reducible refine gate_callee (f := 38) rfl ?_); refine goesL_ (some 14) rfl rfl Tryz.func38 (by kernel_rfl) rfl #[.slice A0_1 l0_1.length c0_1, .int .i64 t418] rfl zq ?_; (with_reducible refine (laws_szIntS.calls _ _ l0_1 t418 t419 _ ?side1 ?side2 A7.out).mono ?_); (case side1 => exact zC (Kd.C_below Ze.out (zg_2 HB.out Zb.out))); (case side2 => exact Zf.out); rintro e w' ⟨rfl, ⟨nd, rfl⟩⟩; refine ⟨_, rfl, ?_⟩) | ((with_reducible refine gate_callee (f := 39) rfl ?_); refine goesL_ (some 20) rfl rfl Tryz.func39 (by kernel_rfl) rfl #[.slice A0_2 l0_2.length c0_2, .int .i64 t419] rfl zq ?_; (with_reducible refine (laws_szSnapS.calls k _ _ l0_2 t419 t420 _ ?side1 ?side2 A11.out).mono ?_); (case side1 => exact zC (Kd.C_below Zh.out (zg_2 HB.out Zb.out))); (case side2 => exact Zi.out); rintro e w20 ⟨rfl, hb⟩; refine ⟨_, rfl, ?_⟩; have n0_ := zm (blk_below (g := gb417) (o := .cells #[.slice A0_0 l0_0.length c0_0, .slice A0_1 l0_1.length c0_1, .slice A0_2 l0_2.length c0_2, .slice A0_3 l0_3.length c0_3] 36 (0, 0)) (zg_3 Za.out) hb); have n1_ := zm (below_step (zg_2 HB.out Zb.out) hb); clear Za; clear HB; have Za := n0_; have HB := n1_; clear n0_ n1_; (try clear hb); (try clear hb2); (try clear hk); (try clear hi); have hcz21_0 : w20.cell? ⟨gb417, 0, none⟩ = some (.slice A0_0 l0_0.length c0_0) := (blk_cell Za.out 0).trans rfl; have hcz21_1 : w20.cell? ⟨gb417, 1, none⟩ = some (.slice A0_1 l0_1.length c0_1) := (blk_cell Za.out 1).trans rfl; have hcz21_2 : w20.cell? ⟨gb417, 2, none⟩ = some (.slice A0_2 l0_2.length c0_2) := (blk_cell Za.out 2).trans rfl; have hcz21_3 : w20.cell? ⟨gb417, 3, none⟩ = some (.slice A0_3 l0_3.length c0_3) := (blk_cell Za.out 3).trans rfl; have hfz21_0 := blk_frozen Za.out 0; have hfz21_1 := blk_frozen Za.out 1; have hfz21_2 := blk_frozen Za.out 2; have hfz21_3 := blk_frozen Za.out 3) | ((with_reducible refine gate_callee (f := 38) rfl ?_); refine goesL_ (some 26) rfl rfl Tryz.func38 (by kernel_rfl) rfl #[.slice A0_3 l0_3.length c0_3, .int .i64 t420] rfl zq ?_; (with_reducible refine (laws_szIntS.calls _ _ l0_3 t420 t421 _ ?side1 ?side2 A16.out).mono ?_); (case side1 => exact zC (Kd.C_below Zj.out HB.out)); (case side2 => exact Zk.out); rintro e w' ⟨rfl, ⟨nd, rfl⟩⟩; refine ⟨_, rfl, ?_⟩))
     go_ret
     exact ⟨by first | rfl | (simp [errW_none, errW_some] <;> rfl) | (simp [*, errW_none, errW_some] <;> rfl), zg_2 HB.out Zb.out⟩
    ·rw [if_neg c17] at H
     have c17b0 : decide (t421 < 0) = false := decide_eq_false c17
     clear c17
     obtain rfl := Option.some.inj H
     go_enter Tryz.func14, Tryz.ntmps14
     go_wp2_with (first | ((with_reducible refine gate_dst (N := 2) rfl ?_); refine box_event ?hg (N := 2) ?hd (cs := #[.slice A0_0 l0_0.length c0_0, .slice A0_1 l0_1.length c0_1, .slice A0_2 l0_2.length c0_2, .slice A0_3 l0_3.length c0_3]) (t := 36) ?hr ?_; (case hd => rfl); (case hg => rfl); (case hr => first | (go_simp; done) | (go_simp; rfl)); intro gb417 hg w22 hbox hb; have n0_ := zm (below_step (zg_1 HB.out) hb); have n1_ := zm (hbox); have n2_ := zm ((by rw [hg]; exact (below_size (zg_1 HB.out)) : w.heap.size ≤ gb417)); have n3_ := zm ((by rw [hg]; exact (below_size (zg_1 HB.out)) : w.heap.size ≤ gb417)); clear HB; have HB := n0_; have Za := n1_; have Zg := n2_; have Zb := n3_; clear n0_ n1_ n2_ n3_; clear hb hbox hg; have hcz23_0 : w22.cell? ⟨gb417, 0, none⟩ = some (.slice A0_0 l0_0.length c0_0) := (blk_cell Za.out 0).trans rfl; have hcz23_1 : w22.cell? ⟨gb417, 1, none⟩ = some (.slice A0_1 l0_1.length c0_1) := (blk_cell Za.out 1).trans rfl; have hcz23_2 : w22.cell? ⟨gb417, 2, none⟩ = some (.slice A0_2 l0_2.length c0_2) := (blk_cell Za.out 2).trans rfl; have hcz23_3 : w22.cell? ⟨gb417, 3, none⟩ = some (.slice A0_3 l0_3.length c0_3) := (blk_cell Za.out 3).trans rfl; have hfz23_0 := blk_frozen Za.out 0; have hfz23_1 := blk_frozen Za.out 1; have hfz23_2 := blk_frozen Za.out 2; have hfz23_3 := blk_frozen Za.out 3) | ((with_reducible refine gate_callee (f := 38) rfl ?_); refine goesL_ (some 8) rfl rfl Tryz.func38 (by kernel_rfl) rfl #[.slice A0_0 l0_0.length c0_0, .int .i64 a1] rfl zq ?_; (with_reducible refine (laws_szIntS.calls _ _ l0_0 a1 t418 _ ?side1 ?side2 A3.out).mono ?_); (case side1 => exact zC (Kd.C_below Zc.out HB.out)); (case side2 => exact Zd.out); rintro e w' ⟨rfl, ⟨nd, rfl⟩⟩; refine ⟨_, rfl, ?_⟩) | ((with_reducible refine gate_callee (f := 38) rfl ?_); refine goesL_ (some 14) rfl rfl Tryz.func38 (by kernel_rfl) rfl #[.slice A0_1 l0_1.length c0_1, .int .i64 t418] rfl zq ?_; (with_reducible refine (laws_szIntS.calls _ _ l0_1 t418 t419 _ ?side1 ?side2 A7.out).mono ?_); (case side1 => exact zC (Kd.C_below Ze.out (zg_2 HB.out Zb.out))); (case side2 => exact Zf.out); rintro e w' ⟨rfl, ⟨nd, rfl⟩⟩; refine ⟨_, rfl, ?_⟩) | ((with_reducible refine gate_callee (f := 39) rfl ?_); refine goesL_ (some 20) rfl rfl Tryz.func39 (by kernel_rfl) rfl #[.slice A0_2 l0_2.length c0_2, .int .i64 t419] rfl zq ?_; (with_reducible refine (laws_szSnapS.calls k _ _ l0_2 t419 t420 _ ?side1 ?side2 A11.out).mono ?_); (case side1 => exact zC (Kd.C_below Zh.out (zg_2 HB.out Zb.out))); (case side2 => exact Zi.out); rintro e w24 ⟨rfl, hb⟩; refine ⟨_, rfl, ?_⟩; have n0_ := zm (blk_below (g := gb417) (o := .cells #[.slice A0_0 l0_0.length c0_0, .slice A0_1 l0_1.length c0_1, .slice A0_2 l0_2.length c0_2, .slice A0_3 l0_3.length c0_3] 36 (0, 0)) (zg_3 Za.out) hb); have n1_ := zm (below_step (zg_2 HB.out Zb.out) hb); clear Za; clear HB; have Za := n0_; have HB := n1_; clear n0_ n1_; (try clear hb); (try clear hb2); (try clear hk); (try clear hi); have hcz25_0 : w24.cell? ⟨gb417, 0, none⟩ = some (.slice A0_0 l0_0.length c0_0) := (blk_cell Za.out 0).trans rfl; have hcz25_1 : w24.cell? ⟨gb417, 1, none⟩ = some (.slice A0_1 l0_1.length c0_1) := (blk_cell Za.out 1).trans rfl; have hcz25_2 : w24.cell? ⟨gb417, 2, none⟩ = some (.slice A0_2 l0_2.length c0_2) := (blk_cell Za.out 2).trans rfl; have hcz25_3 : w24.cell? ⟨gb417, 3, none⟩ = some (.slice A0_3 l0_3.length c0_3) := (blk_cell Za.out 3).trans rfl; have hfz25_0 := blk_frozen Za.out 0; have hfz25_1 := blk_frozen Za.out 1; have hfz25_2 := blk_frozen Za.out 2; have hfz25_3 := blk_frozen Za.out 3) | ((with_reducible refine gate_callee (f := 38) rfl ?_); refine goesL_ (some 26) rfl rfl Tryz.func38 (by kernel_rfl) rfl #[.slice A0_3 l0_3.length c0_3, .int .i64 t420] rfl zq ?_; (with_reducible refine (laws_szIntS.calls _ _ l0_3 t420 t421 _ ?side1 ?side2 A16.out).mono ?_); (case side1 => exact zC (Kd.C_below Zj.out HB.out)); (case side2 => exact Zk.out); rintro e w' ⟨rfl, ⟨nd, rfl⟩⟩; refine ⟨_, rfl, ?_⟩))
     go_ret
     exact ⟨by first | rfl | (simp [errW_none, errW_some] <;> rfl) | (simp [*, errW_none, errW_some] <;> rfl), zg_2 HB.out Zb.out⟩
/-! ### laws_toIntS: function 42 -/
def laws_toIntS.l0 : Nat → List Int → List Int → Int → Option (List Int)
  | 0, _, _, _ => none
  | k + 1, x0, x3, x4 => if x4 < (x0.length : Int) then (if 0 ≤ x4 then (if x4 < (x3.length : Int) then (laws_toIntS.l0 k x0 (x3.set (x4 : Int).toNat (rd x0 x4)) (wrap64 (x4 + 1))) else (none)) else (none)) else (some x3)
def laws_toIntS.f (k : Nat) (l0 : List Int) : Option (List Int) := if 0 ≤ (l0.length : Int) then (if ((l0.length : Int) : Int).toNat ≤ 35184372088832 then (laws_toIntS.l0 k l0 (List.replicate ((l0.length : Int) : Int).toNat 0) 0) else (none)) else (none)
theorem laws_toIntS.mono_l : ∀ k, (∀ y0 y1 y2, LeO (laws_toIntS.l0 k y0 y1 y2) (laws_toIntS.l0 (k + 1) y0 y1 y2))
  | 0 => fun _ _ _ r h => by simp [laws_toIntS.l0] at h
  | k + 1 => by
    have ih0 := laws_toIntS.mono_l k
    · intro y0 y1 y2
      unfold laws_toIntS.l0
      repeat' first
      | (with_reducible exact ih0 _ _ _)
      | (with_reducible exact LeO.refl _)
      | (with_reducible exact LeO.none _)
      | (with_reducible refine LeO.ite ?_ ?_)
      | (with_reducible refine LeO.bind ?_ (fun _ => ?_))
      | exact ih0 _ _ _
      | exact LeO.none _
      | refine LeO.ite ?_ ?_
      | refine LeO.bind ?_ (fun _ => ?_)
theorem laws_toIntS.mono : ∀ a0 k, LeO (laws_toIntS.f k a0) (laws_toIntS.f (k + 1) a0) := by
  intro a0 k
  have ih0 := laws_toIntS.mono_l k
  unfold laws_toIntS.f
  repeat' first
      | (with_reducible exact ih0 _ _ _)
      | (with_reducible exact LeO.refl _)
      | (with_reducible exact LeO.none _)
      | (with_reducible refine LeO.ite ?_ ?_)
      | (with_reducible refine LeO.bind ?_ (fun _ => ?_))
      | exact ih0 _ _ _
      | exact LeO.none _
      | refine LeO.ite ?_ ?_
      | refine LeO.bind ?_ (fun _ => ?_)
set_option maxHeartbeats 8000000 in
set_option maxRecDepth 100000 in
theorem laws_toIntS.calls (k : Nat) (A0 : Option Addr) (c0 : Nat) (l0 : List Int) (r : List Int) (w : World) (hr0 : Kd.C (Kd.int .i64) w A0 l0.length l0) (hc0 : l0.length ≤ c0) (h : laws_toIntS.f k l0 = some r) :
    Calls Tryz.prog 42 #[.slice A0 l0.length c0] w fun e w' => ∃ v0_ : Value, e = .returned (v0_) ∧ Kd.R (Kd.int .i64) 3 w' w.heap.size (fun _ => True) v0_ r ∧ Below w.heap.size w w' := by
 have HR0 := zm hr0
 have HC0 := zm hc0
 clear hr0 hc0
 have HB := zm (Below.refl w.heap.size w)
 have H : (if 0 ≤ (l0.length : Int) then (if ((l0.length : Int) : Int).toNat ≤ 35184372088832 then (laws_toIntS.l0 k l0 (List.replicate ((l0.length : Int) : Int).toNat 0) 0) else (none)) else (none)) = some r := h
 clear h
 by_cases c2 : 0 ≤ (l0.length : Int)
 ·rw [if_pos c2] at H
  have c2b0 := eq_true c2
  have c2b1 : decide (0 ≤ (l0.length : Int)) = true := decide_eq_true c2
  clear c2
  by_cases c3 : ((l0.length : Int) : Int).toNat ≤ 35184372088832
  ·rw [if_pos c3] at H
   have c3b0 := eq_true c3
   have c3b1 : decide (((l0.length : Int) : Int).toNat ≤ 35184372088832) = true := decide_eq_true c3
   clear c3
   obtain ⟨y510, hy510⟩ : ∃ y_ : List Int, y_ = (List.replicate ((l0.length : Int) : Int).toNat 0) := ⟨_, rfl⟩
   replace H : (laws_toIntS.l0 k l0 y510 0) = some r := by first | (rw [hy510]; with_reducible exact H) | (have H2_ := (Option.bind_some _ _).symm.trans H; rw [hy510]; with_reducible exact H2_) | (have H2_ := (Option.bind_some _ _).symm.trans H; with_reducible exact H2_) | with_reducible exact H | (rw [hy510]; exact H) | exact H
   have Ny510 := zm hy510
   clear hy510
   have H' := zm H
   clear H
   go_enter Tryz.func42, Tryz.ntmps42
   go_wp2_with (first | ((with_reducible refine gate_dst (N := 7) rfl ?_); refine Kd.R_make (Kd.int .i64) _ 3 rfl (N := 7) rfl 23 _ _ rfl (l0.length : Int) rfl rfl Tryz.underlying23 (.int .i64 0) 8 info3 rfl (by decide) (by omega) 0 (ok := fun _ => True) (okp := fun _ => True) rfl (fun _ hk => hk) trivial (zd) (Nat.le_trans (Nat.mul_le_mul_right _ (zd : (l0.length : Int).toNat ≤ 35184372088832)) (by omega)) (Below.refl _ _) (Nat.le_refl _) ?_; intro v511 w4 ho5 hb hg_ hnew_; clear hg_ hnew_; (first | rw [← Ny510.out] at ho5 | (simp only [Int.reduceToNat] at ho5; rw [← Ny510.out] at ho5)); have n0_ := zm (Kd.R_lower ho5 (below_size (zg_1 HB.out))); have n1_ := zm (below_step (zg_1 HB.out) hb); clear HB; have Zc := n0_; have HB := n1_; clear n0_ n1_; clear hb ho5))
   go_loopg [4] k (fun kq v4 w' => ∃ (x3_1 : List Int) (x4_1 : Int), v4 = .int .i64 x4_1 ∧ Aside0 (laws_toIntS.l0 kq l0 x3_1 x4_1 = some r) ∧ Aside0 (kq ≤ k) ∧ Aside0 (Kd.R (Kd.int .i64) 3 w' w.heap.size (fun _ => True) v511 x3_1) ∧ Aside0 (Below w.heap.size w w'))
   case atStart => exact ⟨(y510), (0), zr, H', ⟨Nat.le_refl _⟩, ⟨by (with_reducible repeat (first | apply Kd.R_alloc | apply Kd.R_drewN | apply Kd.R_drew)); exact Zc.out⟩, ⟨zg_1 HB.out⟩⟩
   case round =>
    clear H'
    try clear c2
    try clear c2b0
    try clear c2b1
    try clear p2
    try clear c3
    try clear c3b0
    try clear c3b1
    try clear c4
    obtain ⟨x3_1, x4_1, rfl, HA, HK1, Za, HB⟩ := hrel
    cases gk with
    | zero => exact absurd HA.out (by simp [laws_toIntS.l0])
    | succ k1 =>
     have H := HA.out
     clear HA
     simp only [laws_toIntS.l0] at H
     by_cases c6 : x4_1 < (l0.length : Int)
     ·rw [if_pos c6] at H
      have c6b0 : decide (x4_1 < (l0.length : Int)) = true := decide_eq_true c6
      clear c6
      by_cases c7 : 0 ≤ x4_1
      ·rw [if_pos c7] at H
       have c7b0 : decide (0 ≤ x4_1) = true := decide_eq_true c7
       clear c7
       by_cases c8 : x4_1 < (x3_1.length : Int)
       ·rw [if_pos c8] at H
        have c8b0 : decide (x4_1 < (x3_1.length : Int)) = true := decide_eq_true c8
        clear c8
        obtain ⟨y514, hy514⟩ : ∃ y_ : List Int, y_ = (x3_1.set (x4_1 : Int).toNat (rd l0 x4_1)) := ⟨_, rfl⟩
        replace H : (laws_toIntS.l0 k1 l0 y514 (wrap64 (x4_1 + 1))) = some r := by first | (rw [hy514]; with_reducible exact H) | (have H2_ := (Option.bind_some _ _).symm.trans H; rw [hy514]; with_reducible exact H2_) | (have H2_ := (Option.bind_some _ _).symm.trans H; with_reducible exact H2_) | with_reducible exact H | (rw [hy514]; exact H) | exact H
        have Ny514 := zm hy514
        clear hy514
        have H' := zm H
        clear H
        have p513 : 0 ≤ (x4_1 : Int) := zd
        have q513 : x4_1 < (l0.length : Int) := zd
        obtain ⟨ad513, e513, hx513_0⟩ := Kd.at_int HR0.out x4_1 p513 q513
        cases e513
        replace hx513_0 := (HB.out.cell (World.block_lt_of_cell? w _ hx513_0)).trans hx513_0
        replace p513 := eq_true p513
        replace q513 := eq_true q513
        have p9 : 0 ≤ (x4_1 : Int) := zd
        have q9 : (x4_1 : Int) < ((x3_1.length : Int) : Int) := zd
        obtain ⟨go9, co9, eo9, gb9, gl9, cl9, HG9⟩ := Kd.R_form Za.out (by omega)
        (first | cases eo9 | (injection eo9 with ea_ en_ ec_; (first | subst ea_ | (injection ea_ with ea_; subst ea_)); subst ec_; clear en_))
        have GB9 := zm gb9
        have GG9 := zm HG9
        clear gb9 gl9 HG9
        obtain ⟨hx9_0, hf9_0⟩ := Kd.R_celln 0 Za.out (x4_1 : Int) p9 q9
        replace p9 := eq_true p9
        replace q9 := eq_true q9
        have Zb := Kd.R_putg Za.out (x4_1 : Int) (rd l0 x4_1)
        go_wp2_with (first | ((with_reducible refine gate_store (t := 3) (p := 20) rfl ?_); refine store_event (t := 3) (p := 20) (v := ?vo_w11) (w1 := (wr.setCell ⟨go9, (x4_1 : Int).toNat, none⟩ (.int .i64 (rd l0 x4_1)))) ?hg ?ho ?hn ?hr ?_; (case ho => rfl); (case hg => rfl); (case hn => rfl); (case hr => first | (go_simp; done) | (go_simp; rfl)); intro w11 hw; have hg : wr.grownBy w11 (some go9) := (by rw [hw]; exact Zb.2); have hp_ : Kd.R (Kd.int .i64) 3 w11 w.heap.size (fun _ => True) (.slice (some ⟨go9, 0, none⟩) x3_1.length co9) y514 := (by rw [hw, Ny514.out]; exact Zb.1); clear Zb; have n0_ := zm (hp_); have n1_ := zm ((by rw [hw]; exact below_set (HB.out) GB9.out : Below w.heap.size w w11)); clear Za; clear HB; have Za := n0_; have HB := n1_; clear n0_ n1_; clear hg hw hp_))
        go_roundg k1
        case measure => have := HK1.out; omega
        case rel => exact ⟨(y514), (wrap64 (x4_1 + 1)), zr, H', ⟨by have := HK1.out; omega⟩, ⟨by (with_reducible repeat (first | apply Kd.R_alloc | apply Kd.R_drewN | apply Kd.R_drew)); exact Za.out⟩, ⟨zg_1 HB.out⟩⟩
       ·rw [if_neg c8] at H
        exact absurd H (by simp)
      ·rw [if_neg c7] at H
       exact absurd H (by simp)
     ·rw [if_neg c6] at H
      have c6b0 : decide (x4_1 < (l0.length : Int)) = false := decide_eq_false c6
      clear c6
      obtain rfl := Option.some.inj H
      go_wp2
      go_ret
      exact ⟨_, by first | rfl | (simp [errW_none, errW_some] <;> rfl) | (simp [*, errW_none, errW_some] <;> rfl), by (with_reducible repeat (first | apply Kd.R_alloc | apply Kd.R_drewN | apply Kd.R_drew)); exact Za.out, zg_1 HB.out⟩
  ·rw [if_neg c3] at H
   exact absurd H (by simp)
 ·rw [if_neg c2] at H
  exact absurd H (by simp)
/-! ### laws_toSnap: function 88 -/
def laws_toSnap.f (k : Nat) (a0_0 : ByteArray) (l0_1 : List Int) : Option (ByteArray × List Int) := (laws_toIntS.f k l0_1).bind fun t518 => (some (a0_0, t518))
theorem laws_toSnap.mono : ∀ a0 a1 k, LeO (laws_toSnap.f k a0 a1) (laws_toSnap.f (k + 1) a0 a1) := by
  intro a0 a1 k
  unfold laws_toSnap.f
  repeat' first
      | (with_reducible exact laws_toIntS.mono _ _)
      | (with_reducible exact LeO.refl _)
      | (with_reducible exact LeO.none _)
      | (with_reducible refine LeO.ite ?_ ?_)
      | (with_reducible refine LeO.bind ?_ (fun _ => ?_))
      | exact laws_toIntS.mono _ _
      | exact LeO.none _
      | refine LeO.ite ?_ ?_
      | refine LeO.bind ?_ (fun _ => ?_)
set_option maxHeartbeats 8000000 in
set_option maxRecDepth 100000 in
theorem laws_toSnap.calls (k : Nat) (a0_0 : ByteArray) (A0_1 : Option Addr) (c0_1 : Nat) (l0_1 : List Int) (r1 : ByteArray) (r2 : List Int) (w : World) (hr0_1 : Kd.C (Kd.int .i64) w A0_1 l0_1.length l0_1) (hc0_1 : l0_1.length ≤ c0_1) (h : laws_toSnap.f k a0_0 l0_1 = some (r1, r2)) :
    Calls Tryz.prog 88 #[.agg #[.string a0_0, .slice A0_1 l0_1.length c0_1]] w fun e w' => ∃ v1_ : Value, e = .returned (.agg #[.string r1, v1_]) ∧ Kd.R (Kd.int .i64) 3 w' w.heap.size (fun _ => True) v1_ r2 ∧ Below w.heap.size w w' := by
 have hu102 := Tryz.underlying102
 have hu103 := Tryz.underlying103
 have Zn := zm hr0_1
 have Zo := zm hc0_1
 clear hr0_1 hc0_1
 have HB := zm (Below.refl w.heap.size w)
 have H : ((laws_toIntS.f k l0_1).bind fun t518 => (some (a0_0, t518))) = some (r1, r2) := h
 clear h
 replace H := Option.bind_eq_some_iff.mp H
 obtain ⟨t518, A20, H⟩ := H
 replace H : (some (a0_0, t518)) = some (r1, r2) := H
 have A2 := zm A20
 clear A20
 simp only [Option.some.injEq, Prod.mk.injEq] at H
 obtain ⟨rfl, rfl⟩ := H
 go_enter Tryz.func88, Tryz.ntmps88
 go_wp2_with (first | ((with_reducible refine gate_dst (N := 1) rfl ?_); refine box_event ?hg (N := 1) ?hd (cs := #[.string a0_0, .slice A0_1 l0_1.length c0_1]) (t := 102) ?hr ?_; (case hd => rfl); (case hg => rfl); (case hr => first | (go_simp; done) | (go_simp; rfl)); intro gb515 hg w3 hbox hb; have n0_ := zm (below_step (zg_1 HB.out) hb); have n1_ := zm (hbox); have n2_ := zm ((by rw [hg]; exact (below_size (zg_1 HB.out)) : w.heap.size ≤ gb515)); have n3_ := zm ((by rw [hg]; exact (below_size (zg_1 HB.out)) : w.heap.size ≤ gb515)); clear HB; have HB := n0_; have Za := n1_; have Zp := n2_; have Zd := n3_; clear n0_ n1_ n2_ n3_; clear hb hbox hg) | ((with_reducible refine gate_dst (N := 2) rfl ?_); refine box_event ?hg (N := 2) ?hd (cs := #[.string (⟨#[]⟩ : ByteArray), .slice none 0 0]) (t := 103) ?hr ?_; (case hd => rfl); (case hg => rfl); (case hr => first | (go_simp; done) | (go_simp; rfl)); intro gb516 hg w4 hbox hb; have n0_ := zm (blk_below (g := gb515) (o := .cells #[.string a0_0, .slice A0_1 l0_1.length c0_1] 102 (0, 0)) (zg_3 Za.out) hb); have n1_ := zm (below_step (zg_2 HB.out Zd.out) hb); have n2_ := zm (hbox); have n3_ := zm ((by rw [hg]; exact (below_size (zg_2 HB.out Zd.out)) : w.heap.size ≤ gb516)); have n4_ := zm ((by rw [hg]; exact (below_size (zg_2 HB.out Zd.out)) : w.heap.size ≤ gb516)); have n5_ := zm ((by rw [hg]; exact Nat.ne_of_lt (blk_lt (g := gb515) (o := .cells #[.string a0_0, .slice A0_1 l0_1.length c0_1] 102 (0, 0)) (zg_3 Za.out)) : gb515 ≠ gb516)); have n6_ := zm ((by rw [hg]; exact Nat.ne_of_gt (blk_lt (g := gb515) (o := .cells #[.string a0_0, .slice A0_1 l0_1.length c0_1] 102 (0, 0)) (zg_3 Za.out)) : gb516 ≠ gb515)); clear Za; clear HB; have Za := n0_; have HB := n1_; have Zb := n2_; have Zq := n3_; have Zf := n4_; have Zi := n5_; have Zj := n6_; clear n0_ n1_ n2_ n3_ n4_ n5_ n6_; clear hb hbox hg) | ((with_reducible refine gate_dst (N := 3) rfl ?_); refine box_event ?hg (N := 3) ?hd (cs := #[.string (⟨#[]⟩ : ByteArray), .slice none 0 0]) (t := 103) ?hr ?_; (case hd => rfl); (case hg => rfl); (case hr => first | (go_simp; done) | (go_simp; rfl)); intro gb517 hg w5 hbox hb; have n0_ := zm (blk_below (g := gb515) (o := .cells #[.string a0_0, .slice A0_1 l0_1.length c0_1] 102 (0, 0)) (zg_3 Za.out) hb); have n1_ := zm (blk_below (g := gb516) (o := .cells #[.string (⟨#[]⟩ : ByteArray), .slice none 0 0] 103 (0, 0)) (zg_3 Zb.out) hb); have n2_ := zm (below_step (zg_5 HB.out Zd.out Zf.out) hb); have n3_ := zm (hbox); have n4_ := zm ((by rw [hg]; exact (below_size (zg_5 HB.out Zd.out Zf.out)) : w.heap.size ≤ gb517)); have n5_ := zm ((by rw [hg]; exact (below_size (zg_5 HB.out Zd.out Zf.out)) : w.heap.size ≤ gb517)); have n6_ := zm ((by rw [hg]; exact Nat.ne_of_lt (blk_lt (g := gb515) (o := .cells #[.string a0_0, .slice A0_1 l0_1.length c0_1] 102 (0, 0)) (zg_3 Za.out)) : gb515 ≠ gb517)); have n7_ := zm ((by rw [hg]; exact Nat.ne_of_gt (blk_lt (g := gb515) (o := .cells #[.string a0_0, .slice A0_1 l0_1.length c0_1] 102 (0, 0)) (zg_3 Za.out)) : gb517 ≠ gb515)); have n8_ := zm ((by rw [hg]; exact Nat.ne_of_lt (blk_lt (g := gb516) (o := .cells #[.string (⟨#[]⟩ : ByteArray), .slice none 0 0] 103 (0, 0)) (zg_3 Zb.out)) : gb516 ≠ gb517)); have n9_ := zm ((by rw [hg]; exact Nat.ne_of_gt (blk_lt (g := gb516) (o := .cells #[.string (⟨#[]⟩ : ByteArray), .slice none 0 0] 103 (0, 0)) (zg_3 Zb.out)) : gb517 ≠ gb516)); clear Za; clear Zb; clear HB; have Za := n0_; have Zb := n1_; have HB := n2_; have Zc := n3_; have Zr := n4_; have Zh := n5_; have Zg := n6_; have Zk := n7_; have Ze := n8_; have Zl := n9_; clear n0_ n1_ n2_ n3_ n4_ n5_ n6_ n7_ n8_ n9_; clear hb hbox hg; have hnb6 := Zi.out; have hnc6 := Zj.out; have hnb7 := Zg.out; have hnc7 := Zk.out; have hcz8_0 : w5.cell? ⟨gb515, 0, none⟩ = some (.string a0_0) := (blk_cell Za.out 0).trans rfl; have hcz8_1 : w5.cell? ⟨gb515, 1, none⟩ = some (.slice A0_1 l0_1.length c0_1) := (blk_cell Za.out 1).trans rfl; have hfz8_0 := blk_frozen Za.out 0; have hfz8_1 := blk_frozen Za.out 1; have hnb9 := Zl.out; have hnc9 := Ze.out; have hcz10_0 : w5.cell? ⟨gb517, 0, none⟩ = some (.string (⟨#[]⟩ : ByteArray)) := (blk_cell Zc.out 0).trans rfl; have hcz10_1 : w5.cell? ⟨gb517, 1, none⟩ = some (.slice none 0 0) := (blk_cell Zc.out 1).trans rfl; have hfz10_0 := blk_frozen Zc.out 0; have hfz10_1 := blk_frozen Zc.out 1) | ((with_reducible refine gate_callee (f := 42) rfl ?_); refine goesL_ (some 9) rfl rfl Tryz.func42 (by kernel_rfl) rfl #[.slice A0_1 l0_1.length c0_1] rfl zq ?_; (with_reducible refine (laws_toIntS.calls k _ _ l0_1 t518 _ ?side1 ?side2 A2.out).mono ?_); (case side1 => exact Kd.C_below Zn.out (zg_8 HB.out Zd.out Zf.out Zh.out)); (case side2 => exact Zo.out); rintro e w11 ⟨v519, rfl, ho0, hb⟩; refine ⟨_, rfl, ?_⟩; have n0_ := zm (Kd.R_lower ho0 (below_size (zg_8 HB.out Zd.out Zf.out Zh.out))); have n1_ := zm (blk_below (g := gb515) (o := .cells #[.string a0_0, .slice A0_1 l0_1.length c0_1] 102 (0, 0)) (by (with_reducible repeat (first | refine blk_drewN ?_ _ | refine blk_drew ?_ | refine blk_alloc ?_ _)); refine blk_far ?_ Zg.out _; (with_reducible repeat (first | refine blk_drewN ?_ _ | refine blk_drew ?_ | refine blk_alloc ?_ _)); exact Za.out) hb); have n2_ := zm (blk_below (g := gb516) (o := .cells #[.string (⟨#[]⟩ : ByteArray), .slice none 0 0] 103 (0, 0)) (by (with_reducible repeat (first | refine blk_drewN ?_ _ | refine blk_drew ?_ | refine blk_alloc ?_ _)); refine blk_far ?_ Ze.out _; (with_reducible repeat (first | refine blk_drewN ?_ _ | refine blk_drew ?_ | refine blk_alloc ?_ _)); exact Zb.out) hb); have n3_ := zm (blk_below (g := gb517) (o := .cells #[.string a0_0, .slice none 0 0] 103 (0, 0)) (by (with_reducible repeat (first | refine blk_drewN ?_ _ | refine blk_drew ?_ | refine blk_alloc ?_ _)); refine blk_put (cs := #[.string (⟨#[]⟩ : ByteArray), .slice none 0 0]) ?_ 0 _ rfl; (with_reducible repeat (first | refine blk_drewN ?_ _ | refine blk_drew ?_ | refine blk_alloc ?_ _)); exact Zc.out) hb); have n4_ := zm (below_step (zg_8 HB.out Zd.out Zf.out Zh.out) hb); clear Za; clear Zb; clear Zc; clear HB; have Zm := n0_; have Za := n1_; have Zb := n2_; have Zc := n3_; have HB := n4_; clear n0_ n1_ n2_ n3_ n4_; (try clear hb); (try clear hb2); (try clear hk); (try clear hi); (try clear ho0); obtain ⟨Ao12, co12, eo12⟩ := Kd.R_slice Zm.out; subst eo12; have hcz13_0 : w11.cell? ⟨gb517, 0, none⟩ = some (.string a0_0) := (blk_cell Zc.out 0).trans rfl; have hcz13_1 : w11.cell? ⟨gb517, 1, none⟩ = some (.slice none 0 0) := (blk_cell Zc.out 1).trans rfl; have hfz13_0 := blk_frozen Zc.out 0; have hfz13_1 := blk_frozen Zc.out 1; have hcz14_0 : w11.cell? ⟨gb516, 0, none⟩ = some (.string (⟨#[]⟩ : ByteArray)) := (blk_cell Zb.out 0).trans rfl; have hcz14_1 : w11.cell? ⟨gb516, 1, none⟩ = some (.slice none 0 0) := (blk_cell Zb.out 1).trans rfl; have hfz14_0 := blk_frozen Zb.out 0; have hfz14_1 := blk_frozen Zb.out 1))
 refine bodyPost_ret (results_cell_row rfl _ _ gb516 103 #[.string a0_0, .slice Ao12 t518.length co12] (0, 0) _ rfl (by (with_reducible repeat (first | refine blk_drewN ?_ _ | refine blk_drew ?_ | refine blk_alloc ?_ _)); refine blk_put (cs := #[.string a0_0, .slice none 0 0]) ?_ 1 _ rfl; (with_reducible repeat (first | refine blk_drewN ?_ _ | refine blk_drew ?_ | refine blk_alloc ?_ _)); refine blk_put (cs := #[.string (⟨#[]⟩ : ByteArray), .slice none 0 0]) ?_ 0 _ rfl; (with_reducible repeat (first | refine blk_drewN ?_ _ | refine blk_drew ?_ | refine blk_alloc ?_ _)); refine blk_far ?_ Ze.out _; (with_reducible repeat (first | refine blk_drewN ?_ _ | refine blk_drew ?_ | refine blk_alloc ?_ _)); exact Zb.out) Tryz.underlying103 rfl (by kernel_rfl)) rfl ?_
 exact ⟨_, by first | rfl | (simp [errW_none, errW_some] <;> rfl) | (simp [*, errW_none, errW_some] <;> rfl), by (with_reducible repeat (first | apply Kd.R_alloc | apply Kd.R_drewN | apply Kd.R_drew)); exact Kd.R_mono (Kd.R_far (p := ⟨gb516, 1, none⟩) (Kd.R_far (p := ⟨gb516, 0, none⟩) (Kd.R_far (p := ⟨gb517, 1, none⟩) (Kd.R_types (Kd.R_types Zm.out Zc.out (by decide)) Zb.out (by decide)) (fun _ hk => hk.1.2) (.slice Ao12 t518.length co12)) (fun _ hk => hk.2) (.string a0_0)) (fun _ hk => hk.2) (.slice Ao12 t518.length co12)) (fun _ hk => trivial), zg_8 HB.out Zd.out Zf.out Zh.out⟩
/-! ### laws_toSnapS: function 43 -/
def laws_toSnapS.l0 : Nat → List (S102) → List (S103) → Int → Option ((List (S103)))
  | 0, _, _, _ => none
  | k + 1, x0, x3, x4 => if x4 < (x0.length : Int) then (if 0 ≤ x4 then ((laws_toSnap.f k ((rd_T102 x0 x4).f0) ((rd_T102 x0 x4).f1)).bind fun bt525 => (if x4 < (x3.length : Int) then (laws_toSnapS.l0 k x0 (x3.set (x4 : Int).toNat (⟨bt525.1, bt525.2⟩ : S103)) (wrap64 (x4 + 1))) else (none))) else (none)) else (some x3)
def laws_toSnapS.f (k : Nat) (l0 : List (S102)) : Option ((List (S103))) := if 0 ≤ (l0.length : Int) then (if ((l0.length : Int) : Int).toNat ≤ 7036874417766 then (laws_toSnapS.l0 k l0 (List.replicate ((l0.length : Int) : Int).toNat z103) 0) else (none)) else (none)
theorem laws_toSnapS.mono_l : ∀ k, (∀ y0 y1 y2, LeO (laws_toSnapS.l0 k y0 y1 y2) (laws_toSnapS.l0 (k + 1) y0 y1 y2))
  | 0 => fun _ _ _ r h => by simp [laws_toSnapS.l0] at h
  | k + 1 => by
    have ih0 := laws_toSnapS.mono_l k
    · intro y0 y1 y2
      unfold laws_toSnapS.l0
      repeat' first
      | (with_reducible exact ih0 _ _ _)
      | (with_reducible exact laws_toSnap.mono _ _ _)
      | (with_reducible exact LeO.refl _)
      | (with_reducible exact LeO.none _)
      | (with_reducible refine LeO.ite ?_ ?_)
      | (with_reducible refine LeO.bind ?_ (fun _ => ?_))
      | exact ih0 _ _ _
      | exact laws_toSnap.mono _ _ _
      | exact LeO.none _
      | refine LeO.ite ?_ ?_
      | refine LeO.bind ?_ (fun _ => ?_)
theorem laws_toSnapS.mono : ∀ a0 k, LeO (laws_toSnapS.f k a0) (laws_toSnapS.f (k + 1) a0) := by
  intro a0 k
  have ih0 := laws_toSnapS.mono_l k
  unfold laws_toSnapS.f
  repeat' first
      | (with_reducible exact ih0 _ _ _)
      | (with_reducible exact laws_toSnap.mono _ _ _)
      | (with_reducible exact LeO.refl _)
      | (with_reducible exact LeO.none _)
      | (with_reducible refine LeO.ite ?_ ?_)
      | (with_reducible refine LeO.bind ?_ (fun _ => ?_))
      | exact ih0 _ _ _
      | exact laws_toSnap.mono _ _ _
      | exact LeO.none _
      | refine LeO.ite ?_ ?_
      | refine LeO.bind ?_ (fun _ => ?_)
set_option maxHeartbeats 8000000 in
set_option maxRecDepth 100000 in
theorem laws_toSnapS.calls (k : Nat) (A0 : Option Addr) (c0 : Nat) (l0 : List (S102)) (r : List (S103)) (w : World) (hr0 : Kd.C k102 w A0 l0.length l0) (hc0 : l0.length ≤ c0) (h : laws_toSnapS.f k l0 = some r) :
    Calls Tryz.prog 43 #[.slice A0 l0.length c0] w fun e w' => ∃ v0_ : Value, e = .returned (v0_) ∧ Kd.S k103 103 w' w.heap.size (fun _ => True) v0_ r ∧ Below w.heap.size w w' := by
 have hu102 := Tryz.underlying102
 have hu103 := Tryz.underlying103
 have HR0 := zm hr0
 have HC0 := zm hc0
 clear hr0 hc0
 have HB := zm (Below.refl w.heap.size w)
 have H : (if 0 ≤ (l0.length : Int) then (if ((l0.length : Int) : Int).toNat ≤ 7036874417766 then (laws_toSnapS.l0 k l0 (List.replicate ((l0.length : Int) : Int).toNat z103) 0) else (none)) else (none)) = some r := h
 clear h
 by_cases c2 : 0 ≤ (l0.length : Int)
 ·rw [if_pos c2] at H
  have c2b0 := eq_true c2
  have c2b1 : decide (0 ≤ (l0.length : Int)) = true := decide_eq_true c2
  clear c2
  by_cases c3 : ((l0.length : Int) : Int).toNat ≤ 7036874417766
  ·rw [if_pos c3] at H
   have c3b0 := eq_true c3
   have c3b1 : decide (((l0.length : Int) : Int).toNat ≤ 7036874417766) = true := decide_eq_true c3
   clear c3
   obtain ⟨y521, hy521⟩ : ∃ y_ : List (S103), y_ = (List.replicate ((l0.length : Int) : Int).toNat z103) := ⟨_, rfl⟩
   replace H : (laws_toSnapS.l0 k l0 y521 0) = some r := by first | (rw [hy521]; with_reducible exact H) | (have H2_ := (Option.bind_some _ _).symm.trans H; rw [hy521]; with_reducible exact H2_) | (have H2_ := (Option.bind_some _ _).symm.trans H; with_reducible exact H2_) | with_reducible exact H | (rw [hy521]; exact H) | exact H
   have Ny521 := zm hy521
   clear hy521
   have H' := zm H
   clear H
   go_enter Tryz.func43, Tryz.ntmps43
   go_wp2_with (first | ((with_reducible refine gate_dst (N := 7) rfl ?_); refine Kd.S_make k103 _ 103 rfl (N := 7) rfl 24 _ _ rfl (l0.length : Int) rfl rfl Tryz.underlying24 (.agg #[(.string ⟨#[]⟩), (.slice none 0 0)]) 40 info103 rfl (by decide) (by omega) z103 (ok := fun _ => True) (okp := fun _ => True) (k103_mkM _ _ _ z103 (Kd.R_nil _ _ _ _ _)) (fun _ hk => hk) trivial (zd) (Nat.le_trans (Nat.mul_le_mul_right _ (zd : (l0.length : Int).toNat ≤ 7036874417766)) (by omega)) (Below.refl _ _) (Nat.le_refl _) ?_; intro v522 w4 ho5 hb hg_ hnew_; clear hg_ hnew_; (first | rw [← Ny521.out] at ho5 | (simp only [Int.reduceToNat] at ho5; rw [← Ny521.out] at ho5)); have n0_ := zm (Kd.S_lower ho5 (below_size (zg_1 HB.out))); have n1_ := zm (below_step (zg_1 HB.out) hb); clear HB; have Zf := n0_; have HB := n1_; clear n0_ n1_; clear hb ho5))
   go_loopg [4] k (fun kq v4 w' => ∃ (x3_1 : List (S103)) (x4_1 : Int), v4 = .int .i64 x4_1 ∧ Aside0 (laws_toSnapS.l0 kq l0 x3_1 x4_1 = some r) ∧ Aside0 (kq ≤ k) ∧ Aside0 (Kd.S k103 103 w' w.heap.size (fun _ => True) v522 x3_1) ∧ Aside0 (Below w.heap.size w w'))
   case atStart => exact ⟨(y521), (0), zr, H', ⟨Nat.le_refl _⟩, ⟨by (with_reducible repeat (first | apply Kd.S_alloc | apply Kd.S_drewN | apply Kd.S_drew)); exact Zf.out⟩, ⟨zg_1 HB.out⟩⟩
   case round =>
    clear H'
    try clear c2
    try clear c2b0
    try clear c2b1
    try clear p2
    try clear c3
    try clear c3b0
    try clear c3b1
    try clear c4
    obtain ⟨x3_1, x4_1, rfl, HA, HK1, Za, HB⟩ := hrel
    cases gk with
    | zero => exact absurd HA.out (by simp [laws_toSnapS.l0])
    | succ k1 =>
     have H := HA.out
     clear HA
     simp only [laws_toSnapS.l0] at H
     by_cases c6 : x4_1 < (l0.length : Int)
     ·rw [if_pos c6] at H
      have c6b0 : decide (x4_1 < (l0.length : Int)) = true := decide_eq_true c6
      clear c6
      by_cases c7 : 0 ≤ x4_1
      ·rw [if_pos c7] at H
       have c7b0 : decide (0 ≤ x4_1) = true := decide_eq_true c7
       clear c7
       replace H := Option.bind_eq_some_iff.mp H
       obtain ⟨⟨t525, t526⟩, A80, H⟩ := H
       replace H : (if x4_1 < (x3_1.length : Int) then (laws_toSnapS.l0 k1 l0 (x3_1.set (x4_1 : Int).toNat (⟨t525, t526⟩ : S103)) (wrap64 (x4_1 + 1))) else (none)) = some r := H
       have A8 := zm A80
       clear A80
       by_cases c9 : x4_1 < (x3_1.length : Int)
       ·rw [if_pos c9] at H
        have c9b0 : decide (x4_1 < (x3_1.length : Int)) = true := decide_eq_true c9
        clear c9
        obtain ⟨y529, hy529⟩ : ∃ y_ : List (S103), y_ = (x3_1.set (x4_1 : Int).toNat (⟨t525, t526⟩ : S103)) := ⟨_, rfl⟩
        replace H : (laws_toSnapS.l0 k1 l0 y529 (wrap64 (x4_1 + 1))) = some r := by first | (rw [hy529]; with_reducible exact H) | (have H2_ := (Option.bind_some _ _).symm.trans H; rw [hy529]; with_reducible exact H2_) | (have H2_ := (Option.bind_some _ _).symm.trans H; with_reducible exact H2_) | with_reducible exact H | (rw [hy529]; exact H) | exact H
        have Ny529 := zm hy529
        clear hy529
        have H' := zm H
        clear H
        have p524 : 0 ≤ (x4_1 : Int) := zd
        have q524 : x4_1 < (l0.length : Int) := zd
        obtain ⟨ad524, A524_1, c524_1, e524, hx524_0, hx524_1, hl524_1, hi524_1⟩ := at_T102 HR0.out x4_1 p524 q524
        cases e524
        replace hx524_0 := (HB.out.cell (World.block_lt_of_cell? w _ hx524_0)).trans hx524_0
        replace hx524_1 := (HB.out.cell (World.block_lt_of_cell? w _ hx524_1)).trans hx524_1
        have Zc := zm hi524_1
        have Zd := zm hl524_1
        clear hi524_1 hl524_1
        replace p524 := eq_true p524
        replace q524 := eq_true q524
        go_wp2_with (first | ((with_reducible refine gate_callee (f := 88) rfl ?_); refine goesL_ (some 20) rfl rfl Tryz.func88 (by kernel_rfl) rfl #[.agg #[.string ((rd_T102 l0 x4_1).f0), .slice A524_1 ((rd_T102 l0 x4_1).f1).length c524_1]] rfl zq ?_; (with_reducible refine (laws_toSnap.calls k1 ((rd_T102 l0 x4_1).f0) _ _ ((rd_T102 l0 x4_1).f1) t525 t526 _ ?side1 ?side2 A8.out).mono ?_); (case side1 => exact zC (Kd.C_below Zc.out HB.out)); (case side2 => exact Zd.out); rintro e w11 ⟨v527, rfl, ho0, hb⟩; refine ⟨_, rfl, ?_⟩; have n0_ := zm (Kd.S_elder' (zg_7 Za.out) (Kd.R_base ho0) hb); have n1_ := zm (Kd.R_lower ho0 (below_size (zg_1 HB.out))); have n2_ := zm (below_step (zg_1 HB.out) hb); clear Za; clear HB; have Za := n0_; have Zb := n1_; have HB := n2_; clear n0_ n1_ n2_; (try clear hb); (try clear hb2); (try clear hk); (try clear hi); (try clear ho0); have p10 : 0 ≤ (x4_1 : Int) := zd; have q10 : (x4_1 : Int) < ((x3_1.length : Int) : Int) := zd; obtain ⟨go10, co10, eo10, gb10, gl10, cl10, HG10⟩ := Kd.S_form Za.out (by omega); (first | cases eo10 | (injection eo10 with ea_ en_ ec_; (first | subst ea_ | (injection ea_ with ea_; subst ea_)); subst ec_; clear en_)); have GB10 := zm gb10; have Zh := zm HG10; clear gb10 gl10 HG10; obtain ⟨_, ce10, hcl10, hM10, hcc10, hfr10, _, _⟩ := Kd.S_elem Za.out z103 (x4_1 : Int) p10 q10; obtain ⟨ve10_1, rfl, ge10_1⟩ := k103_openM hM10; have hx10_0 : w11.cell? ⟨go10, (x4_1 : Int).toNat * 2, none⟩ = some (.string ((rd_T103 x3_1 x4_1).f0)) := hcc10 0 _ rfl; have hx10_1 : w11.cell? ⟨go10, (x4_1 : Int).toNat * 2 + 1, none⟩ = some (ve10_1) := hcc10 1 _ rfl; have hf10_0 : w11.frozen? ⟨go10, (x4_1 : Int).toNat * 2, none⟩ = false := hfr10 0; have hf10_1 : w11.frozen? ⟨go10, (x4_1 : Int).toNat * 2 + 1, none⟩ = false := hfr10 1; clear hcl10 hcc10 hfr10 hM10; replace p10 := eq_true p10; replace q10 := eq_true q10; obtain ⟨Ao12, co12, eo12⟩ := Kd.R_slice Zb.out; subst eo12; have n_ := zm (Kd.S_mono (ok' := (fun k_ => some k_ ≠ (.slice Ao12 t526.length co12 : Value).ownBlock)) Za.out (fun k_ hk => hk.2)); clear Za; have Za := n_; clear n_; have Zg := zm (show Kd.S k103 103 w11 w.heap.size (fun k_ => ((fun _ => True)) k_ ∧ ¬ ((fun k_ => some k_ = (.slice Ao12 t526.length co12 : Value).ownBlock)) k_) (.slice (some ⟨go10, 0, none⟩) x3_1.length co10) x3_1 from (by (with_reducible repeat (first | apply Kd.S_alloc | apply Kd.S_drewN | apply Kd.S_drew)); exact Kd.S_mono Za.out (fun k_ hk => ⟨trivial, fun e_ => hk e_⟩))); obtain ⟨oki13, ce13, hcl13, hM13, hcc13, hfr13, hoki13, hH13⟩ := Kd.S_elem Zg.out z103 (x4_1 : Int) (zd) (by have h_ : (x4_1 : Int) < ((x3_1.length : Int) : Int) := zd; first | exact h_ | (have e_ := (Kd.S_reads' Za.out).1; omega) | simpa using h_); obtain ⟨ve13_1, rfl, ge13_1⟩ := k103_openM hM13; have Ze := Kd.S_seg hH13 (zd) (by have h_ : (x4_1 : Int) < ((x3_1.length : Int) : Int) := zd; first | exact h_ | (have e_ := (Kd.S_reads' Za.out).1; omega) | simpa using h_) (seg := [.string t525, .slice Ao12 t526.length co12]) (j := 0) (show 2 ≤ 2 from by decide) (x' := (⟨t525, t526⟩ : S103)) (k103_mkM _ _ _ (⟨t525, t526⟩ : S103) (Kd.R_mono (Kd.R_tight rfl (Kd.R_mono (ok' := fun k_ => ((fun _ => True)) k_ ∧ k_ ≠ go10) (Kd.R_apart' (Zb.out) (Kd.S_typed Za.out) (by decide)) (fun k_ hk => ⟨trivial, fun e_ => (hk.2) (by rw [e_]; rfl)⟩))) (fun _ h_ => Or.inr (h_)))) (fun _ hk => hk) (fun k_ hk_ => ((Kd.R_mono (ok' := fun k_ => ((fun _ => True)) k_ ∧ k_ ≠ go10) (Kd.R_apart' (Zb.out) (Kd.S_typed Za.out) (by decide)) (fun k_ hk => ⟨trivial, fun e_ => (hk.2) (by rw [e_]; rfl)⟩))).1 k_ hk_.symm); have hx13_0 := hcc13 0 _ rfl; (try simp only [show (k103).sz = 2 from rfl, Nat.mul_one, Nat.add_zero] at hx13_0); have hf13_0 := hfr13 0; (try simp only [show (k103).sz = 2 from rfl, Nat.mul_one, Nat.add_zero] at hf13_0); have hx13_1 := hcc13 1 _ rfl; (try simp only [show (k103).sz = 2 from rfl, Nat.mul_one, Nat.add_zero] at hx13_1); have hf13_1 := hfr13 1; (try simp only [show (k103).sz = 2 from rfl, Nat.mul_one, Nat.add_zero] at hf13_1); clear hcl13 hcc13 hfr13 hM13 hoki13 hH13) | ((with_reducible refine gate_store (t := 103) (p := 21) rfl ?_); refine store_event (t := 103) (p := 21) (v := ?vo_w14) (w1 := ((w11.setCell ⟨go10, (x4_1 : Int).toNat * 2, none⟩ (.string t525)).setCell ⟨go10, (x4_1 : Int).toNat * 2 + 1, none⟩ (.slice Ao12 t526.length co12))) ?hg ?ho ?hn ?hr ?_; (case ho => rfl); (case hg => rfl); (case hn => rfl); (case hr => first | (go_simp; done) | (go_simp; rfl)); intro w14 hw; have hg : w11.grownBy w14 (some go10) := (by rw [hw]; exact Ze.2); have hp_ : Kd.S k103 103 w14 w.heap.size (fun _ => True) (.slice (some ⟨go10, 0, none⟩) x3_1.length co10) y529 := (by rw [hw, Ny529.out]; exact Ze.1); clear Ze; have n0_ := zm (hp_); have n1_ := zm ((by rw [hw]; exact below_set (below_set (HB.out) GB10.out) GB10.out : Below w.heap.size w w14)); clear Za; clear HB; clear Zb; have Za := n0_; have HB := n1_; clear n0_ n1_; clear hg hw hp_))
        go_roundg k1
        case measure => have := HK1.out; omega
        case rel => exact ⟨(y529), (wrap64 (x4_1 + 1)), zr, H', ⟨by have := HK1.out; omega⟩, ⟨by (with_reducible repeat (first | apply Kd.S_alloc | apply Kd.S_drewN | apply Kd.S_drew)); exact Za.out⟩, ⟨zg_1 HB.out⟩⟩
       ·rw [if_neg c9] at H
        exact absurd H (by simp)
      ·rw [if_neg c7] at H
       exact absurd H (by simp)
     ·rw [if_neg c6] at H
      have c6b0 : decide (x4_1 < (l0.length : Int)) = false := decide_eq_false c6
      clear c6
      obtain rfl := Option.some.inj H
      go_wp2
      go_ret
      exact ⟨_, by first | rfl | (simp [errW_none, errW_some] <;> rfl) | (simp [*, errW_none, errW_some] <;> rfl), by (with_reducible repeat (first | apply Kd.S_alloc | apply Kd.S_drewN | apply Kd.S_drew)); exact Za.out, zg_1 HB.out⟩
  ·rw [if_neg c3] at H
   exact absurd H (by simp)
 ·rw [if_neg c2] at H
  exact absurd H (by simp)
/-! ### laws_toImage: function 16 -/
def laws_toImage.f (k : Nat) (l0_0 : List Int) (l0_1 : List Int) (l0_2 : List (S102)) (l0_3 : List Int) : Option (List Int × List Int × (List (S103)) × List Int) := (laws_toIntS.f k l0_0).bind fun t533 => ((laws_toIntS.f k l0_1).bind fun t536 => ((laws_toSnapS.f k l0_2).bind fun t539 => ((laws_toIntS.f k l0_3).bind fun t542 => (some (t533, t536, t539, t542)))))
theorem laws_toImage.mono : ∀ a0 a1 a2 a3 k, LeO (laws_toImage.f k a0 a1 a2 a3) (laws_toImage.f (k + 1) a0 a1 a2 a3) := by
  intro a0 a1 a2 a3 k
  unfold laws_toImage.f
  repeat' first
      | (with_reducible exact laws_toIntS.mono _ _)
      | (with_reducible exact laws_toSnapS.mono _ _)
      | (with_reducible exact LeO.refl _)
      | (with_reducible exact LeO.none _)
      | (with_reducible refine LeO.ite ?_ ?_)
      | (with_reducible refine LeO.bind ?_ (fun _ => ?_))
      | exact laws_toIntS.mono _ _
      | exact laws_toSnapS.mono _ _
      | exact LeO.none _
      | refine LeO.ite ?_ ?_
      | refine LeO.bind ?_ (fun _ => ?_)
set_option maxHeartbeats 8000000 in
set_option maxRecDepth 100000 in
theorem laws_toImage.calls (k : Nat) (A0_0 : Option Addr) (c0_0 : Nat) (l0_0 : List Int) (A0_1 : Option Addr) (c0_1 : Nat) (l0_1 : List Int) (A0_2 : Option Addr) (c0_2 : Nat) (l0_2 : List (S102)) (A0_3 : Option Addr) (c0_3 : Nat) (l0_3 : List Int) (r1 : List Int) (r2 : List Int) (r3 : List (S103)) (r4 : List Int) (w : World) (hr0_0 : Kd.C (Kd.int .i64) w A0_0 l0_0.length l0_0) (hc0_0 : l0_0.length ≤ c0_0) (hr0_1 : Kd.C (Kd.int .i64) w A0_1 l0_1.length l0_1) (hc0_1 : l0_1.length ≤ c0_1) (hr0_2 : Kd.C k102 w A0_2 l0_2.length l0_2) (hc0_2 : l0_2.length ≤ c0_2) (hr0_3 : Kd.C (Kd.int .i64) w A0_3 l0_3.length l0_3) (hc0_3 : l0_3.length ≤ c0_3) (h : laws_toImage.f k l0_0 l0_1 l0_2 l0_3 = some (r1, r2, r3, r4)) :
    Calls Tryz.prog 16 #[.agg #[.slice A0_0 l0_0.length c0_0, .slice A0_1 l0_1.length c0_1, .slice A0_2 l0_2.length c0_2, .slice A0_3 l0_3.length c0_3]] w fun e w' => ∃ v0_ v1_ v2_ v3_ : Value, e = .returned (.agg #[v0_, v1_, v2_, v3_]) ∧ Kd.R (Kd.int .i64) 3 w' w.heap.size (fun k_ => some k_ ≠ (v1_ : Value).ownBlock ∧ some k_ ≠ (v3_ : Value).ownBlock) v0_ r1 ∧ Kd.R (Kd.int .i64) 3 w' w.heap.size (fun k_ => some k_ ≠ (v0_ : Value).ownBlock ∧ some k_ ≠ (v3_ : Value).ownBlock) v1_ r2 ∧ Kd.S k103 103 w' w.heap.size (fun k_ => some k_ ≠ (v0_ : Value).ownBlock ∧ some k_ ≠ (v1_ : Value).ownBlock ∧ some k_ ≠ (v3_ : Value).ownBlock) v2_ r3 ∧ Kd.R (Kd.int .i64) 3 w' w.heap.size (fun k_ => some k_ ≠ (v0_ : Value).ownBlock ∧ some k_ ≠ (v1_ : Value).ownBlock) v3_ r4 ∧ Below w.heap.size w w' := by
 have hu36 := Tryz.underlying36
 have hu26 := Tryz.underlying26
 have Zq := zm hr0_0
 have Zr := zm hc0_0
 clear hr0_0 hc0_0
 have Zs := zm hr0_1
 have Zt := zm hc0_1
 clear hr0_1 hc0_1
 have Zu := zm hr0_2
 have Zv := zm hc0_2
 clear hr0_2 hc0_2
 have Zw := zm hr0_3
 have Zx := zm hc0_3
 clear hr0_3 hc0_3
 have HB := zm (Below.refl w.heap.size w)
 have H : ((laws_toIntS.f k l0_0).bind fun t533 => ((laws_toIntS.f k l0_1).bind fun t536 => ((laws_toSnapS.f k l0_2).bind fun t539 => ((laws_toIntS.f k l0_3).bind fun t542 => (some (t533, t536, t539, t542)))))) = some (r1, r2, r3, r4) := h
 clear h
 replace H := Option.bind_eq_some_iff.mp H
 obtain ⟨t533, A20, H⟩ := H
 replace H : ((laws_toIntS.f k l0_1).bind fun t536 => ((laws_toSnapS.f k l0_2).bind fun t539 => ((laws_toIntS.f k l0_3).bind fun t542 => (some (t533, t536, t539, t542))))) = some (r1, r2, r3, r4) := H
 have A2 := zm A20
 clear A20
 replace H := Option.bind_eq_some_iff.mp H
 obtain ⟨t536, A30, H⟩ := H
 replace H : ((laws_toSnapS.f k l0_2).bind fun t539 => ((laws_toIntS.f k l0_3).bind fun t542 => (some (t533, t536, t539, t542)))) = some (r1, r2, r3, r4) := H
 have A3 := zm A30
 clear A30
 replace H := Option.bind_eq_some_iff.mp H
 obtain ⟨t539, A40, H⟩ := H
 replace H : ((laws_toIntS.f k l0_3).bind fun t542 => (some (t533, t536, t539, t542))) = some (r1, r2, r3, r4) := H
 have A4 := zm A40
 clear A40
 replace H := Option.bind_eq_some_iff.mp H
 obtain ⟨t542, A50, H⟩ := H
 replace H : (some (t533, t536, t539, t542)) = some (r1, r2, r3, r4) := H
 have A5 := zm A50
 clear A50
 simp only [Option.some.injEq, Prod.mk.injEq] at H
 obtain ⟨rfl, rfl, rfl, rfl⟩ := H
 go_enter Tryz.func16, Tryz.ntmps16
 go_wp2_with (first | ((with_reducible refine gate_dst (N := 1) rfl ?_); refine box_event ?hg (N := 1) ?hd (cs := #[.slice A0_0 l0_0.length c0_0, .slice A0_1 l0_1.length c0_1, .slice A0_2 l0_2.length c0_2, .slice A0_3 l0_3.length c0_3]) (t := 36) ?hr ?_; (case hd => rfl); (case hg => rfl); (case hr => first | (go_simp; done) | (go_simp; rfl)); intro gb530 hg w6 hbox hb; have n0_ := zm (below_step (zg_1 HB.out) hb); have n1_ := zm (hbox); have n2_ := zm ((by rw [hg]; exact (below_size (zg_1 HB.out)) : w.heap.size ≤ gb530)); have n3_ := zm ((by rw [hg]; exact (below_size (zg_1 HB.out)) : w.heap.size ≤ gb530)); clear HB; have HB := n0_; have Zb := n1_; have Zy := n2_; have Zd := n3_; clear n0_ n1_ n2_ n3_; clear hb hbox hg) | ((with_reducible refine gate_dst (N := 2) rfl ?_); refine box_event ?hg (N := 2) ?hd (cs := #[.slice none 0 0, .slice none 0 0, .slice none 0 0, .slice none 0 0]) (t := 26) ?hr ?_; (case hd => rfl); (case hg => rfl); (case hr => first | (go_simp; done) | (go_simp; rfl)); intro gb531 hg w7 hbox hb; have n0_ := zm (blk_below (g := gb530) (o := .cells #[.slice A0_0 l0_0.length c0_0, .slice A0_1 l0_1.length c0_1, .slice A0_2 l0_2.length c0_2, .slice A0_3 l0_3.length c0_3] 36 (0, 0)) (zg_3 Zb.out) hb); have n1_ := zm (below_step (zg_2 HB.out Zd.out) hb); have n2_ := zm (hbox); have n3_ := zm ((by rw [hg]; exact (below_size (zg_2 HB.out Zd.out)) : w.heap.size ≤ gb531)); have n4_ := zm ((by rw [hg]; exact (below_size (zg_2 HB.out Zd.out)) : w.heap.size ≤ gb531)); have n5_ := zm ((by rw [hg]; exact Nat.ne_of_lt (blk_lt (g := gb530) (o := .cells #[.slice A0_0 l0_0.length c0_0, .slice A0_1 l0_1.length c0_1, .slice A0_2 l0_2.length c0_2, .slice A0_3 l0_3.length c0_3] 36 (0, 0)) (zg_3 Zb.out)) : gb530 ≠ gb531)); have n6_ := zm ((by rw [hg]; exact Nat.ne_of_gt (blk_lt (g := gb530) (o := .cells #[.slice A0_0 l0_0.length c0_0, .slice A0_1 l0_1.length c0_1, .slice A0_2 l0_2.length c0_2, .slice A0_3 l0_3.length c0_3] 36 (0, 0)) (zg_3 Zb.out)) : gb531 ≠ gb530)); clear Zb; clear HB; have Zb := n0_; have HB := n1_; have Zc := n2_; have Zz := n3_; have Ze := n4_; have Zl := n5_; have Zm := n6_; clear n0_ n1_ n2_ n3_ n4_ n5_ n6_; clear hb hbox hg) | ((with_reducible refine gate_dst (N := 3) rfl ?_); refine box_event ?hg (N := 3) ?hd (cs := #[.slice none 0 0, .slice none 0 0, .slice none 0 0, .slice none 0 0]) (t := 26) ?hr ?_; (case hd => rfl); (case hg => rfl); (case hr => first | (go_simp; done) | (go_simp; rfl)); intro gb532 hg w8 hbox hb; have n0_ := zm (blk_below (g := gb530) (o := .cells #[.slice A0_0 l0_0.length c0_0, .slice A0_1 l0_1.length c0_1, .slice A0_2 l0_2.length c0_2, .slice A0_3 l0_3.length c0_3] 36 (0, 0)) (zg_3 Zb.out) hb); have n1_ := zm (blk_below (g := gb531) (o := .cells #[.slice none 0 0, .slice none 0 0, .slice none 0 0, .slice none 0 0] 26 (0, 0)) (zg_3 Zc.out) hb); have n2_ := zm (below_step (zg_5 HB.out Zd.out Ze.out) hb); have n3_ := zm (hbox); have n4_ := zm ((by rw [hg]; exact (below_size (zg_5 HB.out Zd.out Ze.out)) : w.heap.size ≤ gb532)); have n5_ := zm ((by rw [hg]; exact (below_size (zg_5 HB.out Zd.out Ze.out)) : w.heap.size ≤ gb532)); have n6_ := zm ((by rw [hg]; exact Nat.ne_of_lt (blk_lt (g := gb530) (o := .cells #[.slice A0_0 l0_0.length c0_0, .slice A0_1 l0_1.length c0_1, .slice A0_2 l0_2.length c0_2, .slice A0_3 l0_3.length c0_3] 36 (0, 0)) (zg_3 Zb.out)) : gb530 ≠ gb532)); have n7_ := zm ((by rw [hg]; exact Nat.ne_of_gt (blk_lt (g := gb530) (o := .cells #[.slice A0_0 l0_0.length c0_0, .slice A0_1 l0_1.length c0_1, .slice A0_2 l0_2.length c0_2, .slice A0_3 l0_3.length c0_3] 36 (0, 0)) (zg_3 Zb.out)) : gb532 ≠ gb530)); have n8_ := zm ((by rw [hg]; exact Nat.ne_of_lt (blk_lt (g := gb531) (o := .cells #[.slice none 0 0, .slice none 0 0, .slice none 0 0, .slice none 0 0] 26 (0, 0)) (zg_3 Zc.out)) : gb531 ≠ gb532)); have n9_ := zm ((by rw [hg]; exact Nat.ne_of_gt (blk_lt (g := gb531) (o := .cells #[.slice none 0 0, .slice none 0 0, .slice none 0 0, .slice none 0 0] 26 (0, 0)) (zg_3 Zc.out)) : gb532 ≠ gb531)); clear Zb; clear Zc; clear HB; have Zb := n0_; have Zc := n1_; have HB := n2_; have Za := n3_; have ZA := n4_; have Zh := n5_; have Zi := n6_; have Zn := n7_; have Zg := n8_; have Zo := n9_; clear n0_ n1_ n2_ n3_ n4_ n5_ n6_ n7_ n8_ n9_; clear hb hbox hg; have hnb9 := Zl.out; have hnc9 := Zm.out; have hnb10 := Zi.out; have hnc10 := Zn.out; have hcz11_0 : w8.cell? ⟨gb530, 0, none⟩ = some (.slice A0_0 l0_0.length c0_0) := (blk_cell Zb.out 0).trans rfl; have hcz11_1 : w8.cell? ⟨gb530, 1, none⟩ = some (.slice A0_1 l0_1.length c0_1) := (blk_cell Zb.out 1).trans rfl; have hcz11_2 : w8.cell? ⟨gb530, 2, none⟩ = some (.slice A0_2 l0_2.length c0_2) := (blk_cell Zb.out 2).trans rfl; have hcz11_3 : w8.cell? ⟨gb530, 3, none⟩ = some (.slice A0_3 l0_3.length c0_3) := (blk_cell Zb.out 3).trans rfl; have hfz11_0 := blk_frozen Zb.out 0; have hfz11_1 := blk_frozen Zb.out 1; have hfz11_2 := blk_frozen Zb.out 2; have hfz11_3 := blk_frozen Zb.out 3) | ((with_reducible refine gate_callee (f := 42) rfl ?_); refine goesL_ (some 6) rfl rfl Tryz.func42 (by kernel_rfl) rfl #[.slice A0_0 l0_0.length c0_0] rfl zq ?_; (with_reducible refine (laws_toIntS.calls k _ _ l0_0 t533 _ ?side1 ?side2 A2.out).mono ?_); (case side1 => exact zC (Kd.C_below Zq.out HB.out)); (case side2 => exact Zr.out); rintro e w12 ⟨v534, rfl, ho0, hb⟩; refine ⟨_, rfl, ?_⟩; have n0_ := zm (Kd.R_lower ho0 (below_size (zg_8 HB.out Zd.out Ze.out Zh.out))); have n1_ := zm (blk_below (g := gb530) (o := .cells #[.slice A0_0 l0_0.length c0_0, .slice A0_1 l0_1.length c0_1, .slice A0_2 l0_2.length c0_2, .slice A0_3 l0_3.length c0_3] 36 (0, 0)) (zg_3 Zb.out) hb); have n2_ := zm (blk_below (g := gb531) (o := .cells #[.slice none 0 0, .slice none 0 0, .slice none 0 0, .slice none 0 0] 26 (0, 0)) (zg_3 Zc.out) hb); have n3_ := zm (blk_below (g := gb532) (o := .cells #[.slice none 0 0, .slice none 0 0, .slice none 0 0, .slice none 0 0] 26 (0, 0)) (zg_3 Za.out) hb); have n4_ := zm (below_step (zg_8 HB.out Zd.out Ze.out Zh.out) hb); clear Zb; clear Zc; clear Za; clear HB; have Zf := n0_; have Zb := n1_; have Zc := n2_; have Za := n3_; have HB := n4_; clear n0_ n1_ n2_ n3_ n4_; (try clear hb); (try clear hb2); (try clear hk); (try clear hi); (try clear ho0); obtain ⟨Ao13, co13, eo13⟩ := Kd.R_slice Zf.out; subst eo13; have hnb14 := Zo.out; have hnc14 := Zg.out; have hcz15_0 : w12.cell? ⟨gb532, 0, none⟩ = some (.slice none 0 0) := (blk_cell Za.out 0).trans rfl; have hcz15_1 : w12.cell? ⟨gb532, 1, none⟩ = some (.slice none 0 0) := (blk_cell Za.out 1).trans rfl; have hcz15_2 : w12.cell? ⟨gb532, 2, none⟩ = some (.slice none 0 0) := (blk_cell Za.out 2).trans rfl; have hcz15_3 : w12.cell? ⟨gb532, 3, none⟩ = some (.slice none 0 0) := (blk_cell Za.out 3).trans rfl; have hfz15_0 := blk_frozen Za.out 0; have hfz15_1 := blk_frozen Za.out 1; have hfz15_2 := blk_frozen Za.out 2; have hfz15_3 := blk_frozen Za.out 3; have hcz16_0 : w12.cell? ⟨gb530, 0, none⟩ = some (.slice A0_0 l0_0.length c0_0) := (blk_cell Zb.out 0).trans rfl; have hcz16_1 : w12.cell? ⟨gb530, 1, none⟩ = some (.slice A0_1 l0_1.length c0_1) := (blk_cell Zb.out 1).trans rfl; have hcz16_2 : w12.cell? ⟨gb530, 2, none⟩ = some (.slice A0_2 l0_2.length c0_2) := (blk_cell Zb.out 2).trans rfl; have hcz16_3 : w12.cell? ⟨gb530, 3, none⟩ = some (.slice A0_3 l0_3.length c0_3) := (blk_cell Zb.out 3).trans rfl; have hfz16_0 := blk_frozen Zb.out 0; have hfz16_1 := blk_frozen Zb.out 1; have hfz16_2 := blk_frozen Zb.out 2; have hfz16_3 := blk_frozen Zb.out 3) | ((with_reducible refine gate_callee (f := 42) rfl ?_); refine goesL_ (some 10) rfl rfl Tryz.func42 (by kernel_rfl) rfl #[.slice A0_1 l0_1.length c0_1] rfl zq ?_; (with_reducible refine (laws_toIntS.calls k _ _ l0_1 t536 _ ?side1 ?side2 A3.out).mono ?_); (case side1 => exact Kd.C_below Zs.out (zg_8 HB.out Zd.out Ze.out Zh.out)); (case side2 => exact Zt.out); rintro e w17 ⟨v537, rfl, ho0, hb⟩; refine ⟨_, rfl, ?_⟩; have n0_ := zm (Kd.R_elder' (by (with_reducible repeat (first | apply Kd.R_alloc | apply Kd.R_drewN | apply Kd.R_drew)); exact (Kd.R_mono (Kd.R_far (p := ⟨gb532, 0, none⟩) (Kd.R_types Zf.out Za.out (by decide)) (fun _ hk => hk.2) (.slice Ao13 t533.length co13)) (fun _ h_ => h_.1))) (Kd.R_base ho0) hb); have n1_ := zm (Kd.R_lower (Kd.R_new' ho0 (Kd.R_lt (by (with_reducible repeat (first | apply Kd.R_alloc | apply Kd.R_drewN | apply Kd.R_drew)); exact (Kd.R_mono (Kd.R_far (p := ⟨gb532, 0, none⟩) (Kd.R_types Zf.out Za.out (by decide)) (fun _ hk => hk.2) (.slice Ao13 t533.length co13)) (fun _ h_ => h_.1))))) (below_size (zg_8 HB.out Zd.out Ze.out Zh.out))); have n2_ := zm (blk_below (g := gb530) (o := .cells #[.slice A0_0 l0_0.length c0_0, .slice A0_1 l0_1.length c0_1, .slice A0_2 l0_2.length c0_2, .slice A0_3 l0_3.length c0_3] 36 (0, 0)) (by (with_reducible repeat (first | refine blk_drewN ?_ _ | refine blk_drew ?_ | refine blk_alloc ?_ _)); refine blk_far ?_ Zi.out _; (with_reducible repeat (first | refine blk_drewN ?_ _ | refine blk_drew ?_ | refine blk_alloc ?_ _)); exact Zb.out) hb); have n3_ := zm (blk_below (g := gb531) (o := .cells #[.slice none 0 0, .slice none 0 0, .slice none 0 0, .slice none 0 0] 26 (0, 0)) (by (with_reducible repeat (first | refine blk_drewN ?_ _ | refine blk_drew ?_ | refine blk_alloc ?_ _)); refine blk_far ?_ Zg.out _; (with_reducible repeat (first | refine blk_drewN ?_ _ | refine blk_drew ?_ | refine blk_alloc ?_ _)); exact Zc.out) hb); have n4_ := zm (blk_below (g := gb532) (o := .cells #[.slice Ao13 t533.length co13, .slice none 0 0, .slice none 0 0, .slice none 0 0] 26 (0, 0)) (by (with_reducible repeat (first | refine blk_drewN ?_ _ | refine blk_drew ?_ | refine blk_alloc ?_ _)); refine blk_put (cs := #[.slice none 0 0, .slice none 0 0, .slice none 0 0, .slice none 0 0]) ?_ 0 _ rfl; (with_reducible repeat (first | refine blk_drewN ?_ _ | refine blk_drew ?_ | refine blk_alloc ?_ _)); exact Za.out) hb); have n5_ := zm (below_step (zg_8 HB.out Zd.out Ze.out Zh.out) hb); clear Zf; clear Zb; clear Zc; clear Za; clear HB; have Zf := n0_; have Zj := n1_; have Zb := n2_; have Zc := n3_; have Za := n4_; have HB := n5_; clear n0_ n1_ n2_ n3_ n4_ n5_; (try clear hb); (try clear hb2); (try clear hk); (try clear hi); (try clear ho0); obtain ⟨Ao18, co18, eo18⟩ := Kd.R_slice Zj.out; subst eo18; have hcz19_0 : w17.cell? ⟨gb532, 0, none⟩ = some (.slice Ao13 t533.length co13) := (blk_cell Za.out 0).trans rfl; have hcz19_1 : w17.cell? ⟨gb532, 1, none⟩ = some (.slice none 0 0) := (blk_cell Za.out 1).trans rfl; have hcz19_2 : w17.cell? ⟨gb532, 2, none⟩ = some (.slice none 0 0) := (blk_cell Za.out 2).trans rfl; have hcz19_3 : w17.cell? ⟨gb532, 3, none⟩ = some (.slice none 0 0) := (blk_cell Za.out 3).trans rfl; have hfz19_0 := blk_frozen Za.out 0; have hfz19_1 := blk_frozen Za.out 1; have hfz19_2 := blk_frozen Za.out 2; have hfz19_3 := blk_frozen Za.out 3; have hcz20_0 : w17.cell? ⟨gb530, 0, none⟩ = some (.slice A0_0 l0_0.length c0_0) := (blk_cell Zb.out 0).trans rfl; have hcz20_1 : w17.cell? ⟨gb530, 1, none⟩ = some (.slice A0_1 l0_1.length c0_1) := (blk_cell Zb.out 1).trans rfl; have hcz20_2 : w17.cell? ⟨gb530, 2, none⟩ = some (.slice A0_2 l0_2.length c0_2) := (blk_cell Zb.out 2).trans rfl; have hcz20_3 : w17.cell? ⟨gb530, 3, none⟩ = some (.slice A0_3 l0_3.length c0_3) := (blk_cell Zb.out 3).trans rfl; have hfz20_0 := blk_frozen Zb.out 0; have hfz20_1 := blk_frozen Zb.out 1; have hfz20_2 := blk_frozen Zb.out 2; have hfz20_3 := blk_frozen Zb.out 3) | ((with_reducible refine gate_callee (f := 43) rfl ?_); refine goesL_ (some 14) rfl rfl Tryz.func43 (by kernel_rfl) rfl #[.slice A0_2 l0_2.length c0_2] rfl zq ?_; (with_reducible refine (laws_toSnapS.calls k _ _ l0_2 t539 _ ?side1 ?side2 A4.out).mono ?_); (case side1 => exact Kd.C_below Zu.out (zg_8 HB.out Zd.out Ze.out Zh.out)); (case side2 => exact Zv.out); rintro e w21 ⟨v540, rfl, ho0, hb⟩; refine ⟨_, rfl, ?_⟩; have n0_ := zm (Kd.R_below (by (with_reducible repeat (first | apply Kd.R_alloc | apply Kd.R_drewN | apply Kd.R_drew)); exact (Kd.R_mono (Kd.R_far (p := ⟨gb532, 1, none⟩) (Kd.R_types Zf.out Za.out (by decide)) (fun _ hk => hk.2) (.slice Ao18 t536.length co18)) (fun _ h_ => h_.1))) hb); have n1_ := zm (Kd.R_below (by (with_reducible repeat (first | apply Kd.R_alloc | apply Kd.R_drewN | apply Kd.R_drew)); exact (Kd.R_mono (Kd.R_far (p := ⟨gb532, 1, none⟩) (Kd.R_types Zj.out Za.out (by decide)) (fun _ hk => hk.2) (.slice Ao18 t536.length co18)) (fun _ h_ => h_.1))) hb); have n2_ := zm (Kd.S_lower (Kd.S_new' (Kd.S_new' ho0 (Kd.R_lt (by (with_reducible repeat (first | apply Kd.R_alloc | apply Kd.R_drewN | apply Kd.R_drew)); exact (Kd.R_mono (Kd.R_far (p := ⟨gb532, 1, none⟩) (Kd.R_types Zf.out Za.out (by decide)) (fun _ hk => hk.2) (.slice Ao18 t536.length co18)) (fun _ h_ => h_.1))))) (Kd.R_lt (by (with_reducible repeat (first | apply Kd.R_alloc | apply Kd.R_drewN | apply Kd.R_drew)); exact (Kd.R_mono (Kd.R_far (p := ⟨gb532, 1, none⟩) (Kd.R_types Zj.out Za.out (by decide)) (fun _ hk => hk.2) (.slice Ao18 t536.length co18)) (fun _ h_ => h_.1))))) (below_size (zg_8 HB.out Zd.out Ze.out Zh.out))); have n3_ := zm (blk_below (g := gb530) (o := .cells #[.slice A0_0 l0_0.length c0_0, .slice A0_1 l0_1.length c0_1, .slice A0_2 l0_2.length c0_2, .slice A0_3 l0_3.length c0_3] 36 (0, 0)) (by (with_reducible repeat (first | refine blk_drewN ?_ _ | refine blk_drew ?_ | refine blk_alloc ?_ _)); refine blk_far ?_ Zi.out _; (with_reducible repeat (first | refine blk_drewN ?_ _ | refine blk_drew ?_ | refine blk_alloc ?_ _)); exact Zb.out) hb); have n4_ := zm (blk_below (g := gb531) (o := .cells #[.slice none 0 0, .slice none 0 0, .slice none 0 0, .slice none 0 0] 26 (0, 0)) (by (with_reducible repeat (first | refine blk_drewN ?_ _ | refine blk_drew ?_ | refine blk_alloc ?_ _)); refine blk_far ?_ Zg.out _; (with_reducible repeat (first | refine blk_drewN ?_ _ | refine blk_drew ?_ | refine blk_alloc ?_ _)); exact Zc.out) hb); have n5_ := zm (blk_below (g := gb532) (o := .cells #[.slice Ao13 t533.length co13, .slice Ao18 t536.length co18, .slice none 0 0, .slice none 0 0] 26 (0, 0)) (by (with_reducible repeat (first | refine blk_drewN ?_ _ | refine blk_drew ?_ | refine blk_alloc ?_ _)); refine blk_put (cs := #[.slice Ao13 t533.length co13, .slice none 0 0, .slice none 0 0, .slice none 0 0]) ?_ 1 _ rfl; (with_reducible repeat (first | refine blk_drewN ?_ _ | refine blk_drew ?_ | refine blk_alloc ?_ _)); exact Za.out) hb); have n6_ := zm (below_step (zg_8 HB.out Zd.out Ze.out Zh.out) hb); clear Zf; clear Zj; clear Zb; clear Zc; clear Za; clear HB; have Zf := n0_; have Zj := n1_; have Zk := n2_; have Zb := n3_; have Zc := n4_; have Za := n5_; have HB := n6_; clear n0_ n1_ n2_ n3_ n4_ n5_ n6_; (try clear hb); (try clear hb2); (try clear hk); (try clear hi); (try clear ho0); obtain ⟨Ao22, co22, eo22⟩ := Kd.S_slice Zk.out; subst eo22; have hcz23_0 : w21.cell? ⟨gb532, 0, none⟩ = some (.slice Ao13 t533.length co13) := (blk_cell Za.out 0).trans rfl; have hcz23_1 : w21.cell? ⟨gb532, 1, none⟩ = some (.slice Ao18 t536.length co18) := (blk_cell Za.out 1).trans rfl; have hcz23_2 : w21.cell? ⟨gb532, 2, none⟩ = some (.slice none 0 0) := (blk_cell Za.out 2).trans rfl; have hcz23_3 : w21.cell? ⟨gb532, 3, none⟩ = some (.slice none 0 0) := (blk_cell Za.out 3).trans rfl; have hfz23_0 := blk_frozen Za.out 0; have hfz23_1 := blk_frozen Za.out 1; have hfz23_2 := blk_frozen Za.out 2; have hfz23_3 := blk_frozen Za.out 3; have hcz24_0 : w21.cell? ⟨gb530, 0, none⟩ = some (.slice A0_0 l0_0.length c0_0) := (blk_cell Zb.out 0).trans rfl; have hcz24_1 : w21.cell? ⟨gb530, 1, none⟩ = some (.slice A0_1 l0_1.length c0_1) := (blk_cell Zb.out 1).trans rfl; have hcz24_2 : w21.cell? ⟨gb530, 2, none⟩ = some (.slice A0_2 l0_2.length c0_2) := (blk_cell Zb.out 2).trans rfl; have hcz24_3 : w21.cell? ⟨gb530, 3, none⟩ = some (.slice A0_3 l0_3.length c0_3) := (blk_cell Zb.out 3).trans rfl; have hfz24_0 := blk_frozen Zb.out 0; have hfz24_1 := blk_frozen Zb.out 1; have hfz24_2 := blk_frozen Zb.out 2; have hfz24_3 := blk_frozen Zb.out 3) | ((with_reducible refine gate_callee (f := 42) rfl ?_); refine goesL_ (some 18) rfl rfl Tryz.func42 (by kernel_rfl) rfl #[.slice A0_3 l0_3.length c0_3] rfl zq ?_; (with_reducible refine (laws_toIntS.calls k _ _ l0_3 t542 _ ?side1 ?side2 A5.out).mono ?_); (case side1 => exact Kd.C_below Zw.out (zg_8 HB.out Zd.out Ze.out Zh.out)); (case side2 => exact Zx.out); rintro e w25 ⟨v543, rfl, ho0, hb⟩; refine ⟨_, rfl, ?_⟩; have n0_ := zm (Kd.R_elder' (by (with_reducible repeat (first | apply Kd.R_alloc | apply Kd.R_drewN | apply Kd.R_drew)); exact (Kd.R_mono (Kd.R_far (p := ⟨gb532, 2, none⟩) (Kd.R_types Zf.out Za.out (by decide)) (fun _ hk => hk.2) (.slice Ao22 t539.length co22)) (fun _ h_ => h_.1))) (Kd.R_base ho0) hb); have n1_ := zm (Kd.R_elder' (by (with_reducible repeat (first | apply Kd.R_alloc | apply Kd.R_drewN | apply Kd.R_drew)); exact (Kd.R_mono (Kd.R_far (p := ⟨gb532, 2, none⟩) (Kd.R_types Zj.out Za.out (by decide)) (fun _ hk => hk.2) (.slice Ao22 t539.length co22)) (fun _ h_ => h_.1))) (Kd.R_base ho0) hb); have n2_ := zm (Kd.S_elder' (by (with_reducible repeat (first | apply Kd.S_alloc | apply Kd.S_drewN | apply Kd.S_drew)); exact (Kd.S_mono (Kd.S_far (p := ⟨gb532, 2, none⟩) (Kd.S_types Zk.out Za.out (by decide)) (fun _ hk => hk.2) (.slice Ao22 t539.length co22)) (fun _ h_ => h_.1))) (Kd.R_base ho0) hb); have n3_ := zm (Kd.R_lower (Kd.R_new' (Kd.R_new' ho0 (Kd.R_lt (by (with_reducible repeat (first | apply Kd.R_alloc | apply Kd.R_drewN | apply Kd.R_drew)); exact (Kd.R_mono (Kd.R_far (p := ⟨gb532, 2, none⟩) (Kd.R_types Zf.out Za.out (by decide)) (fun _ hk => hk.2) (.slice Ao22 t539.length co22)) (fun _ h_ => h_.1))))) (Kd.R_lt (by (with_reducible repeat (first | apply Kd.R_alloc | apply Kd.R_drewN | apply Kd.R_drew)); exact (Kd.R_mono (Kd.R_far (p := ⟨gb532, 2, none⟩) (Kd.R_types Zj.out Za.out (by decide)) (fun _ hk => hk.2) (.slice Ao22 t539.length co22)) (fun _ h_ => h_.1))))) (below_size (zg_8 HB.out Zd.out Ze.out Zh.out))); have n4_ := zm (blk_below (g := gb530) (o := .cells #[.slice A0_0 l0_0.length c0_0, .slice A0_1 l0_1.length c0_1, .slice A0_2 l0_2.length c0_2, .slice A0_3 l0_3.length c0_3] 36 (0, 0)) (by (with_reducible repeat (first | refine blk_drewN ?_ _ | refine blk_drew ?_ | refine blk_alloc ?_ _)); refine blk_far ?_ Zi.out _; (with_reducible repeat (first | refine blk_drewN ?_ _ | refine blk_drew ?_ | refine blk_alloc ?_ _)); exact Zb.out) hb); have n5_ := zm (blk_below (g := gb531) (o := .cells #[.slice none 0 0, .slice none 0 0, .slice none 0 0, .slice none 0 0] 26 (0, 0)) (by (with_reducible repeat (first | refine blk_drewN ?_ _ | refine blk_drew ?_ | refine blk_alloc ?_ _)); refine blk_far ?_ Zg.out _; (with_reducible repeat (first | refine blk_drewN ?_ _ | refine blk_drew ?_ | refine blk_alloc ?_ _)); exact Zc.out) hb); have n6_ := zm (blk_below (g := gb532) (o := .cells #[.slice Ao13 t533.length co13, .slice Ao18 t536.length co18, .slice Ao22 t539.length co22, .slice none 0 0] 26 (0, 0)) (by (with_reducible repeat (first | refine blk_drewN ?_ _ | refine blk_drew ?_ | refine blk_alloc ?_ _)); refine blk_put (cs := #[.slice Ao13 t533.length co13, .slice Ao18 t536.length co18, .slice none 0 0, .slice none 0 0]) ?_ 2 _ rfl; (with_reducible repeat (first | refine blk_drewN ?_ _ | refine blk_drew ?_ | refine blk_alloc ?_ _)); exact Za.out) hb); have n7_ := zm (below_step (zg_8 HB.out Zd.out Ze.out Zh.out) hb); clear Zf; clear Zj; clear Zk; clear Zb; clear Zc; clear Za; clear HB; have Zf := n0_; have Zj := n1_; have Zk := n2_; have Zp := n3_; have Zb := n4_; have Zc := n5_; have Za := n6_; have HB := n7_; clear n0_ n1_ n2_ n3_ n4_ n5_ n6_ n7_; (try clear hb); (try clear hb2); (try clear hk); (try clear hi); (try clear ho0); obtain ⟨Ao26, co26, eo26⟩ := Kd.R_slice Zp.out; subst eo26; have hcz27_0 : w25.cell? ⟨gb532, 0, none⟩ = some (.slice Ao13 t533.length co13) := (blk_cell Za.out 0).trans rfl; have hcz27_1 : w25.cell? ⟨gb532, 1, none⟩ = some (.slice Ao18 t536.length co18) := (blk_cell Za.out 1).trans rfl; have hcz27_2 : w25.cell? ⟨gb532, 2, none⟩ = some (.slice Ao22 t539.length co22) := (blk_cell Za.out 2).trans rfl; have hcz27_3 : w25.cell? ⟨gb532, 3, none⟩ = some (.slice none 0 0) := (blk_cell Za.out 3).trans rfl; have hfz27_0 := blk_frozen Za.out 0; have hfz27_1 := blk_frozen Za.out 1; have hfz27_2 := blk_frozen Za.out 2; have hfz27_3 := blk_frozen Za.out 3; have hcz28_0 : w25.cell? ⟨gb531, 0, none⟩ = some (.slice none 0 0) := (blk_cell Zc.out 0).trans rfl; have hcz28_1 : w25.cell? ⟨gb531, 1, none⟩ = some (.slice none 0 0) := (blk_cell Zc.out 1).trans rfl; have hcz28_2 : w25.cell? ⟨gb531, 2, none⟩ = some (.slice none 0 0) := (blk_cell Zc.out 2).trans rfl; have hcz28_3 : w25.cell? ⟨gb531, 3, none⟩ = some (.slice none 0 0) := (blk_cell Zc.out 3).trans rfl; have hfz28_0 := blk_frozen Zc.out 0; have hfz28_1 := blk_frozen Zc.out 1; have hfz28_2 := blk_frozen Zc.out 2; have hfz28_3 := blk_frozen Zc.out 3))
 refine bodyPost_ret (results_cell_row rfl _ _ gb531 26 #[.slice Ao13 t533.length co13, .slice Ao18 t536.length co18, .slice Ao22 t539.length co22, .slice Ao26 t542.length co26] (0, 0) _ rfl (by (with_reducible repeat (first | refine blk_drewN ?_ _ | refine blk_drew ?_ | refine blk_alloc ?_ _)); refine blk_put (cs := #[.slice Ao13 t533.length co13, .slice Ao18 t536.length co18, .slice Ao22 t539.length co22, .slice none 0 0]) ?_ 3 _ rfl; (with_reducible repeat (first | refine blk_drewN ?_ _ | refine blk_drew ?_ | refine blk_alloc ?_ _)); refine blk_put (cs := #[.slice Ao13 t533.length co13, .slice Ao18 t536.length co18, .slice none 0 0, .slice none 0 0]) ?_ 2 _ rfl; (with_reducible repeat (first | refine blk_drewN ?_ _ | refine blk_drew ?_ | refine blk_alloc ?_ _)); refine blk_put (cs := #[.slice Ao13 t533.length co13, .slice none 0 0, .slice none 0 0, .slice none 0 0]) ?_ 1 _ rfl; (with_reducible repeat (first | refine blk_drewN ?_ _ | refine blk_drew ?_ | refine blk_alloc ?_ _)); refine blk_put (cs := #[.slice none 0 0, .slice none 0 0, .slice none 0 0, .slice none 0 0]) ?_ 0 _ rfl; (with_reducible repeat (first | refine blk_drewN ?_ _ | refine blk_drew ?_ | refine blk_alloc ?_ _)); refine blk_far ?_ Zg.out _; (with_reducible repeat (first | refine blk_drewN ?_ _ | refine blk_drew ?_ | refine blk_alloc ?_ _)); exact Zc.out) Tryz.underlying26 rfl (by kernel_rfl)) rfl ?_
 exact ⟨_, _, _, _, by first | rfl | (simp [errW_none, errW_some] <;> rfl) | (simp [*, errW_none, errW_some] <;> rfl), by (with_reducible repeat (first | apply Kd.R_alloc | apply Kd.R_drewN | apply Kd.R_drew)); exact Kd.R_mono (Kd.R_far (p := ⟨gb531, 3, none⟩) (Kd.R_far (p := ⟨gb531, 2, none⟩) (Kd.R_far (p := ⟨gb531, 1, none⟩) (Kd.R_far (p := ⟨gb531, 0, none⟩) (Kd.R_far (p := ⟨gb532, 3, none⟩) (Kd.R_types (Kd.R_types Zf.out Za.out (by decide)) Zc.out (by decide)) (fun _ hk => hk.1.2) (.slice Ao26 t542.length co26)) (fun _ hk => hk.2) (.slice Ao13 t533.length co13)) (fun _ hk => hk.2) (.slice Ao18 t536.length co18)) (fun _ hk => hk.2) (.slice Ao22 t539.length co22)) (fun _ hk => hk.2) (.slice Ao26 t542.length co26)) (fun _ hk => ⟨hk.1.1.1.2, hk.1.1.2⟩), by (with_reducible repeat (first | apply Kd.R_alloc | apply Kd.R_drewN | apply Kd.R_drew)); exact Kd.R_mono (Kd.R_far (p := ⟨gb531, 3, none⟩) (Kd.R_far (p := ⟨gb531, 2, none⟩) (Kd.R_far (p := ⟨gb531, 1, none⟩) (Kd.R_far (p := ⟨gb531, 0, none⟩) (Kd.R_far (p := ⟨gb532, 3, none⟩) (Kd.R_types (Kd.R_types Zj.out Za.out (by decide)) Zc.out (by decide)) (fun _ hk => hk.1.2) (.slice Ao26 t542.length co26)) (fun _ hk => hk.2) (.slice Ao13 t533.length co13)) (fun _ hk => hk.2) (.slice Ao18 t536.length co18)) (fun _ hk => hk.2) (.slice Ao22 t539.length co22)) (fun _ hk => hk.2) (.slice Ao26 t542.length co26)) (fun _ hk => ⟨hk.1.1.1.2, hk.1.1.2⟩), by (with_reducible repeat (first | apply Kd.S_alloc | apply Kd.S_drewN | apply Kd.S_drew)); exact Kd.S_mono (Kd.S_far (p := ⟨gb531, 3, none⟩) (Kd.S_far (p := ⟨gb531, 2, none⟩) (Kd.S_far (p := ⟨gb531, 1, none⟩) (Kd.S_far (p := ⟨gb531, 0, none⟩) (Kd.S_far (p := ⟨gb532, 3, none⟩) (Kd.S_types (Kd.S_types Zk.out Za.out (by decide)) Zc.out (by decide)) (fun _ hk => hk.1.2) (.slice Ao26 t542.length co26)) (fun _ hk => hk.2) (.slice Ao13 t533.length co13)) (fun _ hk => hk.2) (.slice Ao18 t536.length co18)) (fun _ hk => hk.2) (.slice Ao22 t539.length co22)) (fun _ hk => hk.2) (.slice Ao26 t542.length co26)) (fun _ hk => ⟨hk.1.1.1.1.2, ⟨hk.1.1.1.2, hk.1.1.2⟩⟩), by (with_reducible repeat (first | apply Kd.R_alloc | apply Kd.R_drewN | apply Kd.R_drew)); exact Kd.R_mono (Kd.R_far (p := ⟨gb531, 3, none⟩) (Kd.R_far (p := ⟨gb531, 2, none⟩) (Kd.R_far (p := ⟨gb531, 1, none⟩) (Kd.R_far (p := ⟨gb531, 0, none⟩) (Kd.R_far (p := ⟨gb532, 3, none⟩) (Kd.R_types (Kd.R_types Zp.out Za.out (by decide)) Zc.out (by decide)) (fun _ hk => hk.1.2) (.slice Ao26 t542.length co26)) (fun _ hk => hk.2) (.slice Ao13 t533.length co13)) (fun _ hk => hk.2) (.slice Ao18 t536.length co18)) (fun _ hk => hk.2) (.slice Ao22 t539.length co22)) (fun _ hk => hk.2) (.slice Ao26 t542.length co26)) (fun _ hk => ⟨hk.1.1.1.2, hk.1.1.2⟩), zg_8 HB.out Zd.out Ze.out Zh.out⟩
/-! ### spec_l09Clusters: function 128 -/
def spec_l09Clusters.l0 : Nat → List Int → List Int → Int → Option (List Int)
  | 0, _, _, _ => none
  | k + 1, x0, x3, x4 => if x4 < (x0.length : Int) then (if 0 ≤ x4 then (if (rd x0 x4) ≥ 2 then (if x3.length < 17592186044416 then (spec_l09Clusters.l0 k x0 (x3 ++ [wrap64 ((rd x0 x4) - 2)]) (wrap64 (x4 + 1))) else (none)) else (spec_l09Clusters.l0 k x0 x3 (wrap64 (x4 + 1)))) else (none)) else (some x3)
def spec_l09Clusters.f (k : Nat) (l0 : List Int) : Option (List Int) := spec_l09Clusters.l0 k l0 (([] : List Int)) 0
theorem spec_l09Clusters.mono_l : ∀ k, (∀ y0 y1 y2, LeO (spec_l09Clusters.l0 k y0 y1 y2) (spec_l09Clusters.l0 (k + 1) y0 y1 y2))
  | 0 => fun _ _ _ r h => by simp [spec_l09Clusters.l0] at h
  | k + 1 => by
    have ih0 := spec_l09Clusters.mono_l k
    · intro y0 y1 y2
      unfold spec_l09Clusters.l0
      repeat' first
      | (with_reducible exact ih0 _ _ _)
      | (with_reducible exact LeO.refl _)
      | (with_reducible exact LeO.none _)
      | (with_reducible refine LeO.ite ?_ ?_)
      | (with_reducible refine LeO.bind ?_ (fun _ => ?_))
      | exact ih0 _ _ _
      | exact LeO.none _
      | refine LeO.ite ?_ ?_
      | refine LeO.bind ?_ (fun _ => ?_)
theorem spec_l09Clusters.mono : ∀ a0 k, LeO (spec_l09Clusters.f k a0) (spec_l09Clusters.f (k + 1) a0) := by
  intro a0 k
  have ih0 := spec_l09Clusters.mono_l k
  unfold spec_l09Clusters.f
  repeat' first
      | (with_reducible exact ih0 _ _ _)
      | (with_reducible exact LeO.refl _)
      | (with_reducible exact LeO.none _)
      | (with_reducible refine LeO.ite ?_ ?_)
      | (with_reducible refine LeO.bind ?_ (fun _ => ?_))
      | exact ih0 _ _ _
      | exact LeO.none _
      | refine LeO.ite ?_ ?_
      | refine LeO.bind ?_ (fun _ => ?_)
set_option maxHeartbeats 8000000 in
set_option maxRecDepth 100000 in
theorem spec_l09Clusters.calls (k : Nat) (A0 : Option Addr) (c0 : Nat) (l0 : List Int) (r : List Int) (w : World) (hr0 : Kd.C (Kd.int .i64) w A0 l0.length l0) (hc0 : l0.length ≤ c0) (h : spec_l09Clusters.f k l0 = some r) :
    Calls Tryz.prog 128 #[.slice A0 l0.length c0] w fun e w' => ∃ v0_ : Value, e = .returned (v0_) ∧ Kd.R (Kd.int .i64) 3 w' w.heap.size (fun _ => True) v0_ r ∧ Below w.heap.size w w' := by
 have HR0 := zm hr0
 have HC0 := zm hc0
 clear hr0 hc0
 have HB := zm (Below.refl w.heap.size w)
 have H : (spec_l09Clusters.l0 k l0 (([] : List Int)) 0) = some r := h
 clear h
 obtain ⟨y196, hy196⟩ : ∃ y_ : List Int, y_ = (([] : List Int)) := ⟨_, rfl⟩
 replace H : (spec_l09Clusters.l0 k l0 y196 0) = some r := by first | (rw [hy196]; with_reducible exact H) | (have H2_ := (Option.bind_some _ _).symm.trans H; rw [hy196]; with_reducible exact H2_) | (have H2_ := (Option.bind_some _ _).symm.trans H; with_reducible exact H2_) | with_reducible exact H | (rw [hy196]; exact H) | exact H
 have Ny196 := zm hy196
 clear hy196
 have H' := zm H
 clear H
 go_enter Tryz.func128, Tryz.ntmps128
 go_wp2_with (first | ((with_reducible refine gate_dst (N := 5) rfl ?_); refine Kd.R_lit (Kd.int .i64) _ 3 ?hg (N := 5) ?hd (xs := ([] : List Int)) (inner := []) (ok := fun _ => True) (okp := fun _ => True) ?hr ?hp (fun _ hk => hk) trivial (Below.refl _ _) (Nat.le_refl _) (by simp) ?_; (case hd => rfl); (case hg => rfl); (case hr => first | (go_simp; done) | (go_simp; rfl)); (case hp => exact (Reps.none _ _)); intro v197 w2 ho3 hb hg_ hnew_; clear hg_ hnew_; (first | rw [← Ny196.out] at ho3 | (simp only [Int.reduceToNat] at ho3; rw [← Ny196.out] at ho3)); have n0_ := zm (Kd.R_lower ho3 (below_size (zg_1 HB.out))); have n1_ := zm (below_step (zg_1 HB.out) hb); clear HB; have Zb := n0_; have HB := n1_; clear n0_ n1_; clear hb ho3))
 go_loopg [3, 4] k (fun kq v3 v4 w' => ∃ (x3_1 : List Int) (x4_1 : Int), v4 = .int .i64 x4_1 ∧ Aside0 (spec_l09Clusters.l0 kq l0 x3_1 x4_1 = some r) ∧ Aside0 (kq ≤ k) ∧ Aside0 (Kd.R (Kd.int .i64) 3 w' w.heap.size (fun _ => True) v3 x3_1) ∧ Aside0 (Below w.heap.size w w'))
 case atStart => exact ⟨(y196), (0), zr, H', ⟨Nat.le_refl _⟩, ⟨by (with_reducible repeat (first | apply Kd.R_alloc | apply Kd.R_drewN | apply Kd.R_drew)); exact Zb.out⟩, ⟨zg_1 HB.out⟩⟩
 case round =>
  clear H'
  try clear c1
  try clear p2
  obtain ⟨x3_1, x4_1, rfl, HA, HK1, Za, HB⟩ := hrel
  cases gk with
  | zero => exact absurd HA.out (by simp [spec_l09Clusters.l0])
  | succ k1 =>
   have H := HA.out
   clear HA
   simp only [spec_l09Clusters.l0] at H
   by_cases c4 : x4_1 < (l0.length : Int)
   ·rw [if_pos c4] at H
    have c4b0 : decide (x4_1 < (l0.length : Int)) = true := decide_eq_true c4
    clear c4
    by_cases c5 : 0 ≤ x4_1
    ·rw [if_pos c5] at H
     have c5b0 : decide (0 ≤ x4_1) = true := decide_eq_true c5
     clear c5
     by_cases c6 : (rd l0 x4_1) ≥ 2
     ·rw [if_pos c6] at H
      have c6b0 : decide (2 ≤ (rd l0 x4_1)) = true := decide_eq_true c6
      clear c6
      by_cases c7 : x3_1.length < 17592186044416
      ·rw [if_pos c7] at H
       have LMc7 := zm c7
       clear c7
       obtain ⟨y201, hy201⟩ : ∃ y_ : List Int, y_ = (x3_1 ++ [wrap64 ((rd l0 x4_1) - 2)]) := ⟨_, rfl⟩
       replace H : (spec_l09Clusters.l0 k1 l0 y201 (wrap64 (x4_1 + 1))) = some r := by first | (rw [hy201]; with_reducible exact H) | (have H2_ := (Option.bind_some _ _).symm.trans H; rw [hy201]; with_reducible exact H2_) | (have H2_ := (Option.bind_some _ _).symm.trans H; with_reducible exact H2_) | with_reducible exact H | (rw [hy201]; exact H) | exact H
       have Ny201 := zm hy201
       clear hy201
       have H' := zm H
       clear H
       have p199 : 0 ≤ (x4_1 : Int) := zd
       have q199 : x4_1 < (l0.length : Int) := zd
       obtain ⟨ad199, e199, hx199_0⟩ := Kd.at_int HR0.out x4_1 p199 q199
       cases e199
       replace hx199_0 := (HB.out.cell (World.block_lt_of_cell? w _ hx199_0)).trans hx199_0
       replace p199 := eq_true p199
       replace q199 := eq_true q199
       have p200 : 0 ≤ (x4_1 : Int) := zd
       have q200 : x4_1 < (l0.length : Int) := zd
       obtain ⟨ad200, e200, hx200_0⟩ := Kd.at_int HR0.out x4_1 p200 q200
       obtain rfl : ad199 = ad200 := (by injection e200)
       replace hx200_0 := (HB.out.cell (World.block_lt_of_cell? w _ hx200_0)).trans hx200_0
       replace p200 := eq_true p200
       replace q200 := eq_true q200
       go_wp2_with (first | ((with_reducible refine gate_builtin (b := .append) (xs := #[.tmp 17, .tmp 23]) rfl ?_); at_builtin; refine Kd.R_append (Kd.int .i64) (w0 := w) w.heap.size rfl (.tmp 17) (.tmp 23) 23 3 (.int .i64 0) 8 rfl Tryz.underlying23 info3 rfl (by decide) (by omega) u3 x3_1 (wrap64 ((rd l0 x4_1) - 2)) [.int .i64 (wrap64 ((rd l0 x4_1) - 2))] (fun _ => True) (fun _ => False) rfl rfl ?aP (fun _ hk => hk.elim) ?aF ?aO ?aB ?aS ?aL ?_; (case aP => exact rfl); (case aB => exact (zg_1 HB.out)); (case aF => exact (fun _ _ => trivial)); (case aO => exact (zg_6 Za.out)); (case aS => exact (below_size (zg_1 HB.out))); (case aL => have := LMc7.out; omega); intro v202 w8 ho hb hg hat; rw [← Ny201.out] at ho; have n0_ := zm (hb); have n1_ := zm (ho); clear HB; clear Za; have HB := n0_; have Zc := n1_; clear n0_ n1_; clear ho hb hg hat))
       go_roundg k1
       case measure => have := HK1.out; omega
       case rel => exact ⟨(y201), (wrap64 (x4_1 + 1)), zr, H', ⟨by have := HK1.out; omega⟩, ⟨by (with_reducible repeat (first | apply Kd.R_alloc | apply Kd.R_drewN | apply Kd.R_drew)); exact Zc.out⟩, ⟨zg_1 HB.out⟩⟩
      ·rw [if_neg c7] at H
       exact absurd H (by simp)
     ·rw [if_neg c6] at H
      have c6b0 : decide (2 ≤ (rd l0 x4_1)) = false := decide_eq_false c6
      clear c6
      have H' := zm H
      clear H
      have p199 : 0 ≤ (x4_1 : Int) := zd
      have q199 : x4_1 < (l0.length : Int) := zd
      obtain ⟨ad199, e199, hx199_0⟩ := Kd.at_int HR0.out x4_1 p199 q199
      cases e199
      replace hx199_0 := (HB.out.cell (World.block_lt_of_cell? w _ hx199_0)).trans hx199_0
      replace p199 := eq_true p199
      replace q199 := eq_true q199
      go_wp2
      go_roundg k1
      case measure => have := HK1.out; omega
      case rel => exact ⟨(x3_1), (wrap64 (x4_1 + 1)), zr, H', ⟨by have := HK1.out; omega⟩, ⟨by (with_reducible repeat (first | apply Kd.R_alloc | apply Kd.R_drewN | apply Kd.R_drew)); exact Za.out⟩, ⟨zg_1 HB.out⟩⟩
    ·rw [if_neg c5] at H
     exact absurd H (by simp)
   ·rw [if_neg c4] at H
    have c4b0 : decide (x4_1 < (l0.length : Int)) = false := decide_eq_false c4
    clear c4
    obtain rfl := Option.some.inj H
    go_wp2
    go_ret
    exact ⟨_, by first | rfl | (simp [errW_none, errW_some] <;> rfl) | (simp [*, errW_none, errW_some] <;> rfl), by (with_reducible repeat (first | apply Kd.R_alloc | apply Kd.R_drewN | apply Kd.R_drew)); exact Za.out, zg_1 HB.out⟩
end Go.Proofs.YtglcnnmobkocmaaGreat.Q
