/- What laws.FnExactDiffUpdates reaches, part 3: the functions as Lean functions, the proofs that the program's functions answer so, and plain laws about them. -/
import Derived.Test.YtglcnnmobkocmaaGreatKFnExactDiffUpdates1
import Derived.Test.YtglcnnmobkocmaaGreatKFnExactDiffUpdates2
namespace Go.Proofs.YtglcnnmobkocmaaGreat.Q
open Go.RowKit Go.Proofs.YtglcnnmobkocmaaGreat.Ext Go.Proofs.YtglcnnmobkocmaaGreatW.PrintWords Go.Proofs.YtglcnnmobkocmaaGreatW.PrintLast Go.Proofs.YtglcnnmobkocmaaGreatW.PrintMore
attribute [local go_sem] max2_int min2_int max_two min_two max_three min_three max_four min_four   -- for this text's walks alone
set_option linter.unusedVariables false
set_option linter.unusedSimpArgs false

set_option linter.unusedVariables false
set_option linter.unusedSimpArgs false
mutual
def impl_Image_updates.l0 : Nat → List Int → List ByteArray → Int → Int → List Int → List Int → List (S103) → List Int → Option ((List (S77)))
  | 0, _, _, _, _, _, _, _, _ => none
  | k + 1, x3, x16, x17, x18, x771000, x771001, x771002, x771003 => if x18 < x17 then (if 0 ≤ x18 then (if x18 < (x16.length : Int) then ((impl_packName.f k (rdOf ByteArray.empty x16 x18)).bind fun t778 => (if x3.length < 17592186044416 then (impl_Image_updates.l0 k (x3 ++ [t778]) x16 x17 (wrap64 (x18 + 1)) x771000 x771001 x771002 x771003) else (none))) else (none)) else (none)) else ((impl_seal.f k 1 x3).bind fun t782 => ((impl_refsText.f k x771000).bind fun t783 => ((impl_Image_tables.f k x771000 x771001 x771002 x771003).bind fun t787 => (impl_Image_updates.l1 k (([(⟨9, t782⟩ : S77), (⟨10, t783⟩ : S77)] : List (S77))) t787 (t787.length : Int) 0 x771000 x771001 x771002 x771003))))
def impl_Image_updates.l1 : Nat → List (S77) → List (List Int) → Int → Int → List Int → List Int → List (S103) → List Int → Option ((List (S77)))
  | 0, _, _, _, _, _, _, _, _ => none
  | k + 1, x6, x37, x38, x39, x771000, x771001, x771002, x771003 => if x39 < x38 then (if 0 ≤ x39 then (if x39 < (x37.length : Int) then ((impl_seal.f k 3 (rd_L3 x37 x39)).bind fun t791 => (if x6.length < 5864062014805 then (impl_Image_updates.l1 k (x6 ++ [(⟨wrap64 (11 + x39), t791⟩ : S77)]) x37 x38 (wrap64 (x39 + 1)) x771000 x771001 x771002 x771003) else (none))) else (none)) else (none)) else (impl_Image_updates.l2 k x6 x771000 (x771000.length : Int) 0 x771000 x771001 x771002 x771003)
def impl_Image_updates.l2 : Nat → List (S77) → List Int → Int → Int → List Int → List Int → List (S103) → List Int → Option ((List (S77)))
  | 0, _, _, _, _, _, _, _, _ => none
  | k + 1, x6, x54, x55, x56, x771000, x771001, x771002, x771003 => if x56 < x55 then (if 0 ≤ x56 then (if x56 < (x54.length : Int) then (if (rd x54 x56) > 0 then (if x56 < (x771003.length : Int) then ((impl_seal.f k 4 (([rd x771003 x56] : List Int))).bind fun t800 => (if x6.length < 5864062014805 then (impl_Image_updates.l2 k (x6 ++ [(⟨wrap64 (15 + x56), t800⟩ : S77)]) x54 x55 (wrap64 (x56 + 1)) x771000 x771001 x771002 x771003) else (none))) else (none)) else (impl_Image_updates.l2 k x6 x54 x55 (wrap64 (x56 + 1)) x771000 x771001 x771002 x771003)) else (none)) else (none)) else (some x6)
end
def impl_Image_updates.f (k : Nat) (l0_0 : List Int) (l0_1 : List Int) (l0_2 : List (S103)) (l0_3 : List Int) : Option ((List (S77))) := (impl_Image_names.f k l0_0 l0_1 l0_2 l0_3).bind fun t774 => (impl_Image_updates.l0 k (([(l0_2.length : Int)] : List Int)) t774 (t774.length : Int) 0 l0_0 l0_1 l0_2 l0_3)
theorem impl_Image_updates.mono_l : ∀ k, (∀ y0 y1 y2 y3 y4 y5 y6 y7, LeO (impl_Image_updates.l0 k y0 y1 y2 y3 y4 y5 y6 y7) (impl_Image_updates.l0 (k + 1) y0 y1 y2 y3 y4 y5 y6 y7)) ∧ (∀ y0 y1 y2 y3 y4 y5 y6 y7, LeO (impl_Image_updates.l1 k y0 y1 y2 y3 y4 y5 y6 y7) (impl_Image_updates.l1 (k + 1) y0 y1 y2 y3 y4 y5 y6 y7)) ∧ (∀ y0 y1 y2 y3 y4 y5 y6 y7, LeO (impl_Image_updates.l2 k y0 y1 y2 y3 y4 y5 y6 y7) (impl_Image_updates.l2 (k + 1) y0 y1 y2 y3 y4 y5 y6 y7))
  | 0 => ⟨fun _ _ _ _ _ _ _ _ r h => by simp [impl_Image_updates.l0] at h, fun _ _ _ _ _ _ _ _ r h => by simp [impl_Image_updates.l1] at h, fun _ _ _ _ _ _ _ _ r h => by simp [impl_Image_updates.l2] at h⟩
  | k + 1 => by
    obtain ⟨ih0, ih1, ih2⟩ := impl_Image_updates.mono_l k
    refine ⟨?_, ?_, ?_⟩
    · intro y0 y1 y2 y3 y4 y5 y6 y7
      unfold impl_Image_updates.l0
      repeat' first| (with_reducible first | exact ih0 _ _ _ _ _ _ _ _ | exact ih1 _ _ _ _ _ _ _ _ | exact ih2 _ _ _ _ _ _ _ _ | exact impl_Image_names.mono _ _ _ _ _ | exact impl_Image_tables.mono _ _ _ _ _ | exact impl_packName.mono _ _ | exact impl_refsText.mono _ _ | exact impl_seal.mono _ _ _ | exact LeO.refl _ | exact LeO.none _ | refine LeO.ite ?_ ?_ | refine LeO.bind ?_ (fun _ => ?_)) | exact ih0 _ _ _ _ _ _ _ _ | exact ih1 _ _ _ _ _ _ _ _ | exact ih2 _ _ _ _ _ _ _ _ | exact impl_Image_names.mono _ _ _ _ _ | exact impl_Image_tables.mono _ _ _ _ _ | exact impl_packName.mono _ _ | exact impl_refsText.mono _ _ | exact impl_seal.mono _ _ _ | exact LeO.none _ | refine LeO.ite ?_ ?_ | refine LeO.bind ?_ (fun _ => ?_)
    · intro y0 y1 y2 y3 y4 y5 y6 y7
      unfold impl_Image_updates.l1
      repeat' first| (with_reducible first | exact ih0 _ _ _ _ _ _ _ _ | exact ih1 _ _ _ _ _ _ _ _ | exact ih2 _ _ _ _ _ _ _ _ | exact impl_Image_names.mono _ _ _ _ _ | exact impl_Image_tables.mono _ _ _ _ _ | exact impl_packName.mono _ _ | exact impl_refsText.mono _ _ | exact impl_seal.mono _ _ _ | exact LeO.refl _ | exact LeO.none _ | refine LeO.ite ?_ ?_ | refine LeO.bind ?_ (fun _ => ?_)) | exact ih0 _ _ _ _ _ _ _ _ | exact ih1 _ _ _ _ _ _ _ _ | exact ih2 _ _ _ _ _ _ _ _ | exact impl_Image_names.mono _ _ _ _ _ | exact impl_Image_tables.mono _ _ _ _ _ | exact impl_packName.mono _ _ | exact impl_refsText.mono _ _ | exact impl_seal.mono _ _ _ | exact LeO.none _ | refine LeO.ite ?_ ?_ | refine LeO.bind ?_ (fun _ => ?_)
    · intro y0 y1 y2 y3 y4 y5 y6 y7
      unfold impl_Image_updates.l2
      repeat' first| (with_reducible first | exact ih0 _ _ _ _ _ _ _ _ | exact ih1 _ _ _ _ _ _ _ _ | exact ih2 _ _ _ _ _ _ _ _ | exact impl_Image_names.mono _ _ _ _ _ | exact impl_Image_tables.mono _ _ _ _ _ | exact impl_packName.mono _ _ | exact impl_refsText.mono _ _ | exact impl_seal.mono _ _ _ | exact LeO.refl _ | exact LeO.none _ | refine LeO.ite ?_ ?_ | refine LeO.bind ?_ (fun _ => ?_)) | exact ih0 _ _ _ _ _ _ _ _ | exact ih1 _ _ _ _ _ _ _ _ | exact ih2 _ _ _ _ _ _ _ _ | exact impl_Image_names.mono _ _ _ _ _ | exact impl_Image_tables.mono _ _ _ _ _ | exact impl_packName.mono _ _ | exact impl_refsText.mono _ _ | exact impl_seal.mono _ _ _ | exact LeO.none _ | refine LeO.ite ?_ ?_ | refine LeO.bind ?_ (fun _ => ?_)
theorem impl_Image_updates.mono : ∀ a0 a1 a2 a3 k, LeO (impl_Image_updates.f k a0 a1 a2 a3) (impl_Image_updates.f (k + 1) a0 a1 a2 a3) := by
  intro a0 a1 a2 a3 k
  obtain ⟨ih0, ih1, ih2⟩ := impl_Image_updates.mono_l k
  unfold impl_Image_updates.f
  repeat' first| (with_reducible first | exact ih0 _ _ _ _ _ _ _ _ | exact ih1 _ _ _ _ _ _ _ _ | exact ih2 _ _ _ _ _ _ _ _ | exact impl_Image_names.mono _ _ _ _ _ | exact impl_Image_tables.mono _ _ _ _ _ | exact impl_packName.mono _ _ | exact impl_refsText.mono _ _ | exact impl_seal.mono _ _ _ | exact LeO.refl _ | exact LeO.none _ | refine LeO.ite ?_ ?_ | refine LeO.bind ?_ (fun _ => ?_)) | exact ih0 _ _ _ _ _ _ _ _ | exact ih1 _ _ _ _ _ _ _ _ | exact ih2 _ _ _ _ _ _ _ _ | exact impl_Image_names.mono _ _ _ _ _ | exact impl_Image_tables.mono _ _ _ _ _ | exact impl_packName.mono _ _ | exact impl_refsText.mono _ _ | exact impl_seal.mono _ _ _ | exact LeO.none _ | refine LeO.ite ?_ ?_ | refine LeO.bind ?_ (fun _ => ?_)
def impl_Image_updates.T7 : Bool × List (List Nat × List Nat) := (true, [([], []), ([0], [0]), ([1], [1]), ([], []), ([3], [3]), ([4, 1], [4]), ([5], [5]), ([2, 6], [2, 6]), ([7, 5, 0, 1, 2, 3, 4, 5, 6, 7], [7])])
def impl_Image_updates.B7 : List Nat := [0, 1, 3, 0, 8, 27, 59, 127, 255]
theorem impl_Image_updates.tab7 : rtab .any (opsOf Tryz.f54 7) = impl_Image_updates.T7 := by kernel_rfl
theorem impl_Image_updates.bits7 : waitsOk impl_Image_updates.T7.2 impl_Image_updates.B7 = true := by kernel_rfl
set_option maxHeartbeats 8000000 in
set_option maxRecDepth 100000 in
theorem impl_Image_updates.calls (k : Nat) (A0_0 : Option Addr) (c0_0 : Nat) (l0_0 : List Int) (A0_1 : Option Addr) (c0_1 : Nat) (l0_1 : List Int) (A0_2 : Option Addr) (c0_2 : Nat) (l0_2 : List (S103)) (A0_3 : Option Addr) (c0_3 : Nat) (l0_3 : List Int) (r : List (S77)) (w : World) (hr0_0 : Kd.C (Kd.int .i64) w A0_0 l0_0.length l0_0) (hc0_0 : l0_0.length ≤ c0_0) (hr0_1 : Kd.C (Kd.int .i64) w A0_1 l0_1.length l0_1) (hc0_1 : l0_1.length ≤ c0_1) (hr0_2 : Kd.C k103 w A0_2 l0_2.length l0_2) (hc0_2 : l0_2.length ≤ c0_2) (hr0_3 : Kd.C (Kd.int .i64) w A0_3 l0_3.length l0_3) (hc0_3 : l0_3.length ≤ c0_3) (h : impl_Image_updates.f k l0_0 l0_1 l0_2 l0_3 = some r) :
    Calls Tryz.prog 54 #[.agg #[.slice A0_0 l0_0.length c0_0, .slice A0_1 l0_1.length c0_1, .slice A0_2 l0_2.length c0_2, .slice A0_3 l0_3.length c0_3]] w fun e w' => ∃ v0_ : Value, e = .returned (v0_) ∧ Kd.R k77 77 w' w.heap.size (fun _ => True) v0_ r ∧ Below w.heap.size w w' := by
 have hu26 := Tryz.underlying26; have hu77 := Tryz.underlying77; have Zk := zm hr0_0; have Zm := zm hc0_0; clear hr0_0 hc0_0; have Zp := zm hr0_1; have Zq := zm hc0_1; clear hr0_1 hc0_1; have Zr := zm hr0_2; have Zs := zm hc0_2; clear hr0_2 hc0_2; have Zn := zm hr0_3; have Zt := zm hc0_3; clear hr0_3 hc0_3; have HB := zm (Below.refl w.heap.size w); have H := h
 unfold impl_Image_updates.f at H
 clear h
 obtain ⟨y771, hy771⟩ : ∃ y_ : List Int, y_ = (([(l0_2.length : Int)] : List Int)) := ⟨_, rfl⟩
 replace H : ((impl_Image_names.f k l0_0 l0_1 l0_2 l0_3).bind fun t774 => (impl_Image_updates.l0 k y771 t774 (t774.length : Int) 0 l0_0 l0_1 l0_2 l0_3)) = some r := by first | (rw [hy771]; with_reducible exact H) | (have H2_ := (Option.bind_some _ _).symm.trans H; rw [hy771]; with_reducible exact H2_) | (have H2_ := (Option.bind_some _ _).symm.trans H; with_reducible exact H2_) | with_reducible exact H | (rw [hy771]; exact H) | exact H
 have Ny771 := zm hy771; clear hy771; replace H := Option.bind_eq_some_iff.mp H
 obtain ⟨t774, A20, H⟩ := H
 try dsimp only at H
 have A2 := zm A20; clear A20
 have H' := zm H
 clear H
 go_enter Tryz.func54, Tryz.ntmps54
 go_wp2_with (first | ((with_reducible refine gate_dst (N := 1) rfl ?_); refine box_event ?hg (N := 1) ?hd (cs := #[.slice A0_0 l0_0.length c0_0, .slice A0_1 l0_1.length c0_1, .slice A0_2 l0_2.length c0_2, .slice A0_3 l0_3.length c0_3]) (t := 26) ?hr ?_; (case hd => rfl); (case hg => rfl); (case hr => first | (go_simp; done) | (go_simp; rfl)); intro gb770 hg w3 hbox hb; have n0_ := zm (below_step (zg_1 HB.out) hb); have n1_ := zm (hbox); have n2_ := zm ((by rw [hg]; exact (below_size (zg_1 HB.out)) : w.heap.size ≤ gb770)); have n3_ := zm ((by rw [hg]; exact (below_size (zg_1 HB.out)) : w.heap.size ≤ gb770)); replace HB := n0_; have Za := n1_; have Zu := n2_; have Zb := n3_; clear n0_ n1_ n2_ n3_; clear hb hbox hg; obtain ⟨hcz4_0, hcz4_1, hcz4_2, hcz4_3, hfz4_0, hfz4_1, hfz4_2, hfz4_3⟩ := zb4 Za.out) | ((with_reducible refine gate_dst (N := 14) rfl ?_); refine Kd.R_lit (Kd.int .i64) _ 3 ?hg (N := 14) ?hd (xs := ([(l0_2.length : Int)] : List Int)) (inner := [.int .i64 (l0_2.length : Int)]) (ok := fun _ => True) (okp := fun _ => True) ?hr ?hp (fun _ hk => hk) trivial (Below.refl _ _) (Nat.le_refl _) (by simp) ?_; (case hd => rfl); (case hg => rfl); (case hr => first | (go_simp; done) | (go_simp; rfl)); (case hp => exact (Reps.one (show Kd.M (Kd.int .i64) _ _ _ (l0_2.length : Int) [.int .i64 (l0_2.length : Int)] from rfl) (Reps.none _ _))); intro v772 w5 ho6 hb hg_ hnew_; clear hg_ hnew_; (first | rw [← Ny771.out] at ho6 | (simp only [Int.reduceToNat] at ho6; rw [← Ny771.out] at ho6)); have n0_ := zm (Kd.R_lower ho6 (below_size (zg_2 HB.out Zb.out))); have n1_ := zm (blk_below (zg_3 Za.out) hb); have n2_ := zm (below_step (zg_2 HB.out Zb.out) hb); have Zl := n0_; replace Za := n1_; replace HB := n2_; clear n0_ n1_ n2_; clear hb ho6; obtain ⟨hcz7_0, hcz7_1, hcz7_2, hcz7_3, hfz7_0, hfz7_1, hfz7_2, hfz7_3⟩ := zb4 Za.out) | ((with_reducible refine gate_callee (f := 74) rfl ?_); refine goesL_ (some 16) rfl rfl Tryz.func74 (by kernel_rfl) rfl #[.agg #[.slice A0_0 l0_0.length c0_0, .slice A0_1 l0_1.length c0_1, .slice A0_2 l0_2.length c0_2, .slice A0_3 l0_3.length c0_3]] rfl zq ?_; (with_reducible refine (impl_Image_names.calls k _ _ l0_0 _ _ l0_1 _ _ l0_2 _ _ l0_3 t774 _ ?side1 ?side2 ?side3 ?side4 ?side5 ?side6 ?side7 ?side8 A2.out).mono ?_); (case side1 => exact zC (Kd.C_below Zk.out HB.out)); (case side2 => exact Zm.out); (case side3 => exact zC (Kd.C_below Zp.out HB.out)); (case side4 => exact Zq.out); (case side5 => exact zC (Kd.C_below Zr.out HB.out)); (case side6 => exact Zs.out); (case side7 => exact zC (Kd.C_below Zn.out HB.out)); (case side8 => exact Zt.out); rintro e w8 ⟨v775, rfl, ho0, hb⟩; refine ⟨_, rfl, ?_⟩; have n0_ := zm (Kd.R_below (zg_6 Zl.out) hb); have n1_ := zm (Kd.R_lower ho0 (below_size (zg_2 HB.out Zb.out))); have n2_ := zm (blk_below (zg_3 Za.out) hb); have n3_ := zm (below_step (zg_2 HB.out Zb.out) hb); replace Zl := n0_; have Zv := n1_; replace Za := n2_; replace HB := n3_; clear n0_ n1_ n2_ n3_; (try clear hb); (try clear hb2); (try clear hk); (try clear hi); (try clear ho0); obtain ⟨Ao9, co9, eo9⟩ := Kd.R_slice Zv.out; subst eo9))
 go_loopg [3, 18] k (fun kq v3 v18 w' => ∃ (x3_1 : List Int) (x18_1 : Int), v18 = .int .i64 x18_1 ∧ Aside0 (impl_Image_updates.l0 kq x3_1 t774 (t774.length : Int) x18_1 l0_0 l0_1 l0_2 l0_3 = some r) ∧ Aside0 (kq ≤ k) ∧ Aside0 (Kd.R (Kd.int .i64) 3 w' w.heap.size (fun _ => True) v3 x3_1) ∧ Aside0 (Kd.R Kd.string 9 w' w.heap.size (fun _ => True) (.slice Ao9 t774.length co9) t774) ∧ Aside0 (w'.heap[gb770]? = some (.cells #[(.slice A0_0 l0_0.length c0_0), (.slice A0_1 l0_1.length c0_1), (.slice A0_2 l0_2.length c0_2), (.slice A0_3 l0_3.length c0_3)] 26 (0, 0))) ∧ Aside0 (Below w.heap.size w w'))
 case atStart => exact ⟨(y771), (0), zr, H', ⟨Nat.le_refl _⟩, ⟨zlR Zl.out⟩, ⟨zlR Zv.out⟩, ⟨zl Za.out⟩, ⟨zg_2 HB.out Zb.out⟩⟩
 case round =>
  clear H'
  try clear p2
  try clear c5
  try clear c7
  obtain ⟨x3_1, x18_1, rfl, HA, HK1, Zd, Zc, Za, HB⟩ := hrel
  cases gk with
  | zero => exact absurd HA.out (by simp [impl_Image_updates.l0])
  | succ k1 =>
   have H := HA.out; clear HA
   simp only [impl_Image_updates.l0] at H
   by_cases c10 : x18_1 < (t774.length : Int)
   ·rw [if_pos c10] at H
    have c10b0 := decide_eq_true c10; clear c10
    by_cases c11 : 0 ≤ x18_1
    ·rw [if_pos c11] at H
     have c11b0 := decide_eq_true c11; clear c11
     by_cases c12 : x18_1 < (t774.length : Int)
     ·rw [if_pos c12] at H
      have c12b0 := decide_eq_true c12; clear c12; replace H := Option.bind_eq_some_iff.mp H
      obtain ⟨t778, A130, H⟩ := H
      try dsimp only at H
      have A13 := zm A130; clear A130
      by_cases c14 : x3_1.length < 17592186044416
      ·rw [if_pos c14] at H
       have LMc14 := zm c14; clear c14
       obtain ⟨y779, hy779⟩ : ∃ y_ : List Int, y_ = (x3_1 ++ [t778]) := ⟨_, rfl⟩
       replace H : (impl_Image_updates.l0 k1 y779 t774 (t774.length : Int) (wrap64 (x18_1 + 1)) l0_0 l0_1 l0_2 l0_3) = some r := by first | (rw [hy779]; with_reducible exact H) | (have H2_ := (Option.bind_some _ _).symm.trans H; rw [hy779]; with_reducible exact H2_) | (have H2_ := (Option.bind_some _ _).symm.trans H; with_reducible exact H2_) | with_reducible exact H | (rw [hy779]; exact H) | exact H
       have Ny779 := zm hy779; clear hy779
       have H' := zm H
       clear H
       have p777 : 0 ≤ (x18_1 : Int) := zd
       have q777 : x18_1 < (t774.length : Int) := zd
       obtain ⟨ad777, e777, hx777_0⟩ := Kd.at_string (Kd.R_reads' Zc.out).2.2 x18_1 p777 q777
       cases e777; replace p777 := eq_true p777; replace q777 := eq_true q777
       go_wp2_with (first | ((with_reducible refine gate_callee (f := 97) rfl ?_); refine goesL_ (some 24) rfl rfl Tryz.func97 (by kernel_rfl) rfl #[.string (rdOf ByteArray.empty t774 x18_1)] rfl zq ?_; (with_reducible refine (impl_packName.calls k1 (rdOf ByteArray.empty t774 x18_1) t778 _ A13.out).mono ?_); rintro e w' ⟨rfl, ⟨nd, rfl⟩⟩; refine ⟨_, rfl, ?_⟩) | ((with_reducible refine gate_builtin (b := .append) (xs := #[.tmp 22, .tmp 25]) rfl ?_); at_builtin; refine Kd.R_append (Kd.int .i64) (w0 := w) w.heap.size rfl (.tmp 22) (.tmp 25) 23 3 (.int .i64 0) 8 rfl Tryz.underlying23 info3 rfl (by decide) (by omega) u3 x3_1 t778 [.int .i64 t778] (fun _ => True) (fun _ => False) rfl rfl ?aP (fun _ hk => hk.elim) ?aF ?aO ?aB ?aS ?aL ?_; (case aP => exact rfl); (case aB => exact (zg_2 HB.out Zb.out)); (case aF => exact (fun _ _ => trivial)); (case aO => exact (zg_6 Zd.out)); (case aS => exact (below_size (zg_2 HB.out Zb.out))); (case aL => have := LMc14.out; omega); intro v780 w15 ho hb hg hat; rw [← Ny779.out] at ho; have n0_ := zm (Kd.R_over' (zg_6 Zc.out) (Kd.R_typed (zg_6 Zd.out)) (by decide) hg); have n1_ := zm (blk_grown (zg_3 Za.out) hg (Kd.R_ne Zd.out Za.out (by decide))); have n2_ := zm (hb); have n3_ := zm (ho); clear Zd; replace Zc := n0_; replace Za := n1_; replace HB := n2_; have Zx := n3_; clear n0_ n1_ n2_ n3_; clear ho hb hg hat))
       go_roundg k1
       case measure => have := HK1.out; omega
       case rel => exact ⟨(y779), (wrap64 (x18_1 + 1)), zr, H', ⟨by have := HK1.out; omega⟩, ⟨zlR Zx.out⟩, ⟨zlR Zc.out⟩, ⟨zl Za.out⟩, ⟨zg_2 HB.out Zb.out⟩⟩
      ·rw [if_neg c14] at H
       exact absurd H (by simp)
     ·rw [if_neg c12] at H
      exact absurd H (by simp)
    ·rw [if_neg c11] at H
     exact absurd H (by simp)
   ·rw [if_neg c10] at H
    have c10b0 := decide_eq_false c10; clear c10; replace H := Option.bind_eq_some_iff.mp H
    obtain ⟨t782, A160, H⟩ := H
    try dsimp only at H
    have A16 := zm A160; clear A160; replace H := Option.bind_eq_some_iff.mp H
    obtain ⟨t783, A170, H⟩ := H
    try dsimp only at H
    have A17 := zm A170; clear A170
    obtain ⟨y784, hy784⟩ : ∃ y_ : List (S77), y_ = (([(⟨9, t782⟩ : S77), (⟨10, t783⟩ : S77)] : List (S77))) := ⟨_, rfl⟩
    replace H : ((impl_Image_tables.f k1 l0_0 l0_1 l0_2 l0_3).bind fun t787 => (impl_Image_updates.l1 k1 y784 t787 (t787.length : Int) 0 l0_0 l0_1 l0_2 l0_3)) = some r := by first | (rw [hy784]; with_reducible exact H) | (have H2_ := (Option.bind_some _ _).symm.trans H; rw [hy784]; with_reducible exact H2_) | (have H2_ := (Option.bind_some _ _).symm.trans H; with_reducible exact H2_) | with_reducible exact H | (rw [hy784]; exact H) | exact H
    have Ny784 := zm hy784; clear hy784; replace H := Option.bind_eq_some_iff.mp H
    obtain ⟨t787, A180, H⟩ := H
    try dsimp only at H
    have A18 := zm A180; clear A180
    have H' := zm H
    clear H
    try go_wp2
    have n0_ := zm (Kd.R_drew Zd.out); have n1_ := zm (Kd.R_drew Zc.out); have n2_ := zm (blk_drew Za.out); have n3_ := zm (below_drew1 HB.out); clear Zd; clear Zc; clear Za; clear HB; have Zd := n0_; have Zc := n1_; have Za := n2_; have HB := n3_; clear n0_ n1_ n2_ n3_
    obtain ⟨Ao20, co20, eo20⟩ := Kd.R_slice Zd.out
    (first | subst eo20 | (injection eo20 with f1_ f2_ f3_; have f4_ := f1_.symm; have f5_ := f3_.symm; clear f1_ f2_ f3_; subst f4_; subst f5_))
    refine start_ (n := 9) (S := fun w' => w'.cell? ⟨gb770, 0, none⟩ = some (.slice A0_0 l0_0.length c0_0) ∧ w'.cell? ⟨gb770, 1, none⟩ = some (.slice A0_1 l0_1.length c0_1) ∧ w'.cell? ⟨gb770, 2, none⟩ = some (.slice A0_2 l0_2.length c0_2) ∧ w'.cell? ⟨gb770, 3, none⟩ = some (.slice A0_3 l0_3.length c0_3)) (ds := []) #[false, false, false, false, false, false, false, false, false] (by kernel_rfl) rfl rfl ⟨(blk_cell Za.out 0).trans rfl, (blk_cell Za.out 1).trans rfl, (blk_cell Za.out 2).trans rfl, (blk_cell Za.out 3).trans rfl⟩ (fun hHeld => ?_); refine with_tabW impl_Image_updates.tab7 impl_Image_updates.bits7 (fun HT_ HW_ => ?_)
    generalize wr.drew = w19 at Zd Zc Za HB hHeld ⊢
    refine pure_ (i := 0) (N := some 28) (v := ?_) (a' := ?_) #[true, false, false, false, false, false, false, false, false] rfl rfl (any_of HT_.out (by kernel_rfl)) (fun _ _ _ h => h) (Or.inl ⟨by rfl, ?_⟩) ?_ ?_
    rotate_left
    ·intro w'
     go_simp
     with_reducible rfl
    rotate_left
    ·simp only [Act.put, zs, zz, zt, i64_w, i32_w]
     rfl
    refine pure_ (i := 3) (N := some 31) (v := ?_) (a' := ?_) #[true, false, false, true, false, false, false, false, false] rfl rfl (any_of HT_.out (by kernel_rfl)) (fun _ _ _ h => h) (Or.inl ⟨by rfl, ?_⟩) ?_ ?_
    rotate_left
    ·intro w'
     go_simp
     with_reducible rfl
    rotate_left
    ·simp only [Act.put, zs, zz, zt, i64_w, i32_w]
     rfl
    refine take_ (i := 4) (N := some 32) (v := ?_) (a' := ?_) #[true, false, false, true, true, false, false, false, false] rfl rfl (take_ofW HT_.out HW_.out (by kernel_rfl)) (fun _ _ _ h => h) (Or.inl ⟨by rfl, ?_⟩) hHeld ?_ ?_
    rotate_left
    ·rintro w' ⟨s0, s1, s2, s3⟩
     go_simp
     with_reducible rfl
    rotate_left
    ·simp only [Act.put, zs, zz, zt, i64_w, i32_w]
     rfl
    refine one_ (i := 1) (N := some 29) #[true, true, false, true, true, false, false, false, false] rfl rfl (one_of HT_.out (by kernel_rfl)) (by decide) (fun K hK => ?_)
    refine goes_ Tryz.func98 (by kernel_rfl) rfl #[.int .i64 1, .slice Ao20 x3_1.length co20] (by rfl) rfl rfl zq ?_
    with_reducible refine (impl_seal.calls k1 1 _ _ x3_1 t782 _ ?side1 ?side2 A16.out).mono ?_
    (case side1 => exact zC ((Kd.R_reads' Zd.out).2.2))
    (case side2 => exact (Kd.R_reads' Zd.out).2.1)
    rintro e w21 ⟨rfl, hb⟩
    refine ⟨_, rfl, ?_⟩
    have n0_ := zm (Kd.R_below (zg_6 Zd.out) hb); have n1_ := zm (Kd.R_below (zg_6 Zc.out) hb); have n2_ := zm (blk_below (zg_3 Za.out) hb); have n3_ := zm (below_step (zg_2 HB.out Zb.out) hb); clear Zd; clear Zc; clear Za; clear HB; have Zd := n0_; have Zc := n1_; have Za := n2_; have HB := n3_; clear n0_ n1_ n2_ n3_
    (try clear hb)
    (try clear hb2)
    (try clear hk)
    (try clear hi)
    refine hK.out _ _ ⟨(blk_cell Za.out 0).trans rfl, (blk_cell Za.out 1).trans rfl, (blk_cell Za.out 2).trans rfl, (blk_cell Za.out 3).trans rfl⟩ (fun hHeld => ?_)
    clear hK K
    refine norm_ (a' := ?_) ?_ ?_
    rotate_left
    ·show Act.put _ (some 29) _ = _
     simp only [Act.put, zs, zz, zt, i64_w, i32_w]
     rfl
    refine pure_ (i := 2) (N := some 30) (v := ?_) (a' := ?_) #[true, true, true, true, true, false, false, false, false] rfl rfl (any_of HT_.out (by kernel_rfl)) (fun _ _ _ h => h) (Or.inl ⟨by rfl, ?_⟩) ?_ ?_
    rotate_left
    ·intro w'
     go_simp
     with_reducible rfl
    rotate_left
    ·simp only [Act.put, zs, zz, zt, i64_w, i32_w]
     rfl
    refine one_ (i := 5) (N := some 33) #[true, true, true, true, true, true, false, false, false] rfl rfl (one_of HT_.out (by kernel_rfl)) (by decide) (fun K hK => ?_)
    refine goes_ Tryz.func99 (by kernel_rfl) rfl #[.slice A0_0 l0_0.length c0_0] (by rfl) rfl rfl zq ?_
    with_reducible refine (impl_refsText.calls k1 _ _ l0_0 t783 _ ?side1 ?side2 A17.out).mono ?_
    (case side1 => exact zC (Kd.C_below Zk.out HB.out))
    (case side2 => exact Zm.out)
    rintro e w22 ⟨rfl, hb⟩
    refine ⟨_, rfl, ?_⟩
    have n0_ := zm (Kd.R_below (zg_6 Zd.out) hb); have n1_ := zm (Kd.R_below (zg_6 Zc.out) hb); have n2_ := zm (blk_below (zg_3 Za.out) hb); have n3_ := zm (below_step (zg_2 HB.out Zb.out) hb); clear Zd; clear Zc; clear Za; clear HB; have Zd := n0_; have Zc := n1_; have Za := n2_; have HB := n3_; clear n0_ n1_ n2_ n3_
    (try clear hb)
    (try clear hb2)
    (try clear hk)
    (try clear hi)
    refine hK.out _ _ ⟨(blk_cell Za.out 0).trans rfl, (blk_cell Za.out 1).trans rfl, (blk_cell Za.out 2).trans rfl, (blk_cell Za.out 3).trans rfl⟩ (fun hHeld => ?_)
    clear hK K
    refine norm_ (a' := ?_) ?_ ?_
    rotate_left
    ·show Act.put _ (some 33) _ = _
     simp only [Act.put, zs, zz, zt, i64_w, i32_w]
     rfl
    refine pure_ (i := 6) (N := some 34) (v := ?_) (a' := ?_) #[true, true, true, true, true, true, true, false, false] rfl rfl (any_of HT_.out (by kernel_rfl)) (fun _ _ _ h => h) (Or.inl ⟨by rfl, ?_⟩) ?_ ?_
    rotate_left
    ·intro w'
     go_simp
     with_reducible rfl
    rotate_left
    ·simp only [Act.put, zs, zz, zt, i64_w, i32_w]
     rfl
    refine one_ (i := 7) (N := some 35) #[true, true, true, true, true, true, true, true, false] rfl rfl (one_of HT_.out (by kernel_rfl)) (by decide) (fun K hK => ?_)
    refine Kd.R_lit_step k77 _ 77 ?hg (N := 35) ?hd (xs := ([(⟨9, t782⟩ : S77), (⟨10, t783⟩ : S77)] : List (S77))) (inner := [.int .i64 9, .string t782, .int .i64 10, .string t783]) (ok := fun _ => True) (okp := fun _ => True) ?hr ?hp (fun _ hk => hk) trivial (Below.refl _ _) (Nat.le_refl _) (by simp) ?_; (case hd => rfl); (case hg => rfl); (case hr => first | (go_simp; done) | (go_simp; rfl)); (case hp => exact (Reps.c2 (show Kd.M k77 _ _ _ (⟨9, t782⟩ : S77) [.int .i64 9, .string t782] from (k77_mkM _ _ _ (⟨9, t782⟩ : S77) )) (Reps.c2 (show Kd.M k77 _ _ _ (⟨10, t783⟩ : S77) [.int .i64 10, .string t783] from (k77_mkM _ _ _ (⟨10, t783⟩ : S77) )) (Reps.none _ _))))
    intro v785 w23 ho24 hb hg_ hnew_
    clear hg_ hnew_
    (first | rw [← Ny784.out] at ho24 | (simp only [Int.reduceToNat] at ho24; rw [← Ny784.out] at ho24))
    have n0_ := zm (Kd.R_below (zg_6 Zd.out) hb); have n1_ := zm (Kd.R_below (zg_6 Zc.out) hb); have n2_ := zm (Kd.R_lower ho24 (below_size (zg_2 HB.out Zb.out))); have n3_ := zm (blk_below (zg_3 Za.out) hb); have n4_ := zm (below_step (zg_2 HB.out Zb.out) hb); clear Zd; clear Zc; clear Za; clear HB; have Zd := n0_; have Zc := n1_; have Zj := n2_; have Za := n3_; have HB := n4_; clear n0_ n1_ n2_ n3_ n4_; clear hb ho24
    refine hK.out _ _ ⟨(blk_cell Za.out 0).trans rfl, (blk_cell Za.out 1).trans rfl, (blk_cell Za.out 2).trans rfl, (blk_cell Za.out 3).trans rfl⟩ (fun hHeld => ?_)
    clear hK K
    refine norm_ (a' := ?_) ?_ ?_
    rotate_left
    ·show Act.put _ (some 35) _ = _
     simp only [Act.put, zs, zz, zt, i64_w, i32_w]
     rfl
    refine pure_ (i := 8) (N := some 6) (v := ?_) (a' := ?_) #[true, true, true, true, true, true, true, true, true] rfl rfl (any_of HT_.out (by kernel_rfl)) (fun _ _ _ h => h) (Or.inl ⟨by rfl, ?_⟩) ?_ ?_
    rotate_left
    ·intro w'
     go_simp
     with_reducible rfl
    rotate_left
    ·simp only [Act.put, zs, zz, zt, i64_w, i32_w]
     rfl
    refine done_ (done_of HT_.out (by kernel_rfl)) ?_
    obtain ⟨hcz25_0, hcz25_1, hcz25_2, hcz25_3, hfz25_0, hfz25_1, hfz25_2, hfz25_3⟩ := zb4 Za.out
    try go_wp2_with (first | ((with_reducible refine gate_callee (f := 76) rfl ?_); refine goesL_ (some 37) rfl rfl Tryz.func76 (by kernel_rfl) rfl #[.agg #[.slice A0_0 l0_0.length c0_0, .slice A0_1 l0_1.length c0_1, .slice A0_2 l0_2.length c0_2, .slice A0_3 l0_3.length c0_3]] rfl zq ?_; (with_reducible refine (impl_Image_tables.calls k1 _ _ l0_0 (fun k_ => k_ < w.heap.size) _ _ l0_1 (fun k_ => k_ < w.heap.size) _ _ l0_2 _ _ l0_3 t787 _ ?side1 ?side2 ?side3 ?side4 ?side5 ?side6 A18.out).mono ?_); (case side1 => exact zC (Kd.C_below Zk.out HB.out)); (case side2 => exact Zm.out); (case side3 => exact Kd.V_mk Zq.out (Kd.F_below (Kd.C_F (Kd.heap_int .i64) Zp.out) (zg_2 HB.out Zb.out))); (case side4 => exact Kd.V_mk Zs.out (Kd.F_below (Kd.C_F k103_heap Zr.out) (zg_2 HB.out Zb.out))); (case side5 => exact zC (Kd.C_below Zn.out HB.out)); (case side6 => exact Zt.out); rintro e w26 ⟨v788, rfl, ho0, hb⟩; refine ⟨_, rfl, ?_⟩; have n0_ := zm (Kd.R_below (zg_6 Zd.out) hb); have n1_ := zm (Kd.R_below (zg_6 Zc.out) hb); have n2_ := zm (Kd.R_below (zg_6 Zj.out) hb); have n3_ := zm (Kd.N_lower (Kd.N_mono (ok' := fun k_ => some k_ ≠ (.slice Ao20 x3_1.length co20 : Value).ownBlock ∧ some k_ ≠ (.slice Ao9 t774.length co9 : Value).ownBlock ∧ some k_ ≠ (v785 : Value).ownBlock ∧ k_ ≠ gb770) ho0 (fun k_ hk_ => ⟨Or.elim hk_ (fun hs_ => Or.elim hs_ (fun hs_ => fun e_ => Nat.not_le.2 hs_ (Kd.R_base Zd.out k_ e_.symm)) (fun hs_ => fun e_ => Nat.not_le.2 hs_ (Kd.R_base Zd.out k_ e_.symm))) (fun hn_ => (Kd.fresh' (Kd.R_lt (zg_6 Zd.out)) k_ hn_)), Or.elim hk_ (fun hs_ => Or.elim hs_ (fun hs_ => fun e_ => Nat.not_le.2 hs_ (Kd.R_base Zc.out k_ e_.symm)) (fun hs_ => fun e_ => Nat.not_le.2 hs_ (Kd.R_base Zc.out k_ e_.symm))) (fun hn_ => (Kd.fresh' (Kd.R_lt (zg_6 Zc.out)) k_ hn_)), Or.elim hk_ (fun hs_ => Or.elim hs_ (fun hs_ => fun e_ => Nat.not_le.2 hs_ (Kd.R_base Zj.out k_ e_.symm)) (fun hs_ => fun e_ => Nat.not_le.2 hs_ (Kd.R_base Zj.out k_ e_.symm))) (fun hn_ => (Kd.fresh' (Kd.R_lt (zg_6 Zj.out)) k_ hn_)), Or.elim hk_ (fun hs_ => Or.elim hs_ (fun hs_ => fun e_ => Nat.not_le.2 hs_ (by rw [e_]; exact Zu.out)) (fun hs_ => fun e_ => Nat.not_le.2 hs_ (by rw [e_]; exact Zu.out))) (fun hn_ => (Kd.freshB (g := gb770) (o := .cells #[.slice A0_0 l0_0.length c0_0, .slice A0_1 l0_1.length c0_1, .slice A0_2 l0_2.length c0_2, .slice A0_3 l0_3.length c0_3] 26 (0, 0)) (zg_3 Za.out) k_ hn_))⟩)) (below_size (zg_2 HB.out Zb.out))); have n4_ := zm (blk_below (zg_3 Za.out) hb); have n5_ := zm (below_step (zg_2 HB.out Zb.out) hb); replace Zd := n0_; replace Zc := n1_; replace Zj := n2_; have Zw := n3_; replace Za := n4_; replace HB := n5_; clear n0_ n1_ n2_ n3_ n4_ n5_; (try clear hb); (try clear hb2); (try clear hk); (try clear hi); (try clear ho0); obtain ⟨Ao27, co27, eo27⟩ := Kd.N_slice Zw.out; subst eo27))
    go_loopg [6, 39] k1 (fun kq v6 v39 w' => ∃ (x6_2 : List (S77)) (x39_2 : Int), v39 = .int .i64 x39_2 ∧ Aside0 (impl_Image_updates.l1 kq x6_2 t787 (t787.length : Int) x39_2 l0_0 l0_1 l0_2 l0_3 = some r) ∧ Aside0 (kq ≤ k1) ∧ Aside0 (Kd.R k77 77 w' w.heap.size (fun _ => True) v6 x6_2) ∧ Aside0 (Kd.N (Kd.slice 3 (Kd.int .i64)) 23 w' w.heap.size (fun k_ => some k_ ≠ (v6 : Value).ownBlock ∧ k_ ≠ gb770) (.slice Ao27 t787.length co27) t787) ∧ Aside0 (w'.heap[gb770]? = some (.cells #[(.slice A0_0 l0_0.length c0_0), (.slice A0_1 l0_1.length c0_1), (.slice A0_2 l0_2.length c0_2), (.slice A0_3 l0_3.length c0_3)] 26 (0, 0))) ∧ Aside0 (Below w.heap.size w w'))
    case atStart => exact ⟨(y784), (0), zr, H', ⟨Nat.le_refl _⟩, ⟨zlR Zj.out⟩, ⟨by (with_reducible repeat (first | apply Kd.N_alloc | apply Kd.N_drewN | apply Kd.N_drew)); exact Kd.N_mono Zw.out (fun _ hk => ⟨hk.2.2.1, hk.2.2.2⟩)⟩, ⟨zl Za.out⟩, ⟨zg_2 HB.out Zb.out⟩⟩
    case round =>
     clear H'
     try clear c1
     try clear c2
     try clear p2
     try clear c5
     try clear p6
     try clear c7
     try clear p7
     try clear q7
     try clear hx7
     try clear c9
     try clear c10
     try clear c10b0
     try clear c11
     try clear c11b0
     try clear c12
     try clear c12b0
     try clear c14
     try clear hx777_0
     try clear p2
     try clear p777
     try clear q777
     obtain ⟨x6_2, x39_2, rfl, HA, HK2, Ze, Zh, Za, HB⟩ := hrel
     cases gk with
     | zero => exact absurd HA.out (by simp [impl_Image_updates.l1])
     | succ k2 =>
      have H := HA.out; clear HA
      simp only [impl_Image_updates.l1] at H
      by_cases c28 : x39_2 < (t787.length : Int)
      ·rw [if_pos c28] at H
       have c28b0 := decide_eq_true c28; clear c28
       by_cases c29 : 0 ≤ x39_2
       ·rw [if_pos c29] at H
        have c29b0 := decide_eq_true c29; clear c29
        by_cases c30 : x39_2 < (t787.length : Int)
        ·rw [if_pos c30] at H
         have c30b0 := decide_eq_true c30; clear c30; replace H := Option.bind_eq_some_iff.mp H
         obtain ⟨t791, A310, H⟩ := H
         try dsimp only at H
         have A31 := zm A310; clear A310
         by_cases c32 : x6_2.length < 5864062014805
         ·rw [if_pos c32] at H
          have LMc32 := zm c32; clear c32
          obtain ⟨y792, hy792⟩ : ∃ y_ : List (S77), y_ = (x6_2 ++ [(⟨wrap64 (11 + x39_2), t791⟩ : S77)]) := ⟨_, rfl⟩
          replace H : (impl_Image_updates.l1 k2 y792 t787 (t787.length : Int) (wrap64 (x39_2 + 1)) l0_0 l0_1 l0_2 l0_3) = some r := by first | (rw [hy792]; with_reducible exact H) | (have H2_ := (Option.bind_some _ _).symm.trans H; rw [hy792]; with_reducible exact H2_) | (have H2_ := (Option.bind_some _ _).symm.trans H; with_reducible exact H2_) | with_reducible exact H | (rw [hy792]; exact H) | exact H
          have Ny792 := zm hy792; clear hy792
          have H' := zm H
          clear H
          have p790 : 0 ≤ (x39_2 : Int) := zd
          have q790 : x39_2 < (t787.length : Int) := zd
          obtain ⟨ad790, A790_0, c790_0, e790, hx790_0, hl790_0, hi790_0⟩ := at_L3 (Kd.N_reads' Zh.out).2.2 x39_2 p790 q790
          cases e790
          obtain ⟨ce790, hce790, hMe790, hcc790⟩ := Kd.N_get Zh.out [] x39_2 p790 (by first | exact q790 | exact zd | (have e_ := (Kd.N_reads' Zh.out).1; omega))
          obtain ⟨ua790_0, uc790_0, rfl, ul790_0, ge790_0⟩ := Kd.FK_slice_open hMe790
          have hv790_0 := hcc790 0 _ rfl
          rw [Nat.add_zero, show ((Kd.slice 3 (Kd.int .i64))).sz = 1 from rfl, Nat.mul_one] at hv790_0
          replace hv790_0 := Option.some.inj (hv790_0.symm.trans hx790_0)
          injection hv790_0 with hva_ hvn_ hvc_
          rw [hva_] at ge790_0
          rw [hvc_] at ul790_0
          have Zf := zm (show Kd.V (Kd.int .i64) 3 _ w.heap.size _ _ (rd_L3 t787 x39_2) from Kd.V_mk ul790_0 ge790_0); clear hva_ hvn_ hvc_ ge790_0 ul790_0; clear hcc790 hce790; have Zg := zm hi790_0; have Zo := zm hl790_0; clear hi790_0 hl790_0; replace p790 := eq_true p790; replace q790 := eq_true q790
          go_wp2_with (first | ((with_reducible refine gate_callee (f := 98) rfl ?_); refine goesL_ (some 48) rfl rfl Tryz.func98 (by kernel_rfl) rfl #[.int .i64 3, .slice A790_0 (rd_L3 t787 x39_2).length c790_0] rfl zq ?_; (with_reducible refine (impl_seal.calls k2 3 _ _ (rd_L3 t787 x39_2) t791 _ ?side1 ?side2 A31.out).mono ?_); (case side1 => repeat (first | exact (by repeat (first | (with_reducible exact Zg.out) | (with_reducible refine Kd.C_alloc ?_ _) | (with_reducible refine Kd.C_drewN ?_ _) | (with_reducible refine Kd.C_drew ?_) | exact Zg.out)) | (with_reducible refine Kd.C_alloc ?_ _) | (with_reducible refine Kd.C_drewN ?_ _) | (with_reducible refine Kd.C_drew ?_))); (case side2 => exact Zo.out); rintro e w33 ⟨rfl, hb⟩; refine ⟨_, rfl, ?_⟩; have n0_ := zm (Kd.R_below (zg_6 Ze.out) hb); have n1_ := zm (Kd.N_below (zg_4 Zh.out) hb); have n2_ := zm (Kd.V_below (zg_0 Zf.out) hb); have n3_ := zm (blk_below (zg_3 Za.out) hb); have n4_ := zm (Kd.C_below (by repeat (first | (with_reducible exact Zg.out) | (with_reducible refine Kd.C_alloc ?_ _) | (with_reducible refine Kd.C_drewN ?_ _) | (with_reducible refine Kd.C_drew ?_) | exact Zg.out)) hb); have n5_ := zm (below_step (zg_2 HB.out Zb.out) hb); replace Ze := n0_; replace Zh := n1_; replace Zf := n2_; replace Za := n3_; replace Zg := n4_; replace HB := n5_; clear n0_ n1_ n2_ n3_ n4_ n5_; (try clear hb); (try clear hb2); (try clear hk); (try clear hi)) | ((with_reducible refine gate_builtin (b := .append) (xs := #[.tmp 44, .tmp 50]) rfl ?_); at_builtin; refine Kd.R_append k77 (w0 := w) w.heap.size rfl (.tmp 44) (.tmp 50) 49 77 (.agg #[(.int .i64 0), (.string ⟨#[]⟩)]) 24 rfl Tryz.underlying49 info77 rfl (by decide) (by omega) u6 x6_2 (⟨wrap64 (11 + x39_2), t791⟩ : S77) [.int .i64 (wrap64 (11 + x39_2)), .string t791] (fun _ => True) (fun _ => False) rfl rfl ?aP (fun _ hk => hk.elim) ?aF ?aO ?aB ?aS ?aL ?_; (case aP => exact k77_mkM _ _ _ (⟨wrap64 (11 + x39_2), t791⟩ : S77)); (case aB => exact (zg_2 HB.out Zb.out)); (case aF => exact (fun _ _ => trivial)); (case aO => exact (zg_6 Ze.out)); (case aS => exact (below_size (zg_2 HB.out Zb.out))); (case aL => have := LMc32.out; omega); intro v793 w34 ho hb hg hat; rw [← Ny792.out] at ho; have n0_ := zm (Kd.N_afterv (ok := (fun k_ => k_ ≠ gb770)) (by (with_reducible repeat (first | apply Kd.N_alloc | apply Kd.N_drewN | apply Kd.N_drew)); exact Kd.N_mono Zh.out (fun _ hk => ⟨hk.2, hk.1⟩)) hg hat); have n1_ := zm (blk_grown (zg_3 Za.out) hg (Kd.R_ne Ze.out Za.out (by decide))); have n2_ := zm (Kd.V_afterv (ok := (fun k_ => some k_ ≠ (.slice (some ad790) t787.length co27 : Value).ownBlock ∧ k_ ≠ gb770)) (by (with_reducible repeat (first | apply Kd.V_alloc | apply Kd.V_drewN | apply Kd.V_drew)); exact Kd.V_mono Zf.out (fun _ hk => ⟨⟨hk.2, hk.1.2⟩, hk.1.1⟩)) hg hat); have n3_ := zm (hb); have n4_ := zm (ho); clear Ze; replace Zh := n0_; replace Za := n1_; replace Zf := n2_; replace HB := n3_; have Zy := n4_; clear n0_ n1_ n2_ n3_ n4_; clear ho hb hg hat))
          go_roundg k2
          case measure => have := HK1.out; have := HK2.out; omega
          case rel => exact ⟨(y792), (wrap64 (x39_2 + 1)), zr, H', ⟨by have := HK1.out; have := HK2.out; omega⟩, ⟨zlR Zy.out⟩, ⟨by (with_reducible repeat (first | apply Kd.N_alloc | apply Kd.N_drewN | apply Kd.N_drew)); exact Kd.N_mono Zh.out (fun _ hk => ⟨hk.2, hk.1⟩)⟩, ⟨zl Za.out⟩, ⟨zg_2 HB.out Zb.out⟩⟩
         ·rw [if_neg c32] at H
          exact absurd H (by simp)
        ·rw [if_neg c30] at H
         exact absurd H (by simp)
       ·rw [if_neg c29] at H
        exact absurd H (by simp)
      ·rw [if_neg c28] at H
       have c28b0 := decide_eq_false c28; clear c28
       have H' := zm H
       clear H
       obtain ⟨hcz35_0, hcz35_1, hcz35_2, hcz35_3, hfz35_0, hfz35_1, hfz35_2, hfz35_3⟩ := zb4 Za.out
       go_wp2
       go_loopg [6, 56] k2 (fun kq v6 v56 w' => ∃ (x6_3 : List (S77)) (x56_3 : Int), v56 = .int .i64 x56_3 ∧ Aside0 (impl_Image_updates.l2 kq x6_3 l0_0 (l0_0.length : Int) x56_3 l0_0 l0_1 l0_2 l0_3 = some r) ∧ Aside0 (kq ≤ k2) ∧ Aside0 (Kd.R k77 77 w' w.heap.size (fun _ => True) v6 x6_3) ∧ Aside0 (w'.heap[gb770]? = some (.cells #[(.slice A0_0 l0_0.length c0_0), (.slice A0_1 l0_1.length c0_1), (.slice A0_2 l0_2.length c0_2), (.slice A0_3 l0_3.length c0_3)] 26 (0, 0))) ∧ Aside0 (Below w.heap.size w w'))
       case atStart => exact ⟨(x6_2), (0), zr, H', ⟨Nat.le_refl _⟩, ⟨zlR Ze.out⟩, ⟨zl Za.out⟩, ⟨zg_2 HB.out Zb.out⟩⟩
       case round =>
        clear H'
        try clear c1
        try clear c2
        try clear p2
        try clear c3
        try clear c5
        try clear p6
        try clear c7
        try clear p7
        try clear q7
        try clear hx7
        try clear c9
        try clear c10
        try clear c10b0
        try clear c11
        try clear c11b0
        try clear c12
        try clear c12b0
        try clear c14
        try clear c28
        try clear c28b0
        try clear c29
        try clear c29b0
        try clear c30
        try clear c30b0
        try clear c32
        try clear hx777_0
        try clear hx790_0
        try clear p2
        try clear p6
        try clear p7
        try clear p777
        try clear p790
        try clear q7
        try clear q777
        try clear q790
        obtain ⟨x6_3, x56_3, rfl, HA, HK3, Ze, Za, HB⟩ := hrel
        cases gk with
        | zero => exact absurd HA.out (by simp [impl_Image_updates.l2])
        | succ k3 =>
         have H := HA.out; clear HA
         simp only [impl_Image_updates.l2] at H
         by_cases c36 : x56_3 < (l0_0.length : Int)
         ·rw [if_pos c36] at H
          have c36b0 := decide_eq_true c36; clear c36
          by_cases c37 : 0 ≤ x56_3
          ·rw [if_pos c37] at H
           have c37b0 := decide_eq_true c37; clear c37
           by_cases c38 : x56_3 < (l0_0.length : Int)
           ·rw [if_pos c38] at H
            have c38b0 := decide_eq_true c38; clear c38
            by_cases c39 : (rd l0_0 x56_3) > 0
            ·rw [if_pos c39] at H
             have c39b0 := decide_eq_true c39; clear c39
             by_cases c40 : x56_3 < (l0_3.length : Int)
             ·rw [if_pos c40] at H
              have c40b0 := decide_eq_true c40; clear c40
              obtain ⟨y797, hy797⟩ : ∃ y_ : List Int, y_ = (([rd l0_3 x56_3] : List Int)) := ⟨_, rfl⟩
              replace H : ((impl_seal.f k3 4 y797).bind fun t800 => (if x6_3.length < 5864062014805 then (impl_Image_updates.l2 k3 (x6_3 ++ [(⟨wrap64 (15 + x56_3), t800⟩ : S77)]) l0_0 (l0_0.length : Int) (wrap64 (x56_3 + 1)) l0_0 l0_1 l0_2 l0_3) else (none))) = some r := by first | (rw [hy797]; with_reducible exact H) | (have H2_ := (Option.bind_some _ _).symm.trans H; rw [hy797]; with_reducible exact H2_) | (have H2_ := (Option.bind_some _ _).symm.trans H; with_reducible exact H2_) | with_reducible exact H | (rw [hy797]; exact H) | exact H
              have Ny797 := zm hy797; clear hy797; replace H := Option.bind_eq_some_iff.mp H
              obtain ⟨t800, A410, H⟩ := H
              try dsimp only at H
              have A41 := zm A410; clear A410
              by_cases c42 : x6_3.length < 5864062014805
              ·rw [if_pos c42] at H
               have LMc42 := zm c42; clear c42
               obtain ⟨y801, hy801⟩ : ∃ y_ : List (S77), y_ = (x6_3 ++ [(⟨wrap64 (15 + x56_3), t800⟩ : S77)]) := ⟨_, rfl⟩
               replace H : (impl_Image_updates.l2 k3 y801 l0_0 (l0_0.length : Int) (wrap64 (x56_3 + 1)) l0_0 l0_1 l0_2 l0_3) = some r := by first | (rw [hy801]; with_reducible exact H) | (have H2_ := (Option.bind_some _ _).symm.trans H; rw [hy801]; with_reducible exact H2_) | (have H2_ := (Option.bind_some _ _).symm.trans H; with_reducible exact H2_) | with_reducible exact H | (rw [hy801]; exact H) | exact H
               have Ny801 := zm hy801; clear hy801
               have H' := zm H
               clear H
               have p795 : 0 ≤ (x56_3 : Int) := zd
               have q795 : x56_3 < (l0_0.length : Int) := zd
               obtain ⟨ad795, e795, hx795_0⟩ := Kd.at_int Zk.out x56_3 p795 q795
               cases e795; replace hx795_0 := (HB.out.cell (World.block_lt_of_cell? w _ hx795_0)).trans hx795_0; replace p795 := eq_true p795; replace q795 := eq_true q795
               obtain ⟨hcz43_0, hcz43_1, hcz43_2, hcz43_3, hfz43_0, hfz43_1, hfz43_2, hfz43_3⟩ := zb4 Za.out
               have p796 : 0 ≤ (x56_3 : Int) := zd
               have q796 : x56_3 < (l0_3.length : Int) := zd
               obtain ⟨ad796, e796, hx796_0⟩ := Kd.at_int Zn.out x56_3 p796 q796
               cases e796; replace hx796_0 := (HB.out.cell (World.block_lt_of_cell? w _ hx796_0)).trans hx796_0; replace p796 := eq_true p796; replace q796 := eq_true q796
               go_wp2_with (first | ((with_reducible refine gate_dst (N := 71) rfl ?_); refine Kd.R_lit (Kd.int .i64) _ 3 ?hg (N := 71) ?hd (xs := ([rd l0_3 x56_3] : List Int)) (inner := [.int .i64 (rd l0_3 x56_3)]) (ok := fun _ => True) (okp := fun _ => True) ?hr ?hp (fun _ hk => hk) trivial (Below.refl _ _) (Nat.le_refl _) (by simp) ?_; (case hd => rfl); (case hg => rfl); (case hr => first | (go_simp; done) | (go_simp; rfl)); (case hp => exact (Reps.one (show Kd.M (Kd.int .i64) _ _ _ (rd l0_3 x56_3) [.int .i64 (rd l0_3 x56_3)] from rfl) (Reps.none _ _))); intro v798 w44 ho45 hb hg_ hnew_; clear hg_ hnew_; (first | rw [← Ny797.out] at ho45 | (simp only [Int.reduceToNat] at ho45; rw [← Ny797.out] at ho45)); have n0_ := zm (Kd.R_below (zg_6 Ze.out) hb); have n1_ := zm (Kd.R_lower ho45 (below_size (zg_2 HB.out Zb.out))); have n2_ := zm (blk_below (zg_3 Za.out) hb); have n3_ := zm (below_step (zg_2 HB.out Zb.out) hb); replace Ze := n0_; have Zi := n1_; replace Za := n2_; replace HB := n3_; clear n0_ n1_ n2_ n3_; clear hb ho45; obtain ⟨Ao46, co46, eo46⟩ := Kd.R_slice Zi.out; subst eo46) | ((with_reducible refine gate_callee (f := 98) rfl ?_); refine goesL_ (some 72) rfl rfl Tryz.func98 (by kernel_rfl) rfl #[.int .i64 4, .slice Ao46 y797.length co46] rfl zq ?_; (with_reducible refine (impl_seal.calls k3 4 _ _ y797 t800 _ ?side1 ?side2 A41.out).mono ?_); (case side1 => exact zC ((Kd.R_reads' Zi.out).2.2)); (case side2 => exact (Kd.R_reads' Zi.out).2.1); rintro e w47 ⟨rfl, hb⟩; refine ⟨_, rfl, ?_⟩; have n0_ := zm (Kd.R_below (zg_6 Ze.out) hb); have n1_ := zm (Kd.R_below (zg_6 Zi.out) hb); have n2_ := zm (blk_below (zg_3 Za.out) hb); have n3_ := zm (below_step (zg_2 HB.out Zb.out) hb); replace Ze := n0_; replace Zi := n1_; replace Za := n2_; replace HB := n3_; clear n0_ n1_ n2_ n3_; (try clear hb); (try clear hb2); (try clear hk); (try clear hi)) | ((with_reducible refine gate_builtin (b := .append) (xs := #[.tmp 63, .tmp 74]) rfl ?_); at_builtin; refine Kd.R_append k77 (w0 := w) w.heap.size rfl (.tmp 63) (.tmp 74) 49 77 (.agg #[(.int .i64 0), (.string ⟨#[]⟩)]) 24 rfl Tryz.underlying49 info77 rfl (by decide) (by omega) u6 x6_3 (⟨wrap64 (15 + x56_3), t800⟩ : S77) [.int .i64 (wrap64 (15 + x56_3)), .string t800] (fun _ => True) (fun _ => False) rfl rfl ?aP (fun _ hk => hk.elim) ?aF ?aO ?aB ?aS ?aL ?_; (case aP => exact k77_mkM _ _ _ (⟨wrap64 (15 + x56_3), t800⟩ : S77)); (case aB => exact (zg_2 HB.out Zb.out)); (case aF => exact (fun _ _ => trivial)); (case aO => exact (zg_6 Ze.out)); (case aS => exact (below_size (zg_2 HB.out Zb.out))); (case aL => have := LMc42.out; omega); intro v802 w48 ho hb hg hat; rw [← Ny801.out] at ho; have n0_ := zm (blk_grown (zg_3 Za.out) hg (Kd.R_ne Ze.out Za.out (by decide))); have n1_ := zm (Kd.R_over' (zg_6 Zi.out) (Kd.R_typed (zg_6 Ze.out)) (by decide) hg); have n2_ := zm (hb); have n3_ := zm (ho); clear Ze; replace Za := n0_; replace Zi := n1_; replace HB := n2_; have Zz := n3_; clear n0_ n1_ n2_ n3_; clear ho hb hg hat))
               go_roundg k3
               case measure => have := HK1.out; have := HK2.out; have := HK3.out; omega
               case rel => exact ⟨(y801), (wrap64 (x56_3 + 1)), zr, H', ⟨by have := HK1.out; have := HK2.out; have := HK3.out; omega⟩, ⟨zlR Zz.out⟩, ⟨zl Za.out⟩, ⟨zg_2 HB.out Zb.out⟩⟩
              ·rw [if_neg c42] at H
               exact absurd H (by simp)
             ·rw [if_neg c40] at H
              exact absurd H (by simp)
            ·rw [if_neg c39] at H
             have c39b0 := decide_eq_false c39; clear c39
             have H' := zm H
             clear H
             have p795 : 0 ≤ (x56_3 : Int) := zd
             have q795 : x56_3 < (l0_0.length : Int) := zd
             obtain ⟨ad795, e795, hx795_0⟩ := Kd.at_int Zk.out x56_3 p795 q795
             cases e795; replace hx795_0 := (HB.out.cell (World.block_lt_of_cell? w _ hx795_0)).trans hx795_0; replace p795 := eq_true p795; replace q795 := eq_true q795
             go_wp2
             go_roundg k3
             case measure => have := HK1.out; have := HK2.out; have := HK3.out; omega
             case rel => exact ⟨(x6_3), (wrap64 (x56_3 + 1)), zr, H', ⟨by have := HK1.out; have := HK2.out; have := HK3.out; omega⟩, ⟨zlR Ze.out⟩, ⟨zl Za.out⟩, ⟨zg_2 HB.out Zb.out⟩⟩
           ·rw [if_neg c38] at H
            exact absurd H (by simp)
          ·rw [if_neg c37] at H
           exact absurd H (by simp)
         ·rw [if_neg c36] at H
          have c36b0 := decide_eq_false c36; clear c36; obtain rfl := Option.some.inj H
          go_wp2
          go_ret
          exact ⟨_, ze, by (with_reducible repeat (first | apply Kd.R_alloc | apply Kd.R_drewN | apply Kd.R_drew)); exact Ze.out, zg_2 HB.out Zb.out⟩
section
attribute [local go_sem high] eqA77
def impl_Update_137.l0 : Nat → List (S77) → Int → Int → Int → ByteArray → Option (Int)
  | 0, _, _, _, _, _ => none
  | k + 1, x0, x7, x8, x102000, x102001 => if x8 < x7 then (if 0 ≤ x8 then (if x8 < (x0.length : Int) then (if (x102000 == ((rd_T77 x0 x8).f0) && (x102001.toList == (((rd_T77 x0 x8).f1).toList))) = true then (some x8) else (impl_Update_137.l0 k x0 x7 (wrap64 (x8 + 1)) x102000 x102001)) else (none)) else (none)) else (some (-1))
def impl_Update_137.f (k : Nat) (l0 : List (S77)) (a1_0 : Int) (a1_1 : ByteArray) : Option (Int) := impl_Update_137.l0 k l0 (l0.length : Int) 0 a1_0 a1_1
theorem impl_Update_137.mono_l : ∀ k, (∀ y0 y1 y2 y3 y4, LeO (impl_Update_137.l0 k y0 y1 y2 y3 y4) (impl_Update_137.l0 (k + 1) y0 y1 y2 y3 y4))
  | 0 => fun _ _ _ _ _ r h => by simp [impl_Update_137.l0] at h
  | k + 1 => by
    have ih0 := impl_Update_137.mono_l k
    · intro y0 y1 y2 y3 y4
      unfold impl_Update_137.l0
      repeat' first| (with_reducible first | exact ih0 _ _ _ _ _ | exact LeO.refl _ | exact LeO.none _ | refine LeO.ite ?_ ?_ | refine LeO.bind ?_ (fun _ => ?_)) | exact ih0 _ _ _ _ _ | exact LeO.none _ | refine LeO.ite ?_ ?_ | refine LeO.bind ?_ (fun _ => ?_)
theorem impl_Update_137.mono : ∀ a0 a1 a2 k, LeO (impl_Update_137.f k a0 a1 a2) (impl_Update_137.f (k + 1) a0 a1 a2) := by
  intro a0 a1 a2 k
  have ih0 := impl_Update_137.mono_l k
  unfold impl_Update_137.f
  repeat' first| (with_reducible first | exact ih0 _ _ _ _ _ | exact LeO.refl _ | exact LeO.none _ | refine LeO.ite ?_ ?_ | refine LeO.bind ?_ (fun _ => ?_)) | exact ih0 _ _ _ _ _ | exact LeO.none _ | refine LeO.ite ?_ ?_ | refine LeO.bind ?_ (fun _ => ?_)
set_option maxHeartbeats 8000000 in
set_option maxRecDepth 100000 in
theorem impl_Update_137.calls (k : Nat) (A0 : Option Addr) (c0 : Nat) (l0 : List (S77)) (a1_0 : Int) (a1_1 : ByteArray) (r : Int) (w : World) (hr0 : Kd.C k77 w A0 l0.length l0) (hc0 : l0.length ≤ c0) (h : impl_Update_137.f k l0 a1_0 a1_1 = some r) :
    Calls Tryz.prog 137 #[.slice A0 l0.length c0, .agg #[.int .i64 a1_0, .string a1_1]] w fun e w' => e = .returned (.int .i64 r) ∧ Below w.heap.size w w' := by
 have hu77 := Tryz.underlying77; have HR0 := zm hr0; have HC0 := zm hc0; clear hr0 hc0; have HB := zm (Below.refl w.heap.size w)
 have H : (impl_Update_137.l0 k l0 (l0.length : Int) 0 a1_0 a1_1) = some r := h
 clear h
 have H' := zm H
 clear H
 go_enter Tryz.func137, Tryz.ntmps137
 go_wp2_with (first | ((with_reducible refine gate_dst (N := 3) rfl ?_); refine box_event ?hg (N := 3) ?hd (cs := #[.int .i64 a1_0, .string a1_1]) (t := 77) ?hr ?_; (case hd => rfl); (case hg => rfl); (case hr => first | (go_simp; done) | (go_simp; rfl)); intro gb101 hg w3 hbox hb; have n0_ := zm (below_step (zg_1 HB.out) hb); have n1_ := zm (hbox); have n2_ := zm ((by rw [hg]; exact (below_size (zg_1 HB.out)) : w.heap.size ≤ gb101)); have n3_ := zm ((by rw [hg]; exact (below_size (zg_1 HB.out)) : w.heap.size ≤ gb101)); replace HB := n0_; have Za := n1_; have Zc := n2_; have Zb := n3_; clear n0_ n1_ n2_ n3_; clear hb hbox hg))
 repeat (go_quiet (first | ((with_reducible refine gate_dst (N := 3) rfl ?_); refine box_event ?hg (N := 3) ?hd (cs := #[.int .i64 a1_0, .string a1_1]) (t := 77) ?hr ?_; (case hd => rfl); (case hg => rfl); (case hr => first | (go_simp; done) | (go_simp; rfl)); intro gb101 hg w3 hbox hb; have n0_ := zm (below_step (zg_1 HB.out) hb); have n1_ := zm (hbox); have n2_ := zm ((by rw [hg]; exact (below_size (zg_1 HB.out)) : w.heap.size ≤ gb101)); have n3_ := zm ((by rw [hg]; exact (below_size (zg_1 HB.out)) : w.heap.size ≤ gb101)); replace HB := n0_; have Za := n1_; have Zc := n2_; have Zb := n3_; clear n0_ n1_ n2_ n3_; clear hb hbox hg)); try go_wp2_with (first | ((with_reducible refine gate_dst (N := 3) rfl ?_); refine box_event ?hg (N := 3) ?hd (cs := #[.int .i64 a1_0, .string a1_1]) (t := 77) ?hr ?_; (case hd => rfl); (case hg => rfl); (case hr => first | (go_simp; done) | (go_simp; rfl)); intro gb101 hg w3 hbox hb; have n0_ := zm (below_step (zg_1 HB.out) hb); have n1_ := zm (hbox); have n2_ := zm ((by rw [hg]; exact (below_size (zg_1 HB.out)) : w.heap.size ≤ gb101)); have n3_ := zm ((by rw [hg]; exact (below_size (zg_1 HB.out)) : w.heap.size ≤ gb101)); replace HB := n0_; have Za := n1_; have Zc := n2_; have Zb := n3_; clear n0_ n1_ n2_ n3_; clear hb hbox hg)))
 go_loopg [8] k (fun kq v8 w' => ∃ (x8_1 : Int), v8 = .int .i64 x8_1 ∧ Aside0 (impl_Update_137.l0 kq l0 (l0.length : Int) x8_1 a1_0 a1_1 = some r) ∧ Aside0 (kq ≤ k) ∧ Aside0 (w'.heap[gb101]? = some (.cells #[.int .i64 a1_0, .string a1_1] 77 (0, 0))) ∧ Aside0 (Below w.heap.size w w'))
 case atStart => exact ⟨(0), zr, H', ⟨Nat.le_refl _⟩, ⟨zl Za.out⟩, ⟨zg_2 HB.out Zb.out⟩⟩
 case round =>
  clear H'
  try clear c1
  try clear p2
  obtain ⟨x8_1, rfl, HA, HK1, Za, HB⟩ := hrel
  cases gk with
  | zero => exact absurd HA.out (by simp [impl_Update_137.l0])
  | succ k1 =>
   have H := HA.out; clear HA
   simp only [impl_Update_137.l0] at H
   by_cases c4 : x8_1 < (l0.length : Int)
   ·rw [if_pos c4] at H
    have c4b0 := decide_eq_true c4; clear c4
    by_cases c5 : 0 ≤ x8_1
    ·rw [if_pos c5] at H
     have c5b0 := decide_eq_true c5; clear c5
     by_cases c6 : x8_1 < (l0.length : Int)
     ·rw [if_pos c6] at H
      have c6b0 := decide_eq_true c6; clear c6
      by_cases c7 : (a1_0 == ((rd_T77 l0 x8_1).f0) && (a1_1.toList == (((rd_T77 l0 x8_1).f1).toList))) = true
      ·rw [if_pos c7] at H
       have c7b0 : (a1_0 == ((rd_T77 l0 x8_1).f0) && (a1_1.toList == (((rd_T77 l0 x8_1).f1).toList))) = true := c7
       (try (have c7b1 : decide (a1_0 = ((rd_T77 l0 x8_1).f0) && (a1_1.toList == (((rd_T77 l0 x8_1).f1).toList))) = true := by simpa using c7))
       (try (have c7b2 : (a1_0 == ((rd_T77 l0 x8_1).f0) && (a1_1.toList == (((rd_T77 l0 x8_1).f1).toList))) = true := by simpa using c7))
       clear c7; obtain rfl := Option.some.inj H
       obtain ⟨hcz8_0, hcz8_1, hfz8_0, hfz8_1⟩ := zb2 Za.out
       have p102 : 0 ≤ (x8_1 : Int) := zd
       have q102 : x8_1 < (l0.length : Int) := zd
       obtain ⟨ad102, e102, hx102_0, hx102_1⟩ := at_T77 HR0.out x8_1 p102 q102
       cases e102; replace hx102_0 := (HB.out.cell (World.block_lt_of_cell? w _ hx102_0)).trans hx102_0; replace hx102_1 := (HB.out.cell (World.block_lt_of_cell? w _ hx102_1)).trans hx102_1; replace p102 := eq_true p102; replace q102 := eq_true q102
       go_wp2
       repeat (go_quiet (fail); try go_wp2)
       go_ret
       exact ⟨ze, zg_2 HB.out Zb.out⟩
      ·rw [if_neg c7] at H
       have c7b0 : (a1_0 == ((rd_T77 l0 x8_1).f0) && (a1_1.toList == (((rd_T77 l0 x8_1).f1).toList))) = false := by simpa using c7
       (try (have c7b1 : decide (a1_0 = ((rd_T77 l0 x8_1).f0) && (a1_1.toList == (((rd_T77 l0 x8_1).f1).toList))) = false := by simpa using c7))
       (try (have c7b2 : (a1_0 == ((rd_T77 l0 x8_1).f0) && (a1_1.toList == (((rd_T77 l0 x8_1).f1).toList))) = false := by simpa using c7))
       (try (have c7b3 : ¬ (a1_0 = ((rd_T77 l0 x8_1).f0) && (a1_1.toList == (((rd_T77 l0 x8_1).f1).toList))) := by simpa using c7))
       clear c7
       have H' := zm H
       clear H
       obtain ⟨hcz9_0, hcz9_1, hfz9_0, hfz9_1⟩ := zb2 Za.out
       have p102 : 0 ≤ (x8_1 : Int) := zd
       have q102 : x8_1 < (l0.length : Int) := zd
       obtain ⟨ad102, e102, hx102_0, hx102_1⟩ := at_T77 HR0.out x8_1 p102 q102
       cases e102; replace hx102_0 := (HB.out.cell (World.block_lt_of_cell? w _ hx102_0)).trans hx102_0; replace hx102_1 := (HB.out.cell (World.block_lt_of_cell? w _ hx102_1)).trans hx102_1; replace p102 := eq_true p102; replace q102 := eq_true q102
       go_wp2
       repeat (go_quiet (fail); try go_wp2)
       go_roundg k1
       case measure => have := HK1.out; omega
       case rel => exact ⟨(wrap64 (x8_1 + 1)), zr, H', ⟨by have := HK1.out; omega⟩, ⟨zl Za.out⟩, ⟨zg_2 HB.out Zb.out⟩⟩
     ·rw [if_neg c6] at H
      exact absurd H (by simp)
    ·rw [if_neg c5] at H
     exact absurd H (by simp)
   ·rw [if_neg c4] at H
    have c4b0 := decide_eq_false c4; clear c4; obtain rfl := Option.some.inj H
    go_wp2
    repeat (go_quiet (fail); try go_wp2)
    go_ret
    exact ⟨ze, zg_2 HB.out Zb.out⟩
end
section
attribute [local go_sem high] eqA77
def impl_Update_102.f (k : Nat) (l0 : List (S77)) (a1_0 : Int) (a1_1 : ByteArray) : Option (Bool) := (impl_Update_137.f k l0 a1_0 a1_1).bind fun t104 => (some (decide (t104 ≥ 0)))
theorem impl_Update_102.mono : ∀ a0 a1 a2 k, LeO (impl_Update_102.f k a0 a1 a2) (impl_Update_102.f (k + 1) a0 a1 a2) := by
  intro a0 a1 a2 k
  unfold impl_Update_102.f
  repeat' first| (with_reducible first | exact impl_Update_137.mono _ _ _ _ | exact LeO.refl _ | exact LeO.none _ | refine LeO.ite ?_ ?_ | refine LeO.bind ?_ (fun _ => ?_)) | exact impl_Update_137.mono _ _ _ _ | exact LeO.none _ | refine LeO.ite ?_ ?_ | refine LeO.bind ?_ (fun _ => ?_)
set_option maxHeartbeats 8000000 in
set_option maxRecDepth 100000 in
theorem impl_Update_102.calls (k : Nat) (A0 : Option Addr) (c0 : Nat) (l0 : List (S77)) (a1_0 : Int) (a1_1 : ByteArray) (r : Bool) (w : World) (hr0 : Kd.C k77 w A0 l0.length l0) (hc0 : l0.length ≤ c0) (h : impl_Update_102.f k l0 a1_0 a1_1 = some r) :
    Calls Tryz.prog 102 #[.slice A0 l0.length c0, .agg #[.int .i64 a1_0, .string a1_1]] w fun e w' => e = .returned (.bool r) ∧ Below w.heap.size w w' := by
 have hu77 := Tryz.underlying77; have HR0 := zm hr0; have HC0 := zm hc0; clear hr0 hc0; have HB := zm (Below.refl w.heap.size w)
 have H : ((impl_Update_137.f k l0 a1_0 a1_1).bind fun t104 => (some (decide (t104 ≥ 0)))) = some r := h
 clear h; replace H := Option.bind_eq_some_iff.mp H
 obtain ⟨t104, A30, H⟩ := H
 replace H : (some (decide (t104 ≥ 0))) = some r := H
 have A3 := zm A30; clear A30; obtain rfl := Option.some.inj H
 go_enter Tryz.func102, Tryz.ntmps102
 go_wp2_with (first | ((with_reducible refine gate_dst (N := 3) rfl ?_); refine box_event ?hg (N := 3) ?hd (cs := #[.int .i64 a1_0, .string a1_1]) (t := 77) ?hr ?_; (case hd => rfl); (case hg => rfl); (case hr => first | (go_simp; done) | (go_simp; rfl)); intro gb103 hg w4 hbox hb; have n0_ := zm (below_step (zg_1 HB.out) hb); have n1_ := zm (hbox); have n2_ := zm ((by rw [hg]; exact (below_size (zg_1 HB.out)) : w.heap.size ≤ gb103)); have n3_ := zm ((by rw [hg]; exact (below_size (zg_1 HB.out)) : w.heap.size ≤ gb103)); replace HB := n0_; have BK103 := n1_; have GW103 := n2_; have GE103 := n3_; clear n0_ n1_ n2_ n3_; clear hb hbox hg; obtain ⟨hcz5_0, hcz5_1, hfz5_0, hfz5_1⟩ := zb2 BK103.out) | ((with_reducible refine gate_callee (f := 137) rfl ?_); refine goesL_ (some 7) rfl rfl Tryz.func137 (by kernel_rfl) rfl #[.slice A0 l0.length c0, .agg #[.int .i64 a1_0, .string a1_1]] rfl zq ?_; (with_reducible refine (impl_Update_137.calls k _ _ l0 a1_0 a1_1 t104 _ ?side1 ?side2 A3.out).mono ?_); (case side1 => exact zC (Kd.C_below HR0.out HB.out)); (case side2 => exact HC0.out); rintro e w6 ⟨rfl, hb⟩; refine ⟨_, rfl, ?_⟩; have n0_ := zm (blk_below (zg_3 BK103.out) hb); have n1_ := zm (below_step (zg_2 HB.out GE103.out) hb); replace BK103 := n0_; replace HB := n1_; clear n0_ n1_; (try clear hb); (try clear hb2); (try clear hk); (try clear hi)))
 go_ret
 exact ⟨ze, zg_2 HB.out GE103.out⟩
end
def impl_diff_go (p : S77 → Option Bool) : List S77 → Option (List S77)
  | [] => some []
  | x :: r => (p x).bind fun b => (impl_diff_go p r).bind fun q => some (if b = true then q else x :: q)
def impl_diff_idx (p : S77 → Option Bool) : List S77 → Nat → Option Int
  | [], _ => some (-1)
  | x :: r, i => (p x).bind fun b => if b = true then some (i : Int) else impl_diff_idx p r (i + 1)
theorem impl_diff_go_mono {p q : S77 → Option Bool} (h : ∀ x, LeO (p x) (q x)) : ∀ l, LeO (impl_diff_go p l) (impl_diff_go q l)
  | [] => LeO.refl _
  | x :: xs => LeO.bind (h x) fun b => LeO.bind (impl_diff_go_mono h xs) fun _ => LeO.refl _
theorem impl_diff_go_idx (p : S77 → Option Bool) : ∀ (l : List S77) (n : Nat) (out : List S77), impl_diff_go p l = some out →
    (impl_diff_idx p l n = some (-1) ∧ out = l) ∨ ∃ (i : Nat) (rest : List S77), i < l.length ∧ impl_diff_idx p l n = some (((n + i : Nat) : Int)) ∧ impl_diff_go p (l.drop (i + 1)) = some rest ∧ out = l.take i ++ rest := by
  intro l
  induction l with
  | nil =>
    intro n out h
    simp only [impl_diff_go, Option.some.injEq] at h
    exact .inl ⟨rfl, h.symm⟩
  | cons x r ih =>
    intro n out h
    simp only [impl_diff_go] at h
    obtain ⟨b, hst, h⟩ := Option.bind_eq_some_iff.mp h
    obtain ⟨o1, hgo, h⟩ := Option.bind_eq_some_iff.mp h
    simp only [Option.some.injEq] at h
    subst h
    cases b with
    | true =>
      refine .inr ⟨0, o1, by simp, ?_, by simpa using hgo, by simp⟩
      simp only [impl_diff_idx, hst, Option.bind_some, if_true, Nat.add_zero]
    | false =>
      rcases ih (n + 1) o1 hgo with ⟨h1, h2⟩ | ⟨i, rest, h1, h2, h3, h4⟩
      · refine .inl ⟨?_, by simp [h2]⟩
        simp only [impl_diff_idx, hst, Option.bind_some, Bool.false_eq_true, if_false]
        exact h1
      · refine .inr ⟨i + 1, rest, by simp; omega, ?_, by simpa using h3, by simp [h4]⟩
        simp only [impl_diff_idx, hst, Option.bind_some, Bool.false_eq_true, if_false]
        rw [h2]; congr 1; omega
/-- What is known of a function that asks something of an element: it answers p, and leaves what lies below w0 as it is. -/
def impl_diff_asks (w0 : World) (cap : Array Value) (p : S77 → Option Bool) : Prop := ∀ (W : World) (x : S77) (b : Bool), Below w0.heap.size w0 W → p x = some b → Calls Tryz.prog 101 (#[.agg #[.int .i64 x.f0, .string x.f1]] ++ cap) W fun e W' => e = .returned (.bool b) ∧ Below W.heap.size W W'
set_option maxHeartbeats 4000000 in
set_option maxRecDepth 100000 in
theorem impl_diff_index {w0 W : World} {cap : Array Value} {p : S77 → Option Bool} {v : Value} {pend : List S77} (AS : impl_diff_asks w0 cap p) (hB : Below w0.heap.size w0 W) {base : Nat} {ok : Nat → Prop}
    (RP : Kd.R k77 77 W base ok v pend) (hl : pend.length ≤ 1000000000) (r : Int) (h : impl_diff_idx p pend 0 = some r) :
    Calls Tryz.prog 136 #[v, .func (.func 101) #[] cap] W fun e W' => e = .returned (.int .i64 r) ∧ Below W.heap.size W W' := by
  obtain ⟨Ao, co, rfl⟩ := Kd.R_slice RP
  have PP := zm RP; have ASK := zm AS; have HB := zm hB; have HW := zm (Below.refl W.heap.size W); have H := zm h; have HL := zm hl; clear RP AS hB h hl
  go_enter Tryz.func136, Tryz.ntmps136
  go_wp2
  go_loopg [8] pend.length (fun kq v8 w' => ∃ (x : Int), v8 = .int .i64 x ∧ Aside0 (0 ≤ x ∧ x.toNat ≤ pend.length ∧ kq = pend.length - x.toNat) ∧ Aside0 (impl_diff_idx p (pend.drop x.toNat) x.toNat = some r) ∧ Aside0 (Below W.heap.size W w'))
  case atStart => exact ⟨0, rfl, ⟨by omega, by omega, by simp⟩, ⟨by rw [show (0 : Int).toNat = 0 from rfl, List.drop_zero]; exact H.out⟩, HW⟩
  case round =>
    try clear c1
    try clear p2
    clear HW H
    obtain ⟨x, rfl, HM, H, HW⟩ := hrel
    by_cases hc : x < (pend.length : Int)
    · have hd : decide (x < (pend.length : Int)) = true := decide_eq_true hc
      have hlt : x.toNat < pend.length := by have := HM.out; omega
      have h0x : 0 ≤ x := HM.out.1
      have h := H.out
      rw [List.drop_eq_getElem_cons hlt] at h
      simp only [impl_diff_idx] at h
      have h2 := Option.bind_eq_some_iff.mp h; clear h
      obtain ⟨b, hst, h⟩ := h2
      have PQ := zm (Kd.R_below PP.out HW.out)
      obtain ⟨gp, cp, ep, _, _, _, _⟩ := Kd.R_form PQ.out (by omega)
      (first | cases ep | (injection ep with ea_ en_ ec_; (first | subst ea_ | (injection ea_ with ea_; subst ea_)); subst ec_; clear en_))
      obtain ⟨ce, hcl, hM, hcc, hfr⟩ := Kd.R_elem PQ.out z77 x h0x hc
      obtain rfl := k77_openM hM
      have hx0 : wr.cell? ⟨gp, x.toNat * 2, none⟩ = some (.int .i64 (rd_T77 pend x).f0) := hcc 0 _ rfl
      have hx1 : wr.cell? ⟨gp, x.toNat * 2 + 1, none⟩ = some (.string (rd_T77 pend x).f1) := hcc 1 _ rfl
      clear hcl hM hcc hfr
      have hr0 : rd_T77 pend x = pend[x.toNat] := by simp [rd_T77, hlt]
      have ST := zm (show p (rd_T77 pend x) = some b from by rw [hr0]; exact hst); have HT := zm hlt; have HH := zm h
      have WN : Aside0 (wrap64 (x + 1) = x + 1) := ⟨by unfold wrap64; have := HL.out; omega⟩
      have HC := zm hc; have p0 := eq_true h0x; have p1 := eq_true hc
      have d0 : decide (0 ≤ x) = true := decide_eq_true h0x
      clear h hst hr0 hlt H h0x hc
      cases b with
      | true =>
        go_wp2_with (first
          | ((with_reducible refine gate_dst (N := 16) rfl ?_); refine goesV (some 16) rfl rfl Tryz.func101 (by kernel_rfl) rfl (#[.agg #[.int .i64 (rd_T77 pend x).f0, .string (rd_T77 pend x).f1]] ++ cap) rfl (cap := cap) ?hx ?hargs ?_; (case hx => rfl); (case hargs => simp [Act.eval]); refine (ASK.out wr (rd_T77 pend x) true (below_step HB.out HW.out) ST.out).mono ?_; rintro e w2 ⟨rfl, hb⟩; refine ⟨_, rfl, ?_⟩; have HW2 := zm (below_step HW.out hb); clear hb hx0 hx1))
        have h := HH.out
        simp only [if_true, Option.some.injEq] at h
        have e2 : x = r := by have := HM.out; omega
        subst e2
        go_ret
        exact ⟨rfl, HW2.out⟩
      | false =>
        go_wp2_with (first
          | ((with_reducible refine gate_dst (N := 16) rfl ?_); refine goesV (some 16) rfl rfl Tryz.func101 (by kernel_rfl) rfl (#[.agg #[.int .i64 (rd_T77 pend x).f0, .string (rd_T77 pend x).f1]] ++ cap) rfl (cap := cap) ?hx ?hargs ?_; (case hx => rfl); (case hargs => simp [Act.eval]); refine (ASK.out wr (rd_T77 pend x) false (below_step HB.out HW.out) ST.out).mono ?_; rintro e w2 ⟨rfl, hb⟩; refine ⟨_, rfl, ?_⟩; have HW2 := zm (below_step HW.out hb); clear hb hx0 hx1))
        go_roundg (pend.length - (x + 1).toNat)
        case measure => have := HM.out; have := HT.out; omega
        case rel => exact ⟨x + 1, by rw [WN.out], ⟨by have := HM.out; omega, by have := HM.out; have := HT.out; omega, rfl⟩, ⟨by have h := HH.out; simp only [Bool.false_eq_true, if_false] at h; rw [show (x + 1).toNat = x.toNat + 1 from by have := HM.out; omega]; exact h⟩, HW2⟩
    · have hd : decide (x < (pend.length : Int)) = false := decide_eq_false hc
      have e : pend.drop x.toNat = [] := List.drop_of_length_le (by omega)
      have h := H.out
      rw [e] at h
      simp only [impl_diff_idx, Option.some.injEq] at h
      subst h; clear e hc H
      go_wp2
      go_ret
      exact ⟨rfl, HW.out⟩
theorem impl_diff_blk {g : Nat} {t : TypeId} : ∀ (vs : List Value) (o : Nat) {w : World} {cs : Array Value}, w.heap[g]? = some (.cells cs t (0, 0)) → ∃ cs', (w.setCells g o vs).heap[g]? = some (.cells cs' t (0, 0)) ∧ cs'.size = cs.size ∧ ∀ j, j < o → cs'[j]? = cs[j]? := by
  intro vs
  induction vs with
  | nil => intro o w cs h; exact ⟨cs, h, rfl, fun _ _ => rfl⟩
  | cons v r ih =>
    intro o w cs h
    obtain ⟨cs', h1, h2, h3⟩ := ih (o + 1) (blk_set h o v)
    refine ⟨cs', h1, by rw [h2, Array.size_setIfInBounds], fun j hj => ?_⟩
    rw [h3 j (by omega)]
    exact Array.getElem?_setIfInBounds_ne (by omega)
theorem impl_diff_cut {W : World} {base gp i cap : Nat} {ok : Nat → Prop} {xs : List S77} (h : Kd.R k77 77 W base ok (.slice (some ⟨gp, 0, none⟩) i cap) xs) (vs : List Value) (o : Nat) (ho : i * 2 ≤ o) : Kd.R k77 77 (W.setCells gp o vs) base ok (.slice (some ⟨gp, 0, none⟩) i cap) xs := by
  have hn := (Kd.R_reads' h).1
  obtain ⟨h0, inner, ⟨hl, ho'⟩, hr⟩ := h
  refine ⟨h0, inner, ⟨hl, ?_⟩, hr.imp_ (fun p c hp => by obtain rfl := k77_openM hp; exact k77_mkM _ _ _ p)⟩
  rcases ho' with ⟨e, _⟩ | ⟨g, cap', cur, e, hb, hh, h1, h2, h3, h4⟩
  · cases e
  · injection e with e1 e2 e3
    injection e1 with e1
    injection e1 with e1
    subst e1 e3
    obtain ⟨cs', q1, q2, q3⟩ := impl_diff_blk vs o hh
    refine .inr ⟨gp, _, cs', by rw [hn], hb, q1, h1, h2, q2.trans h3, ?_⟩
    rw [← h4]
    refine List.ext_getElem? (fun j => ?_)
    rw [List.getElem?_take, List.getElem?_take]
    by_cases c : j < xs.length * (k77).sz
    · rw [if_pos c, if_pos c, Array.getElem?_toList, Array.getElem?_toList]
      exact q3 j (Nat.lt_of_lt_of_le c (by rw [← hn]; exact ho))
    · rw [if_neg c, if_neg c]
theorem impl_diff_bel {g : Nat} {w0 : World} (hg : w0.heap.size ≤ g) : ∀ (vs : List Value) (o : Nat) (w : World), Below w0.heap.size w0 w → Below w0.heap.size w0 (w.setCells g o vs) := by
  intro vs
  induction vs with
  | nil => intro o w h; exact h
  | cons v r ih => intro o w h; exact ih (o + 1) _ (below_set h hg)
/-- clear of the rest of a row: some cells from there on are written. -/
theorem impl_diff_clear {W : World} {base gp n cap : Nat} {ok : Nat → Prop} {xs : List S77} (h : Kd.R k77 77 W base ok (.slice (some ⟨gp, 0, none⟩) n cap) xs) (a : Nat) (ha : a < n) (cc : Nat) (ty : TypeId) :
    ∃ vs, (Builtin.clear_ #[49] ty #[.slice (some ⟨gp, a * 2, none⟩) (n - a) cc]).run Tryz.prog W = .ok (.tuple #[]) (W.setCells gp (a * 2) vs) := by
  have hz : ∀ w, (zeroValue 77).run Tryz.prog w = .ok (.agg #[.int .i64 0, .string ⟨#[]⟩]) w := Tryz.zeroValue77
  obtain ⟨m, hm⟩ : ∃ m, n - a = m + 1 := ⟨n - a - 1, by omega⟩
  refine ⟨(Builtin.zeroCells (Value.agg #[.int .i64 0, .string ⟨#[]⟩]).cells (n - a)).toList, ?_⟩
  have hlen : (Builtin.zeroCells (Value.agg #[.int .i64 0, .string ⟨#[]⟩]).cells (n - a)).toList.length = (n - a) * 2 := by simp [Builtin.zeroCells, Value.cells]
  have hn := (Kd.R_reads' h).1
  have hst := run_storeCells_cells (P := Tryz.prog) gp (a * 2) (Builtin.zeroCells (Value.agg #[.int .i64 0, .string ⟨#[]⟩]).cells (n - a)).toList 0 W (by
    intro j hj
    rw [hlen] at hj
    obtain ⟨c, hcl, hM, hcc, hfr⟩ := Kd.R_elem h z77 ((a + j / 2 : Nat) : Int) (by omega) (by omega)
    have hj3 : j % 2 < c.length := by rw [hcl]; exact Nat.mod_lt _ (by decide)
    have := hcc (j % 2) _ (List.getElem?_eq_getElem hj3)
    rw [Int.toNat_natCast] at this
    have e : a * 2 + 0 + j = (a + j / 2) * (k77).sz + j % 2 := by show a * 2 + 0 + j = (a + j / 2) * 2 + j % 2; omega
    rw [e, this]; rfl) (by
    intro j hj
    rw [hlen] at hj
    obtain ⟨c, hcl, hM, hcc, hfr⟩ := Kd.R_elem h z77 ((a + j / 2 : Nat) : Int) (by omega) (by omega)
    have := hfr (j % 2)
    rw [Int.toNat_natCast] at this
    have e : a * 2 + 0 + j = (a + j / 2) * (k77).sz + j % 2 := by show a * 2 + 0 + j = (a + j / 2) * 2 + j % 2; omega
    rw [e]; exact this) (by
    intro v hv
    simp only [Builtin.zeroCells, Array.toList_map, List.mem_map] at hv
    obtain ⟨q, _, rfl⟩ := hv
    have hq : q % 2 < 2 := Nat.mod_lt _ (by decide)
    show ((#[.int .i64 0, .string ⟨#[]⟩] : Array Value)[q % 2]!).oneCell' = true
    rcases (show q % 2 = 0 ∨ q % 2 = 1 by omega) with e | e <;> rw [e] <;> rfl)
  simp only [Nat.add_zero] at hst
  rw [hm] at hst ⊢
  simp [Builtin.clear_, run_underlying Tryz.underlying49, hz, hst]
set_option maxHeartbeats 8000000 in
set_option maxRecDepth 100000 in
theorem impl_diff_delete {w0 W : World} {cap : Array Value} {p : S77 → Option Bool} {v : Value} {pend : List S77} (AS : impl_diff_asks w0 cap p) (hB : Below w0.heap.size w0 W) (RP : Kd.R k77 77 W w0.heap.size (fun _ => True) v pend) (hl : pend.length ≤ 1000000000) (out : List S77) (h : impl_diff_go p pend = some out) :
    Calls Tryz.prog 100 #[v, .func (.func 101) #[] cap] W fun e W' => ∃ v', e = .returned v' ∧ Kd.R k77 77 W' w0.heap.size (fun _ => True) v' out ∧ Below w0.heap.size w0 W' := by
  have hu77 := Tryz.underlying77; have hidx := impl_diff_index AS hB RP hl; have PP := zm RP; have ASK := zm AS; have HB := zm hB; have HL := zm hl
  obtain ⟨Ao, co, rfl⟩ := Kd.R_slice RP
  rcases impl_diff_go_idx p pend 0 out h with ⟨h1, rfl⟩ | ⟨i0, rest0, h1, h2, h3, rfl⟩
  · have HX := zm (hidx (-1) h1)
    clear AS hB RP hl hidx h h1
    go_enter Tryz.func100, Tryz.ntmps100
    go_wp2_with (first
      | ((with_reducible refine gate_callee (f := 136) rfl ?_); refine goesL_ (some 10) rfl rfl Tryz.func136 (by kernel_rfl) rfl #[.slice Ao out.length co, .func (.func 101) #[] cap] rfl (by (try simp only [List.map_toArray, List.map_cons, List.map_nil]); first | done | rfl) ?_; refine HX.out.mono ?_; rintro e w2 ⟨rfl, hb⟩; refine ⟨_, rfl, ?_⟩; have HB2 := zm (below_step HB.out hb); have P2 := zm (Kd.R_below PP.out hb); clear hb))
    go_ret
    exact ⟨_, rfl, P2.out, HB2.out⟩
  · have HX := zm (hidx _ h2)
    have H3 := zm h3; have H1 := zm h1; clear AS hB RP hl hidx h h1 h2 h3
    obtain ⟨gp, cp, ep, gb1, _, gc1, _⟩ := Kd.R_form PP.out (by have := H1.out; omega)
    (first | cases ep | (injection ep with ea_ en_ ec_; (first | subst ea_ | (injection ea_ with ea_; subst ea_)); subst ec_; clear en_))
    have GP := zm gb1
    have NE : ((((0 + i0 : Nat) : Int)) == -1) = false := beq_eq_false_iff_ne.2 (by omega)
    have NE2 : decide ((((0 + i0 : Nat) : Int)) = -1) = false := decide_eq_false (by omega)
    clear gb1
    go_enter Tryz.func100, Tryz.ntmps100
    go_wp2_with (first
      | ((with_reducible refine gate_callee (f := 136) rfl ?_); refine goesL_ (some 10) rfl rfl Tryz.func136 (by kernel_rfl) rfl #[.slice (some ⟨gp, 0, none⟩) pend.length co, .func (.func 101) #[] cap] rfl (by (try simp only [List.map_toArray, List.map_cons, List.map_nil]); first | done | rfl) ?_; refine HX.out.mono ?_; rintro e w2 ⟨rfl, hb⟩; refine ⟨_, rfl, ?_⟩; have HB2 := zm (below_step HB.out hb); have P2 := zm (Kd.R_below PP.out hb); clear hb))
    go_loopg [5, 6] pend.length (fun kq v5 v6 w' => ∃ (a j : Int) (dk rest : List S77), v5 = .int .i64 a ∧ v6 = .int .i64 j ∧ Aside0 (0 ≤ a ∧ a < j ∧ j.toNat ≤ pend.length ∧ pend.length - j.toNat ≤ kq ∧ dk.length = pend.length) ∧ Aside0 (pend.take i0 ++ rest0 = dk.take a.toNat ++ rest ∧ dk.drop j.toNat = pend.drop j.toNat) ∧ Aside0 (impl_diff_go p (pend.drop j.toNat) = some rest) ∧ Aside0 (Kd.R k77 77 w' w0.heap.size (fun _ => True) (.slice (some ⟨gp, 0, none⟩) pend.length co) dk) ∧ Aside0 (Below w0.heap.size w0 w'))
    case atStart =>
      have h1 := H1.out; have hL := HL.out
      refine ⟨(i0 : Int), ((i0 + 1 : Nat) : Int), pend, rest0, by simp, ?_, ⟨by omega, by omega, by omega, ?_, rfl⟩, ⟨by simp, rfl⟩, ⟨by simpa using H3.out⟩, P2, HB2⟩
      · have e : wrap64 ((((0 + i0 : Nat) : Int)) + 1) = ((i0 + 1 : Nat) : Int) := by unfold wrap64; omega
        first | rw [e] | (simp only [Nat.zero_add] at e; rw [e]) | simp [e]
      · omega
    case round =>
      try clear c1
      try clear p2
      clear HX PP H3 P2 HB2 HB
      obtain ⟨a, j, dk, rest, rfl, rfl, HM, HO, HGo, HR, HB⟩ := hrel
      by_cases hj : j < (pend.length : Int)
      · have hd : decide (j < (pend.length : Int)) = true := decide_eq_true hj
        have h0j : 0 ≤ j := by have := HM.out; omega
        have hjp : j.toNat < pend.length := by omega
        have hjd : j.toNat < dk.length := by have := HM.out; omega
        have he : dk[j.toNat] = pend[j.toNat] ∧ dk.drop (j.toNat + 1) = pend.drop (j.toNat + 1) := by
          have := HO.out.2
          rw [List.drop_eq_getElem_cons hjd, List.drop_eq_getElem_cons hjp] at this
          injection this with e1 e2
          exact ⟨e1, e2⟩
        have h := HGo.out
        rw [List.drop_eq_getElem_cons hjp] at h
        simp only [impl_diff_go] at h
        have hh := Option.bind_eq_some_iff.mp h; clear h
        obtain ⟨b, hst, hh⟩ := hh
        have hh2 := Option.bind_eq_some_iff.mp hh; clear hh
        obtain ⟨o1, hgo, hh⟩ := hh2
        simp only [Option.some.injEq] at hh
        have hrest := hh; clear hh
        obtain ⟨ce, hcl, hM, hcc, hfr⟩ := Kd.R_elem HR.out z77 j h0j hj
        obtain rfl := k77_openM hM
        obtain ⟨x, hx⟩ : ∃ x, x = rd_T77 dk j := ⟨_, rfl⟩
        have hxp : x = pend[j.toNat] := by rw [hx, ← he.1]; simp [rd_T77, hjd]
        have hx0 : wr.cell? ⟨gp, j.toNat * 2, none⟩ = some (.int .i64 x.f0) := by rw [hx]; exact hcc 0 _ rfl
        have hx1 : wr.cell? ⟨gp, j.toNat * 2 + 1, none⟩ = some (.string x.f1) := by rw [hx]; exact hcc 1 _ rfl
        clear hcl hM hcc hfr hx; have ST := zm (show p x = some b from by rw [hxp]; exact hst); have RS := zm (show rest = if b = true then o1 else x :: o1 from by rw [hxp]; exact hrest.symm); have GO := zm hgo; have HE := zm he.2; have HJ := zm hj; have A0 := zm (show 0 ≤ a from HM.out.1); have A1 := zm (show a < (pend.length : Int) from by have := HM.out; omega)
        have WJ : Aside0 (wrap64 (j + 1) = j + 1) := ⟨by unfold wrap64; have := HL.out; omega⟩
        have WA : Aside0 (wrap64 (a + 1) = a + 1) := ⟨by unfold wrap64; have := HL.out; have := HM.out; omega⟩
        have p0 := eq_true h0j; have p1 := eq_true hj; have p3 := eq_true A0.out; have p4 := eq_true A1.out; clear h0j hj hjd he hst hrest hgo hxp hjp HGo
        cases b with
        | true =>
          go_wp2_with (first
            | ((with_reducible refine gate_dst (N := 7) rfl ?_); refine box_event ?hg (N := 7) ?hd (cs := #[.int .i64 0, .string ⟨#[]⟩]) (t := 77) ?hr ?_; (case hd => rfl); (case hg => rfl); (case hr => first | (go_simp; done) | (go_simp; rfl)); intro gb hgb w4 hbox hb; have BK := zm hbox; have R4 := zm (Kd.R_below (Kd.R_elderB HR.out gb (by rw [hgb]; exact Nat.le_refl _)) hb); have B4 := zm (below_step HB.out hb); have GE := zm (show w0.heap.size ≤ gb from by rw [hgb]; exact HB.out.size); clear hb hbox hgb HR HB; have hz0 : w4.cell? ⟨gb, 0, none⟩ = some (.int .i64 0) := (blk_cell BK.out 0).trans rfl; have hz1 : w4.cell? ⟨gb, 1, none⟩ = some (.string ⟨#[]⟩) := (blk_cell BK.out 1).trans rfl; have hf0 := blk_frozen BK.out 0; have hf1 := blk_frozen BK.out 1)
            | ((with_reducible refine gate_store (t := 77) (p := 7) rfl ?_); refine store_event (t := 77) (p := 7) (v := ?vo1) (w1 := ((w4.setCell ⟨gb, 0, none⟩ (.int .i64 x.f0)).setCell ⟨gb, 1, none⟩ (.string x.f1))) ?hg ?ho ?hn ?hr ?_; (case ho => rfl); (case hg => rfl); (case hn => rfl); (case hr => first | (go_simp; done) | (go_simp; rfl)); intro w5 hw; have BB := zm (show w5.heap[gb]? = some (.cells #[.int .i64 x.f0, .string x.f1] 77 (0, 0)) from by rw [hw]; exact blk_set (blk_set BK.out 0 _) 1 _); have K45 := (show Kept w4 w5 (fun k_ => k_ = gb) from by rw [hw]; exact Kept.setCell (Kept.setCell (Kept.refl w4 (fun k_ => k_ = gb)) (p := ⟨gb, 0, none⟩) (.inl rfl) _) (p := ⟨gb, 1, none⟩) (.inl rfl) _); have R5 := zm (Kd.R_kept R4.out K45 (fun _ h_ e_ => h_.2 e_)); have B5 := zm (show Below w0.heap.size w0 w5 from by rw [hw]; exact below_set (below_set B4.out GE.out) GE.out); clear hw K45 R4 B4 BK GE hz0 hz1 hf0 hf1; have hb0 : w5.cell? ⟨gb, 0, none⟩ = some (.int .i64 x.f0) := (blk_cell BB.out 0).trans rfl; have hb1 : w5.cell? ⟨gb, 1, none⟩ = some (.string x.f1) := (blk_cell BB.out 1).trans rfl)
            | ((with_reducible refine gate_dst (N := 28) rfl ?_); refine goesV (some 28) rfl rfl Tryz.func101 (by kernel_rfl) rfl (#[.agg #[.int .i64 x.f0, .string x.f1]] ++ cap) rfl (cap := cap) ?hx ?hargs ?_; (case hx => rfl); (case hargs => simp [Act.eval]); refine (ASK.out w5 x true B5.out ST.out).mono ?_; rintro e w6 ⟨rfl, hb⟩; refine ⟨_, rfl, ?_⟩; have R6 := zm (Kd.R_below R5.out hb); have B6 := zm (below_step B5.out hb); clear hb BB R5 B5 hb0 hb1))
          go_roundg (pend.length - (j + 1).toNat)
          case measure => have := HM.out; have := HJ.out; omega
          case rel =>
            have hm := HM.out; have hjl := HJ.out
            refine ⟨a, j + 1, dk, o1, rfl, by rw [WJ.out], ⟨hm.1, by omega, by omega, Nat.le_refl _, hm.2.2.2.2⟩, ⟨by rw [HO.out.1, RS.out]; simp, by rw [show (j + 1).toNat = j.toNat + 1 by omega]; exact HE.out⟩, ⟨by rw [show (j + 1).toNat = j.toNat + 1 by omega]; exact GO.out⟩, ⟨Kd.R_mono R6.out (fun _ _ => trivial)⟩, B6⟩
        | false =>
          go_wp2_with (first
            | ((with_reducible refine gate_dst (N := 7) rfl ?_); refine box_event ?hg (N := 7) ?hd (cs := #[.int .i64 0, .string ⟨#[]⟩]) (t := 77) ?hr ?_; (case hd => rfl); (case hg => rfl); (case hr => first | (go_simp; done) | (go_simp; rfl)); intro gb hgb w4 hbox hb; have BK := zm hbox; have R4 := zm (Kd.R_below (Kd.R_elderB HR.out gb (by rw [hgb]; exact Nat.le_refl _)) hb); have B4 := zm (below_step HB.out hb); have GE := zm (show w0.heap.size ≤ gb from by rw [hgb]; exact HB.out.size); clear hb hbox hgb HR HB; have hz0 : w4.cell? ⟨gb, 0, none⟩ = some (.int .i64 0) := (blk_cell BK.out 0).trans rfl; have hz1 : w4.cell? ⟨gb, 1, none⟩ = some (.string ⟨#[]⟩) := (blk_cell BK.out 1).trans rfl; have hf0 := blk_frozen BK.out 0; have hf1 := blk_frozen BK.out 1)
            | ((with_reducible refine gate_store (t := 77) (p := 7) rfl ?_); refine store_event (t := 77) (p := 7) (v := ?vo1) (w1 := ((w4.setCell ⟨gb, 0, none⟩ (.int .i64 x.f0)).setCell ⟨gb, 1, none⟩ (.string x.f1))) ?hg ?ho ?hn ?hr ?_; (case ho => rfl); (case hg => rfl); (case hn => rfl); (case hr => first | (go_simp; done) | (go_simp; rfl)); intro w5 hw; have BB := zm (show w5.heap[gb]? = some (.cells #[.int .i64 x.f0, .string x.f1] 77 (0, 0)) from by rw [hw]; exact blk_set (blk_set BK.out 0 _) 1 _); have K45 := (show Kept w4 w5 (fun k_ => k_ = gb) from by rw [hw]; exact Kept.setCell (Kept.setCell (Kept.refl w4 (fun k_ => k_ = gb)) (p := ⟨gb, 0, none⟩) (.inl rfl) _) (p := ⟨gb, 1, none⟩) (.inl rfl) _); have R5 := zm (Kd.R_kept R4.out K45 (fun _ h_ e_ => h_.2 e_)); have B5 := zm (show Below w0.heap.size w0 w5 from by rw [hw]; exact below_set (below_set B4.out GE.out) GE.out); clear hw K45 R4 B4 BK GE hz0 hz1 hf0 hf1; have hb0 : w5.cell? ⟨gb, 0, none⟩ = some (.int .i64 x.f0) := (blk_cell BB.out 0).trans rfl; have hb1 : w5.cell? ⟨gb, 1, none⟩ = some (.string x.f1) := (blk_cell BB.out 1).trans rfl)
            | ((with_reducible refine gate_dst (N := 28) rfl ?_); refine goesV (some 28) rfl rfl Tryz.func101 (by kernel_rfl) rfl (#[.agg #[.int .i64 x.f0, .string x.f1]] ++ cap) rfl (cap := cap) ?hx ?hargs ?_; (case hx => rfl); (case hargs => simp [Act.eval]); refine (ASK.out w5 x false B5.out ST.out).mono ?_; rintro e w6 ⟨rfl, hb⟩; refine ⟨_, rfl, ?_⟩; have BC := zm (blk_below BB.out hb); have R6 := zm (Kd.R_below R5.out hb); have B6 := zm (below_step B5.out hb); clear hb BB R5 B5 hb0 hb1; have hc0 : w6.cell? ⟨gb, 0, none⟩ = some (.int .i64 x.f0) := (blk_cell BC.out 0).trans rfl; have hc1 : w6.cell? ⟨gb, 1, none⟩ = some (.string x.f1) := (blk_cell BC.out 1).trans rfl; obtain ⟨ce, hcl, hM, hcc, hfr⟩ := Kd.R_elem R6.out z77 a A0.out A1.out; obtain rfl := k77_openM hM; have hy0 := hcc 0 _ rfl; have hy1 := hcc 1 _ rfl; have hg0 := hfr 0; have hg1 := hfr 1; (try simp only [show (k77).sz = 2 from rfl, Nat.add_zero, Nat.mul_one] at hy0 hy1 hg0 hg1); have HP := zm (Kd.R_seg R6.out a A0.out A1.out (seg := [.int .i64 x.f0, .string x.f1]) (j := 0) hcl hcc (show 2 ≤ 2 from by decide) (x' := x) (okp := fun _ => False) (k77_mkM _ _ _ x) (fun _ hk => hk.elim)); clear hcl hM hcc hfr)
            | ((with_reducible refine gate_store (t := 77) (p := 33) rfl ?_); refine store_event (t := 77) (p := 33) (v := ?vo2) (w1 := ((w6.setCell ⟨gp, a.toNat * 2, none⟩ (.int .i64 x.f0)).setCell ⟨gp, a.toNat * 2 + 1, none⟩ (.string x.f1))) ?hg ?ho ?hn ?hr ?_; (case ho => rfl); (case hg => rfl); (case hn => rfl); (case hr => first | (go_simp; done) | (go_simp; rfl)); intro w7 hw; have R7 := zm (show Kd.R k77 77 w7 w0.heap.size (fun _ => True) (.slice (some ⟨gp, 0, none⟩) pend.length co) (dk.set a.toNat x) from by rw [hw]; exact Kd.R_mono HP.out.1 (fun _ _ => trivial)); have B7 := zm (show Below w0.heap.size w0 w7 from by rw [hw]; exact below_set (below_set B6.out GP.out) GP.out); clear hw HP R6 B6 BC hc0 hc1 hy0 hy1 hg0 hg1))
          go_roundg (pend.length - (j + 1).toNat)
          case measure => have := HM.out; have := HJ.out; omega
          case rel =>
            have hm := HM.out; have hjl := HJ.out
            refine ⟨a + 1, j + 1, dk.set a.toNat x, o1, by rw [WA.out], by rw [WJ.out], ⟨by omega, by omega, by omega, Nat.le_refl _, by rw [List.length_set]; exact hm.2.2.2.2⟩, ⟨?_, ?_⟩, ⟨by rw [show (j + 1).toNat = j.toNat + 1 by omega]; exact GO.out⟩, R7, B7⟩
            · rw [HO.out.1, RS.out, show (a + 1).toNat = a.toNat + 1 by omega, List.take_succ_eq_append_getElem (by rw [List.length_set]; omega), List.getElem_set_self, List.take_set_of_le (Nat.le_refl _)]
              simp
            · rw [show (j + 1).toNat = j.toNat + 1 by omega, List.drop_set_of_lt (by omega)]; exact HE.out
      · have hd : decide (j < (pend.length : Int)) = false := decide_eq_false hj
        have ej : j.toNat = pend.length := by have := HM.out; omega
        have h := HGo.out
        rw [ej, List.drop_of_length_le (Nat.le_refl _)] at h
        simp only [impl_diff_go, Option.some.injEq] at h
        have HOUT := zm (show pend.take i0 ++ rest0 = dk.take a.toNat from by rw [HO.out.1, ← h, List.append_nil]); have A0 := zm (show 0 ≤ a from HM.out.1); have A1 := zm (show a.toNat < pend.length from by have := HM.out; omega)
        obtain ⟨vs, hclr⟩ := impl_diff_clear HR.out a.toNat A1.out (co - a.toNat) 0
        clear h ej hj HGo HO
        have hco : pend.length ≤ co := (Kd.R_reads' HR.out).2.1
        have n1 : (co = a.toNat) = False := eq_false (by have := A1.out; omega)
        have n2 : (a.toNat = co) = False := eq_false (by have := A1.out; omega)
        have n3 : ¬ co = a.toNat := by have := A1.out; omega
        have p3 := eq_true A0.out
        have p4 : (a ≤ (pend.length : Int)) = True := eq_true (by have := A1.out; omega)
        have p5 : (a.toNat ≤ pend.length) = True := eq_true (by have := A1.out; omega)
        have p6 : (a.toNat ≤ co) = True := eq_true (by have := A1.out; omega)
        have p7 : ((co : Int) < a) = False := eq_false (by have := A1.out; omega)
        have p8 : (a ≤ (co : Int)) = True := eq_true (by have := A1.out; omega)
        go_wp2
        go_ret
        refine ⟨_, rfl, ?_, impl_diff_bel GP.out vs _ _ HB.out⟩
        rw [HOUT.out]
        exact impl_diff_cut (Kd.R_take HR.out (by have := HM.out; omega)) vs _ (Nat.le_refl _)
set_option maxHeartbeats 4000000 in
set_option maxRecDepth 100000 in
theorem impl_diff_clos (k : Nat) {w0 : World} {g : Nat} {Ao : Option Addr} {co : Nat} {own : List S77} (hb : w0.heap[g]? = some (.cells #[.slice Ao own.length co] 49 (0, 0))) (hr : Kd.C k77 w0 Ao own.length own) (hc : own.length ≤ co) :
    impl_diff_asks w0 #[.pointer (some ⟨g, 0, none⟩)] (fun x => impl_Update_102.f k own x.f0 x.f1) := by
  intro W x b hB h
  have hu77 := Tryz.underlying77; have GB := zm (blk_below hb hB); have HR := zm (Kd.C_below hr hB); have HC := zm hc; have HX := zm (show impl_Update_102.f k own x.f0 x.f1 = some b from h); have HB := zm (Below.refl W.heap.size W); clear hb hr hc h hB
  show Calls Tryz.prog 101 #[.agg #[.int .i64 x.f0, .string x.f1], .pointer (some ⟨g, 0, none⟩)] W _
  go_enter Tryz.func101, Tryz.ntmps101
  go_wp2_with (first
    | ((with_reducible refine gate_dst (N := 2) rfl ?_); refine box_event ?hg (N := 2) ?hd (cs := #[.int .i64 x.f0, .string x.f1]) (t := 77) ?hr ?_; (case hd => rfl); (case hg => rfl); (case hr => first | (go_simp; done) | (go_simp; rfl)); intro gb hg w4 hbox hb; have BK := zm hbox; have mG := zm (blk_below GB.out hb); have mR := zm (Kd.C_below HR.out hb); have mB := zm (below_step HB.out hb); have GE := zm (show W.heap.size ≤ gb from by rw [hg]; exact HB.out.size); clear hb hbox hg GB HR HB; have GB := mG; have HR := mR; have HB := mB; clear mG mR mB; have hx0 : w4.cell? ⟨gb, 0, none⟩ = some (.int .i64 x.f0) := (blk_cell BK.out 0).trans rfl; have hx1 : w4.cell? ⟨gb, 1, none⟩ = some (.string x.f1) := (blk_cell BK.out 1).trans rfl; have ho : w4.cell? ⟨g, 0, none⟩ = some (.slice Ao own.length co) := (blk_cell GB.out 0).trans rfl)
    | ((with_reducible refine gate_callee (f := 102) rfl ?_); refine goesL_ (some 6) rfl rfl Tryz.func102 (by kernel_rfl) rfl #[.slice Ao own.length co, .agg #[.int .i64 x.f0, .string x.f1]] rfl (by (try simp only [List.map_toArray, List.map_cons, List.map_nil]); first | done | rfl) ?_; (with_reducible refine (impl_Update_102.calls k _ _ own x.f0 x.f1 b _ ?s1 ?s2 HX.out).mono ?_); (case s1 => exact HR.out); (case s2 => exact HC.out); rintro e w6 ⟨rfl, hb⟩; refine ⟨_, rfl, ?_⟩; have mB := zm (below_step HB.out hb); clear hb HB hx0 hx1 ho; have HB := mB; clear mB))
  go_ret
  exact ⟨rfl, HB.out⟩
def impl_diff.f (k : Nat) (l0_0 : List Int) (l0_1 : List Int) (l0_2 : List (S103)) (l0_3 : List Int) (l1_0 : List Int) (l1_1 : List Int) (l1_2 : List (S103)) (l1_3 : List Int) : Option (List (S77)) := (impl_Image_updates.f k l0_0 l0_1 l0_2 l0_3).bind fun own => (impl_Image_updates.f k l1_0 l1_1 l1_2 l1_3).bind fun l => if l.length ≤ 1000000000 then impl_diff_go (fun x => impl_Update_102.f k own x.f0 x.f1) l else none
theorem impl_diff.mono : ∀ a0 a1 a2 a3 a4 a5 a6 a7 k, LeO (impl_diff.f k a0 a1 a2 a3 a4 a5 a6 a7) (impl_diff.f (k + 1) a0 a1 a2 a3 a4 a5 a6 a7) := by
  intro a0 a1 a2 a3 a4 a5 a6 a7 k
  unfold impl_diff.f
  exact LeO.bind (impl_Image_updates.mono a0 a1 a2 a3 k) fun own => LeO.bind (impl_Image_updates.mono a4 a5 a6 a7 k) fun l => LeO.ite (impl_diff_go_mono (fun x => impl_Update_102.mono own x.f0 x.f1 k) l) (LeO.refl _)
set_option maxHeartbeats 8000000 in
set_option maxRecDepth 100000 in
theorem impl_diff.calls (k : Nat) (A0_0 : Option Addr) (c0_0 : Nat) (l0_0 : List Int) (A0_1 : Option Addr) (c0_1 : Nat) (l0_1 : List Int) (A0_2 : Option Addr) (c0_2 : Nat) (l0_2 : List (S103)) (A0_3 : Option Addr) (c0_3 : Nat) (l0_3 : List Int) (A1_0 : Option Addr) (c1_0 : Nat) (l1_0 : List Int) (A1_1 : Option Addr) (c1_1 : Nat) (l1_1 : List Int) (A1_2 : Option Addr) (c1_2 : Nat) (l1_2 : List (S103)) (A1_3 : Option Addr) (c1_3 : Nat) (l1_3 : List Int) (r : List (S77)) (w : World) (hr0_0 : Kd.C (Kd.int .i64) w A0_0 l0_0.length l0_0) (hc0_0 : l0_0.length ≤ c0_0) (hr0_1 : Kd.C (Kd.int .i64) w A0_1 l0_1.length l0_1) (hc0_1 : l0_1.length ≤ c0_1) (hr0_2 : Kd.C k103 w A0_2 l0_2.length l0_2) (hc0_2 : l0_2.length ≤ c0_2) (hr0_3 : Kd.C (Kd.int .i64) w A0_3 l0_3.length l0_3) (hc0_3 : l0_3.length ≤ c0_3) (hr1_0 : Kd.C (Kd.int .i64) w A1_0 l1_0.length l1_0) (hc1_0 : l1_0.length ≤ c1_0) (hr1_1 : Kd.C (Kd.int .i64) w A1_1 l1_1.length l1_1) (hc1_1 : l1_1.length ≤ c1_1) (hr1_2 : Kd.C k103 w A1_2 l1_2.length l1_2) (hc1_2 : l1_2.length ≤ c1_2) (hr1_3 : Kd.C (Kd.int .i64) w A1_3 l1_3.length l1_3) (hc1_3 : l1_3.length ≤ c1_3) (h : impl_diff.f k l0_0 l0_1 l0_2 l0_3 l1_0 l1_1 l1_2 l1_3 = some r) :
    Calls Tryz.prog 58 #[.agg #[.slice A0_0 l0_0.length c0_0, .slice A0_1 l0_1.length c0_1, .slice A0_2 l0_2.length c0_2, .slice A0_3 l0_3.length c0_3], .agg #[.slice A1_0 l1_0.length c1_0, .slice A1_1 l1_1.length c1_1, .slice A1_2 l1_2.length c1_2, .slice A1_3 l1_3.length c1_3]] w fun e w' => ∃ v0_ : Value, e = .returned v0_ ∧ Kd.R k77 77 w' w.heap.size (fun _ => True) v0_ r ∧ Below w.heap.size w w' := by
 have hu26 := Tryz.underlying26; have R0 := zm hr0_0; have R1 := zm hr0_1; have R2 := zm hr0_2; have R3 := zm hr0_3; have Q0 := zm hr1_0; have Q1 := zm hr1_1; have Q2 := zm hr1_2; have Q3 := zm hr1_3; have C0 := zm hc0_0; have C1 := zm hc0_1; have C2 := zm hc0_2; have C3 := zm hc0_3; have D0 := zm hc1_0; have D1 := zm hc1_1; have D2 := zm hc1_2; have D3 := zm hc1_3; have HB := zm (Below.refl w.heap.size w); clear hr0_0 hr0_1 hr0_2 hr0_3 hr1_0 hr1_1 hr1_2 hr1_3 hc0_0 hc0_1 hc0_2 hc0_3 hc1_0 hc1_1 hc1_2 hc1_3
 unfold impl_diff.f at h
 obtain ⟨own, ho, h⟩ := Option.bind_eq_some_iff.mp h
 obtain ⟨l, hl, h⟩ := Option.bind_eq_some_iff.mp h
 have hlim : l.length ≤ 1000000000 := by
  by_cases c : l.length ≤ 1000000000
  ·exact c
  ·rw [if_neg c] at h; cases h
 rw [if_pos hlim] at h
 have T0 := zm ho; have T1 := zm hl; have HL := zm hlim; have HGo := zm h; clear ho hl hlim h
 go_enter Tryz.func58, Tryz.ntmps58
 go_wp2_with (first
  | ((with_reducible refine gate_dst (N := 2) rfl ?_); refine box_event ?hg (N := 2) ?hd (cs := #[.slice A0_0 l0_0.length c0_0, .slice A0_1 l0_1.length c0_1, .slice A0_2 l0_2.length c0_2, .slice A0_3 l0_3.length c0_3]) (t := 26) ?hr ?_; (case hd => rfl); (case hg => rfl); (case hr => first | (go_simp; done) | (go_simp; rfl)); intro gA hgA w1 hbox hb; have BA := zm hbox; have nB := zm (below_step HB.out hb); clear HB hbox hb hgA; have HB := nB; clear nB)
  | ((with_reducible refine gate_dst (N := 3) rfl ?_); refine box_event ?hg (N := 3) ?hd (cs := #[.slice A1_0 l1_0.length c1_0, .slice A1_1 l1_1.length c1_1, .slice A1_2 l1_2.length c1_2, .slice A1_3 l1_3.length c1_3]) (t := 26) ?hr ?_; (case hd => rfl); (case hg => rfl); (case hr => first | (go_simp; done) | (go_simp; rfl)); intro gC hgC w2 hbox hb; have mA := zm (blk_below BA.out hb); have BC := zm hbox; have nB := zm (below_step HB.out hb); clear HB BA hbox hb hgC; have HB := nB; have BA := mA; clear nB mA; have ha0 : w2.cell? ⟨gA, 0, none⟩ = some (.slice A0_0 l0_0.length c0_0) := (blk_cell BA.out 0).trans rfl; have ha1 : w2.cell? ⟨gA, 1, none⟩ = some (.slice A0_1 l0_1.length c0_1) := (blk_cell BA.out 1).trans rfl; have ha2 : w2.cell? ⟨gA, 2, none⟩ = some (.slice A0_2 l0_2.length c0_2) := (blk_cell BA.out 2).trans rfl; have ha3 : w2.cell? ⟨gA, 3, none⟩ = some (.slice A0_3 l0_3.length c0_3) := (blk_cell BA.out 3).trans rfl)
  | ((with_reducible refine gate_callee (f := 54) rfl ?_); refine goesL_ (some 7) rfl rfl Tryz.func54 (by kernel_rfl) rfl #[.agg #[.slice A0_0 l0_0.length c0_0, .slice A0_1 l0_1.length c0_1, .slice A0_2 l0_2.length c0_2, .slice A0_3 l0_3.length c0_3]] rfl (by (try simp only [List.map_toArray, List.map_cons, List.map_nil]); first | done | rfl) ?_; (with_reducible refine (impl_Image_updates.calls k _ _ l0_0 _ _ l0_1 _ _ l0_2 _ _ l0_3 own _ ?s1 ?s2 ?s3 ?s4 ?s5 ?s6 ?s7 ?s8 T0.out).mono ?_); (case s1 => exact Kd.C_below R0.out HB.out); (case s2 => exact C0.out); (case s3 => exact Kd.C_below R1.out HB.out); (case s4 => exact C1.out); (case s5 => exact Kd.C_below R2.out HB.out); (case s6 => exact C2.out); (case s7 => exact Kd.C_below R3.out HB.out); (case s8 => exact C3.out); rintro e w3 ⟨v0, rfl, ho, hb⟩; refine ⟨_, rfl, ?_⟩; have O3 := zm (Kd.R_mono ho (fun _ _ => trivial)); have mC := zm (blk_below BC.out hb); have nB := zm (below_step HB.out hb); clear HB BA BC hb ho ha0 ha1 ha2 ha3; have HB := nB; have BC := mC; clear nB mC)
  | ((with_reducible refine gate_dst (N := 5) rfl ?_); refine box_event ?hg (N := 5) ?hd (cs := #[.slice none 0 0]) (t := 49) ?hr ?_; (case hd => rfl); (case hg => rfl); (case hr => first | (go_simp; done) | (go_simp; rfl)); intro gO hgO w4 hbox hb; have BO := zm hbox; have O4 := zm (Kd.R_below O3.out hb); have mC := zm (blk_below BC.out hb); have NE := zm (show gC ≠ gO from by rw [hgO]; exact Nat.ne_of_lt (blk_lt BC.out)); have GE := zm (show w.heap.size ≤ gO from by rw [hgO]; exact HB.out.size); have nB := zm (below_step HB.out hb); clear HB BC O3 hbox hb hgO; have HB := nB; have BC := mC; clear nB mC; have hz : w4.cell? ⟨gO, 0, none⟩ = some (.slice none 0 0) := (blk_cell BO.out 0).trans rfl; have hfz := blk_frozen BO.out 0; obtain ⟨Ao, co, rfl⟩ := Kd.R_slice O4.out)
  | ((with_reducible refine gate_store (t := 49) (p := 5) rfl ?_); refine store_event (t := 49) (p := 5) (v := ?vo1) (w1 := (w4.setCell ⟨gO, 0, none⟩ (.slice Ao own.length co))) ?hg ?ho ?hn ?hr ?_; (case ho => rfl); (case hg => rfl); (case hn => rfl); (case hr => first | (go_simp; done) | (go_simp; rfl)); intro w5 hw; have K45 := (show Kept w4 w5 (fun k_ => k_ = gO) from by rw [hw]; exact Kept.setCell (Kept.refl w4 (fun k_ => k_ = gO)) (p := ⟨gO, 0, none⟩) (.inl rfl) _); have mO := zm (show w5.heap[gO]? = some (.cells #[.slice Ao own.length co] 49 (0, 0)) from by rw [hw]; exact blk_set BO.out 0 _); have mC := zm (blk_kept BC.out K45 NE.out); have O5 := zm (Kd.R_kept (Kd.R_types O4.out BO.out (by decide)) K45 (fun _ h_ => h_.2)); have nB := zm (show Below w.heap.size w w5 from by rw [hw]; exact below_set HB.out GE.out); clear hw K45 BO BC O4 HB hz hfz; have HB := nB; have BO := mO; have BC := mC; clear nB mO mC; have hq0 : w5.cell? ⟨gC, 0, none⟩ = some (.slice A1_0 l1_0.length c1_0) := (blk_cell BC.out 0).trans rfl; have hq1 : w5.cell? ⟨gC, 1, none⟩ = some (.slice A1_1 l1_1.length c1_1) := (blk_cell BC.out 1).trans rfl; have hq2 : w5.cell? ⟨gC, 2, none⟩ = some (.slice A1_2 l1_2.length c1_2) := (blk_cell BC.out 2).trans rfl; have hq3 : w5.cell? ⟨gC, 3, none⟩ = some (.slice A1_3 l1_3.length c1_3) := (blk_cell BC.out 3).trans rfl)
  | ((with_reducible refine gate_callee (f := 54) rfl ?_); refine goesL_ (some 9) rfl rfl Tryz.func54 (by kernel_rfl) rfl #[.agg #[.slice A1_0 l1_0.length c1_0, .slice A1_1 l1_1.length c1_1, .slice A1_2 l1_2.length c1_2, .slice A1_3 l1_3.length c1_3]] rfl (by (try simp only [List.map_toArray, List.map_cons, List.map_nil]); first | done | rfl) ?_; (with_reducible refine (impl_Image_updates.calls k _ _ l1_0 _ _ l1_1 _ _ l1_2 _ _ l1_3 l _ ?s1 ?s2 ?s3 ?s4 ?s5 ?s6 ?s7 ?s8 T1.out).mono ?_); (case s1 => exact Kd.C_below Q0.out HB.out); (case s2 => exact D0.out); (case s3 => exact Kd.C_below Q1.out HB.out); (case s4 => exact D1.out); (case s5 => exact Kd.C_below Q2.out HB.out); (case s6 => exact D2.out); (case s7 => exact Kd.C_below Q3.out HB.out); (case s8 => exact D3.out); rintro e w6 ⟨v1, rfl, hp, hb⟩; refine ⟨_, rfl, ?_⟩; have P6 := zm hp; have B6 := zm hb; have AS := zm (impl_diff_clos k BO.out (Kd.R_reads' O5.out).2.2 (Kd.R_reads' O5.out).2.1); clear hb hp BC hq0 hq1 hq2 hq3)
  | ((with_reducible refine gate_callee (f := 100) rfl ?_); refine goesL_ (some 11) rfl rfl Tryz.func100 (by kernel_rfl) rfl #[v1, .func (.func 101) #[] #[.pointer (some ⟨gO, 0, none⟩)]] rfl (by (try simp only [List.map_toArray, List.map_cons, List.map_nil]); first | done | rfl) ?_; refine (impl_diff_delete AS.out B6.out P6.out HL.out r HGo.out).mono ?_; rintro e w7 ⟨v2, rfl, hr, hb⟩; refine ⟨_, rfl, ?_⟩; have R7 := zm (Kd.R_lower hr HB.out.size); have B7 := zm (below_step HB.out hb); clear hr hb P6 B6 AS))
 go_ret
 exact ⟨_, rfl, R7.out, B7.out⟩
def impl_DiffUpdates.f (k : Nat) (l0_0 : List Int) (l0_1 : List Int) (l0_2 : List (S103)) (l0_3 : List Int) (l1_0 : List Int) (l1_1 : List Int) (l1_2 : List (S103)) (l1_3 : List Int) : Option ((List (S77)) × Int) := (impl_ImageOK.f k l0_0 l0_1 l0_2 l0_3).bind fun t924 => (if t924 = true then ((impl_ImageOK.f k l1_0 l1_1 l1_2 l1_3).bind fun t925 => (if t925 = true then ((impl_diff.f k l0_0 l0_1 l0_2 l0_3 l1_0 l1_1 l1_2 l1_3).bind fun t926 => (some (t926, 0))) else (some (([] : List (S77)), 1)))) else (some (([] : List (S77)), 1)))
theorem impl_DiffUpdates.mono : ∀ a0 a1 a2 a3 a4 a5 a6 a7 k, LeO (impl_DiffUpdates.f k a0 a1 a2 a3 a4 a5 a6 a7) (impl_DiffUpdates.f (k + 1) a0 a1 a2 a3 a4 a5 a6 a7) := by
  intro a0 a1 a2 a3 a4 a5 a6 a7 k
  unfold impl_DiffUpdates.f
  repeat' first| (with_reducible first | exact impl_ImageOK.mono _ _ _ _ _ | exact impl_diff.mono _ _ _ _ _ _ _ _ _ | exact LeO.refl _ | exact LeO.none _ | refine LeO.ite ?_ ?_ | refine LeO.bind ?_ (fun _ => ?_)) | exact impl_ImageOK.mono _ _ _ _ _ | exact impl_diff.mono _ _ _ _ _ _ _ _ _ | exact LeO.none _ | refine LeO.ite ?_ ?_ | refine LeO.bind ?_ (fun _ => ?_)
set_option maxHeartbeats 8000000 in
set_option maxRecDepth 100000 in
theorem impl_DiffUpdates.calls (k : Nat) (A0_0 : Option Addr) (c0_0 : Nat) (l0_0 : List Int) (A0_1 : Option Addr) (c0_1 : Nat) (l0_1 : List Int) (A0_2 : Option Addr) (c0_2 : Nat) (l0_2 : List (S103)) (A0_3 : Option Addr) (c0_3 : Nat) (l0_3 : List Int) (A1_0 : Option Addr) (c1_0 : Nat) (l1_0 : List Int) (A1_1 : Option Addr) (c1_1 : Nat) (l1_1 : List Int) (A1_2 : Option Addr) (c1_2 : Nat) (l1_2 : List (S103)) (A1_3 : Option Addr) (c1_3 : Nat) (l1_3 : List Int) (r1 : List (S77)) (r2 : Int) (w : World) (hr0_0 : Kd.C (Kd.int .i64) w A0_0 l0_0.length l0_0) (hc0_0 : l0_0.length ≤ c0_0) (hr0_1 : Kd.C (Kd.int .i64) w A0_1 l0_1.length l0_1) (hc0_1 : l0_1.length ≤ c0_1) (hr0_2 : Kd.C k103 w A0_2 l0_2.length l0_2) (hc0_2 : l0_2.length ≤ c0_2) (hr0_3 : Kd.C (Kd.int .i64) w A0_3 l0_3.length l0_3) (hc0_3 : l0_3.length ≤ c0_3) (hr1_0 : Kd.C (Kd.int .i64) w A1_0 l1_0.length l1_0) (hc1_0 : l1_0.length ≤ c1_0) (hr1_1 : Kd.C (Kd.int .i64) w A1_1 l1_1.length l1_1) (hc1_1 : l1_1.length ≤ c1_1) (hr1_2 : Kd.C k103 w A1_2 l1_2.length l1_2) (hc1_2 : l1_2.length ≤ c1_2) (hr1_3 : Kd.C (Kd.int .i64) w A1_3 l1_3.length l1_3) (hc1_3 : l1_3.length ≤ c1_3) (h : impl_DiffUpdates.f k l0_0 l0_1 l0_2 l0_3 l1_0 l1_1 l1_2 l1_3 = some (r1, r2)) :
    Calls Tryz.prog 29 #[.agg #[.slice A0_0 l0_0.length c0_0, .slice A0_1 l0_1.length c0_1, .slice A0_2 l0_2.length c0_2, .slice A0_3 l0_3.length c0_3], .agg #[.slice A1_0 l1_0.length c1_0, .slice A1_1 l1_1.length c1_1, .slice A1_2 l1_2.length c1_2, .slice A1_3 l1_3.length c1_3]] w fun e w' => ∃ v0_ : Value, e = .returned (.tuple #[v0_, .int .i64 r2]) ∧ Kd.R k77 77 w' w.heap.size (fun _ => True) v0_ r1 ∧ Below w.heap.size w w' := by
 have hu26 := Tryz.underlying26; have Zg := zm hr0_0; have Zh := zm hc0_0; clear hr0_0 hc0_0; have Zi := zm hr0_1; have Zj := zm hc0_1; clear hr0_1 hc0_1; have Zk := zm hr0_2; have Zl := zm hc0_2; clear hr0_2 hc0_2; have Zm := zm hr0_3; have Zn := zm hc0_3; clear hr0_3 hc0_3; have Zo := zm hr1_0; have Zp := zm hc1_0; clear hr1_0 hc1_0; have Zq := zm hr1_1; have Zr := zm hc1_1; clear hr1_1 hc1_1; have Zs := zm hr1_2; have Zt := zm hc1_2; clear hr1_2 hc1_2; have Zu := zm hr1_3; have Zv := zm hc1_3; clear hr1_3 hc1_3; have HB := zm (Below.refl w.heap.size w); have H := h
 unfold impl_DiffUpdates.f at H
 clear h; replace H := Option.bind_eq_some_iff.mp H
 obtain ⟨t924, A30, H⟩ := H
 try dsimp only at H
 have A3 := zm A30; clear A30
 by_cases c4 : t924 = true
 ·subst c4
  replace H : ((impl_ImageOK.f k l1_0 l1_1 l1_2 l1_3).bind fun t925 => (if t925 = true then ((impl_diff.f k l0_0 l0_1 l0_2 l0_3 l1_0 l1_1 l1_2 l1_3).bind fun t926 => (some (t926, 0))) else (some (([] : List (S77)), 1)))) = some (r1, r2) := by rw [if_pos rfl] at H; exact H
  replace H := Option.bind_eq_some_iff.mp H
  obtain ⟨t925, A50, H⟩ := H
  try dsimp only at H
  have A5 := zm A50; clear A50
  by_cases c6 : t925 = true
  ·subst c6
   replace H : ((impl_diff.f k l0_0 l0_1 l0_2 l0_3 l1_0 l1_1 l1_2 l1_3).bind fun t926 => (some (t926, 0))) = some (r1, r2) := by rw [if_pos rfl] at H; exact H
   replace H := Option.bind_eq_some_iff.mp H
   obtain ⟨t926, A70, H⟩ := H
   replace H : (some (t926, 0)) = some (r1, r2) := H
   have A7 := zm A70; clear A70
   simp only [Option.some.injEq, Prod.mk.injEq] at H
   obtain ⟨rfl, rfl⟩ := H
   go_enter Tryz.func29, Tryz.ntmps29
   go_wp2_with (first | ((with_reducible refine gate_dst (N := 2) rfl ?_); refine box_event ?hg (N := 2) ?hd (cs := #[.slice A0_0 l0_0.length c0_0, .slice A0_1 l0_1.length c0_1, .slice A0_2 l0_2.length c0_2, .slice A0_3 l0_3.length c0_3]) (t := 26) ?hr ?_; (case hd => rfl); (case hg => rfl); (case hr => first | (go_simp; done) | (go_simp; rfl)); intro gb922 hg w8 hbox hb; have n0_ := zm (below_step (zg_1 HB.out) hb); have n1_ := zm (hbox); have n2_ := zm ((by rw [hg]; exact (below_size (zg_1 HB.out)) : w.heap.size ≤ gb922)); have n3_ := zm ((by rw [hg]; exact (below_size (zg_1 HB.out)) : w.heap.size ≤ gb922)); replace HB := n0_; have Za := n1_; have Zw := n2_; have Zc := n3_; clear n0_ n1_ n2_ n3_; clear hb hbox hg) | ((with_reducible refine gate_dst (N := 3) rfl ?_); refine box_event ?hg (N := 3) ?hd (cs := #[.slice A1_0 l1_0.length c1_0, .slice A1_1 l1_1.length c1_1, .slice A1_2 l1_2.length c1_2, .slice A1_3 l1_3.length c1_3]) (t := 26) ?hr ?_; (case hd => rfl); (case hg => rfl); (case hr => first | (go_simp; done) | (go_simp; rfl)); intro gb923 hg w9 hbox hb; have n0_ := zm (blk_below (zg_3 Za.out) hb); have n1_ := zm (below_step (zg_2 HB.out Zc.out) hb); have n2_ := zm (hbox); have n3_ := zm ((by rw [hg]; exact (below_size (zg_2 HB.out Zc.out)) : w.heap.size ≤ gb923)); have n4_ := zm ((by rw [hg]; exact (below_size (zg_2 HB.out Zc.out)) : w.heap.size ≤ gb923)); have n5_ := zm ((by rw [hg]; exact Nat.ne_of_lt (blk_lt (zg_3 Za.out)) : gb922 ≠ gb923)); have n6_ := zm ((by rw [hg]; exact Nat.ne_of_gt (blk_lt (zg_3 Za.out)) : gb923 ≠ gb922)); replace Za := n0_; replace HB := n1_; have Zb := n2_; have Zx := n3_; have Zf := n4_; have Zd := n5_; have Ze := n6_; clear n0_ n1_ n2_ n3_ n4_ n5_ n6_; clear hb hbox hg; have hnb10 := Zd.out; have hnc10 := Ze.out; obtain ⟨hcz11_0, hcz11_1, hcz11_2, hcz11_3, hfz11_0, hfz11_1, hfz11_2, hfz11_3⟩ := zb4 Za.out) | ((with_reducible refine gate_callee (f := 13) rfl ?_); refine goesL_ (some 7) rfl rfl Tryz.func13 (by kernel_rfl) rfl #[.agg #[.slice A0_0 l0_0.length c0_0, .slice A0_1 l0_1.length c0_1, .slice A0_2 l0_2.length c0_2, .slice A0_3 l0_3.length c0_3]] rfl zq ?_; (with_reducible refine (impl_ImageOK.calls k _ _ l0_0 _ _ l0_1 _ _ l0_2 _ _ l0_3 true _ ?side1 ?side2 ?side3 ?side4 ?side5 ?side6 ?side7 ?side8 A3.out).mono ?_); (case side1 => exact zC (Kd.C_below Zg.out HB.out)); (case side2 => exact Zh.out); (case side3 => exact zC (Kd.C_below Zi.out HB.out)); (case side4 => exact Zj.out); (case side5 => exact zC (Kd.C_below Zk.out HB.out)); (case side6 => exact Zl.out); (case side7 => exact zC (Kd.C_below Zm.out HB.out)); (case side8 => exact Zn.out); rintro e w12 ⟨rfl, hb⟩; refine ⟨_, rfl, ?_⟩; have n0_ := zm (blk_below (zg_3 Za.out) hb); have n1_ := zm (blk_below (zg_3 Zb.out) hb); have n2_ := zm (below_step (zg_5 HB.out Zc.out Zf.out) hb); replace Za := n0_; replace Zb := n1_; replace HB := n2_; clear n0_ n1_ n2_; (try clear hb); (try clear hb2); (try clear hk); (try clear hi); obtain ⟨hcz13_0, hcz13_1, hcz13_2, hcz13_3, hfz13_0, hfz13_1, hfz13_2, hfz13_3⟩ := zb4 Zb.out) | (go_at_call 13; (with_reducible refine (impl_ImageOK.calls k _ _ l1_0 _ _ l1_1 _ _ l1_2 _ _ l1_3 true _ ?side1 ?side2 ?side3 ?side4 ?side5 ?side6 ?side7 ?side8 A5.out).mono ?_); (case side1 => exact zC (Kd.C_below Zo.out HB.out)); (case side2 => exact Zp.out); (case side3 => exact zC (Kd.C_below Zq.out HB.out)); (case side4 => exact Zr.out); (case side5 => exact zC (Kd.C_below Zs.out HB.out)); (case side6 => exact Zt.out); (case side7 => exact zC (Kd.C_below Zu.out HB.out)); (case side8 => exact Zv.out); rintro e w14 ⟨rfl, hb⟩; have n0_ := zm (blk_below (zg_3 Za.out) hb); have n1_ := zm (blk_below (zg_3 Zb.out) hb); have n2_ := zm (below_step (zg_5 HB.out Zc.out Zf.out) hb); replace Za := n0_; replace Zb := n1_; replace HB := n2_; clear n0_ n1_ n2_; (try clear hb); (try clear hb2); (try clear hk); (try clear hi); obtain ⟨hcz15_0, hcz15_1, hcz15_2, hcz15_3, hfz15_0, hfz15_1, hfz15_2, hfz15_3⟩ := zb4 Za.out; obtain ⟨hcz16_0, hcz16_1, hcz16_2, hcz16_3, hfz16_0, hfz16_1, hfz16_2, hfz16_3⟩ := zb4 Zb.out) | ((with_reducible refine gate_callee (f := 58) rfl ?_); refine goesL_ (some 16) rfl rfl Tryz.func58 (by kernel_rfl) rfl #[.agg #[.slice A0_0 l0_0.length c0_0, .slice A0_1 l0_1.length c0_1, .slice A0_2 l0_2.length c0_2, .slice A0_3 l0_3.length c0_3], .agg #[.slice A1_0 l1_0.length c1_0, .slice A1_1 l1_1.length c1_1, .slice A1_2 l1_2.length c1_2, .slice A1_3 l1_3.length c1_3]] rfl zq ?_; (with_reducible refine (impl_diff.calls k _ _ l0_0 _ _ l0_1 _ _ l0_2 _ _ l0_3 _ _ l1_0 _ _ l1_1 _ _ l1_2 _ _ l1_3 t926 _ ?side1 ?side2 ?side3 ?side4 ?side5 ?side6 ?side7 ?side8 ?side9 ?side10 ?side11 ?side12 ?side13 ?side14 ?side15 ?side16 A7.out).mono ?_); (case side1 => exact zC (Kd.C_below Zg.out HB.out)); (case side2 => exact Zh.out); (case side3 => exact zC (Kd.C_below Zi.out HB.out)); (case side4 => exact Zj.out); (case side5 => exact zC (Kd.C_below Zk.out HB.out)); (case side6 => exact Zl.out); (case side7 => exact zC (Kd.C_below Zm.out HB.out)); (case side8 => exact Zn.out); (case side9 => exact zC (Kd.C_below Zo.out HB.out)); (case side10 => exact Zp.out); (case side11 => exact zC (Kd.C_below Zq.out HB.out)); (case side12 => exact Zr.out); (case side13 => exact zC (Kd.C_below Zs.out HB.out)); (case side14 => exact Zt.out); (case side15 => exact zC (Kd.C_below Zu.out HB.out)); (case side16 => exact Zv.out); rintro e w17 ⟨v927, rfl, ho0, hb⟩; refine ⟨_, rfl, ?_⟩; have n0_ := zm (Kd.R_lower ho0 (below_size (zg_5 HB.out Zc.out Zf.out))); have n1_ := zm (blk_below (zg_3 Za.out) hb); have n2_ := zm (blk_below (zg_3 Zb.out) hb); have n3_ := zm (below_step (zg_5 HB.out Zc.out Zf.out) hb); have Zy := n0_; replace Za := n1_; replace Zb := n2_; replace HB := n3_; clear n0_ n1_ n2_ n3_; (try clear hb); (try clear hb2); (try clear hk); (try clear hi); (try clear ho0)))
   go_ret2
   exact ⟨_, ze, by (with_reducible repeat (first | apply Kd.R_alloc | apply Kd.R_drewN | apply Kd.R_drew)); exact Zy.out, zg_5 HB.out Zc.out Zf.out⟩
  ·replace c6 := Bool.eq_false_iff.mpr c6
   subst c6
   replace H : (some (([] : List (S77)), 1)) = some (r1, r2) := by rw [if_neg (show ¬ (false = true) by decide)] at H; exact H
   simp only [Option.some.injEq, Prod.mk.injEq] at H
   obtain ⟨rfl, rfl⟩ := H
   go_enter Tryz.func29, Tryz.ntmps29
   go_wp2_with (first | ((with_reducible refine gate_dst (N := 2) rfl ?_); refine box_event ?hg (N := 2) ?hd (cs := #[.slice A0_0 l0_0.length c0_0, .slice A0_1 l0_1.length c0_1, .slice A0_2 l0_2.length c0_2, .slice A0_3 l0_3.length c0_3]) (t := 26) ?hr ?_; (case hd => rfl); (case hg => rfl); (case hr => first | (go_simp; done) | (go_simp; rfl)); intro gb922 hg w18 hbox hb; have n0_ := zm (below_step (zg_1 HB.out) hb); have n1_ := zm (hbox); have n2_ := zm ((by rw [hg]; exact (below_size (zg_1 HB.out)) : w.heap.size ≤ gb922)); have n3_ := zm ((by rw [hg]; exact (below_size (zg_1 HB.out)) : w.heap.size ≤ gb922)); replace HB := n0_; have Za := n1_; have Zw := n2_; have Zc := n3_; clear n0_ n1_ n2_ n3_; clear hb hbox hg) | ((with_reducible refine gate_dst (N := 3) rfl ?_); refine box_event ?hg (N := 3) ?hd (cs := #[.slice A1_0 l1_0.length c1_0, .slice A1_1 l1_1.length c1_1, .slice A1_2 l1_2.length c1_2, .slice A1_3 l1_3.length c1_3]) (t := 26) ?hr ?_; (case hd => rfl); (case hg => rfl); (case hr => first | (go_simp; done) | (go_simp; rfl)); intro gb923 hg w19 hbox hb; have n0_ := zm (blk_below (zg_3 Za.out) hb); have n1_ := zm (below_step (zg_2 HB.out Zc.out) hb); have n2_ := zm (hbox); have n3_ := zm ((by rw [hg]; exact (below_size (zg_2 HB.out Zc.out)) : w.heap.size ≤ gb923)); have n4_ := zm ((by rw [hg]; exact (below_size (zg_2 HB.out Zc.out)) : w.heap.size ≤ gb923)); have n5_ := zm ((by rw [hg]; exact Nat.ne_of_lt (blk_lt (zg_3 Za.out)) : gb922 ≠ gb923)); have n6_ := zm ((by rw [hg]; exact Nat.ne_of_gt (blk_lt (zg_3 Za.out)) : gb923 ≠ gb922)); replace Za := n0_; replace HB := n1_; have Zb := n2_; have Zx := n3_; have Zf := n4_; have Zd := n5_; have Ze := n6_; clear n0_ n1_ n2_ n3_ n4_ n5_ n6_; clear hb hbox hg; have hnb20 := Zd.out; have hnc20 := Ze.out; obtain ⟨hcz21_0, hcz21_1, hcz21_2, hcz21_3, hfz21_0, hfz21_1, hfz21_2, hfz21_3⟩ := zb4 Za.out) | ((with_reducible refine gate_callee (f := 13) rfl ?_); refine goesL_ (some 7) rfl rfl Tryz.func13 (by kernel_rfl) rfl #[.agg #[.slice A0_0 l0_0.length c0_0, .slice A0_1 l0_1.length c0_1, .slice A0_2 l0_2.length c0_2, .slice A0_3 l0_3.length c0_3]] rfl zq ?_; (with_reducible refine (impl_ImageOK.calls k _ _ l0_0 _ _ l0_1 _ _ l0_2 _ _ l0_3 true _ ?side1 ?side2 ?side3 ?side4 ?side5 ?side6 ?side7 ?side8 A3.out).mono ?_); (case side1 => exact zC (Kd.C_below Zg.out HB.out)); (case side2 => exact Zh.out); (case side3 => exact zC (Kd.C_below Zi.out HB.out)); (case side4 => exact Zj.out); (case side5 => exact zC (Kd.C_below Zk.out HB.out)); (case side6 => exact Zl.out); (case side7 => exact zC (Kd.C_below Zm.out HB.out)); (case side8 => exact Zn.out); rintro e w22 ⟨rfl, hb⟩; refine ⟨_, rfl, ?_⟩; have n0_ := zm (blk_below (zg_3 Za.out) hb); have n1_ := zm (blk_below (zg_3 Zb.out) hb); have n2_ := zm (below_step (zg_5 HB.out Zc.out Zf.out) hb); replace Za := n0_; replace Zb := n1_; replace HB := n2_; clear n0_ n1_ n2_; (try clear hb); (try clear hb2); (try clear hk); (try clear hi); obtain ⟨hcz23_0, hcz23_1, hcz23_2, hcz23_3, hfz23_0, hfz23_1, hfz23_2, hfz23_3⟩ := zb4 Zb.out) | (go_at_call 13; (with_reducible refine (impl_ImageOK.calls k _ _ l1_0 _ _ l1_1 _ _ l1_2 _ _ l1_3 false _ ?side1 ?side2 ?side3 ?side4 ?side5 ?side6 ?side7 ?side8 A5.out).mono ?_); (case side1 => exact zC (Kd.C_below Zo.out HB.out)); (case side2 => exact Zp.out); (case side3 => exact zC (Kd.C_below Zq.out HB.out)); (case side4 => exact Zr.out); (case side5 => exact zC (Kd.C_below Zs.out HB.out)); (case side6 => exact Zt.out); (case side7 => exact zC (Kd.C_below Zu.out HB.out)); (case side8 => exact Zv.out); rintro e w24 ⟨rfl, hb⟩; have n0_ := zm (blk_below (zg_3 Za.out) hb); have n1_ := zm (blk_below (zg_3 Zb.out) hb); have n2_ := zm (below_step (zg_5 HB.out Zc.out Zf.out) hb); replace Za := n0_; replace Zb := n1_; replace HB := n2_; clear n0_ n1_ n2_; (try clear hb); (try clear hb2); (try clear hk); (try clear hi)))
   go_ret2
   exact ⟨_, ze, by first | exact Kd.R_nil _ _ _ _ _ | exact Kd.N_nil _ _ _ _ _ | exact Kd.V_nil _ _ _ _ _ | exact Kd.Q_nil _ _ _ _ _ | exact Kd.S_nil _ _ _ _ _, zg_5 HB.out Zc.out Zf.out⟩
 ·replace c4 := Bool.eq_false_iff.mpr c4
  subst c4
  replace H : (some (([] : List (S77)), 1)) = some (r1, r2) := by rw [if_neg (show ¬ (false = true) by decide)] at H; exact H
  simp only [Option.some.injEq, Prod.mk.injEq] at H
  obtain ⟨rfl, rfl⟩ := H
  go_enter Tryz.func29, Tryz.ntmps29
  go_wp2_with (first | ((with_reducible refine gate_dst (N := 2) rfl ?_); refine box_event ?hg (N := 2) ?hd (cs := #[.slice A0_0 l0_0.length c0_0, .slice A0_1 l0_1.length c0_1, .slice A0_2 l0_2.length c0_2, .slice A0_3 l0_3.length c0_3]) (t := 26) ?hr ?_; (case hd => rfl); (case hg => rfl); (case hr => first | (go_simp; done) | (go_simp; rfl)); intro gb922 hg w25 hbox hb; have n0_ := zm (below_step (zg_1 HB.out) hb); have n1_ := zm (hbox); have n2_ := zm ((by rw [hg]; exact (below_size (zg_1 HB.out)) : w.heap.size ≤ gb922)); have n3_ := zm ((by rw [hg]; exact (below_size (zg_1 HB.out)) : w.heap.size ≤ gb922)); replace HB := n0_; have Za := n1_; have Zw := n2_; have Zc := n3_; clear n0_ n1_ n2_ n3_; clear hb hbox hg) | ((with_reducible refine gate_dst (N := 3) rfl ?_); refine box_event ?hg (N := 3) ?hd (cs := #[.slice A1_0 l1_0.length c1_0, .slice A1_1 l1_1.length c1_1, .slice A1_2 l1_2.length c1_2, .slice A1_3 l1_3.length c1_3]) (t := 26) ?hr ?_; (case hd => rfl); (case hg => rfl); (case hr => first | (go_simp; done) | (go_simp; rfl)); intro gb923 hg w26 hbox hb; have n0_ := zm (blk_below (zg_3 Za.out) hb); have n1_ := zm (below_step (zg_2 HB.out Zc.out) hb); have n2_ := zm (hbox); have n3_ := zm ((by rw [hg]; exact (below_size (zg_2 HB.out Zc.out)) : w.heap.size ≤ gb923)); have n4_ := zm ((by rw [hg]; exact (below_size (zg_2 HB.out Zc.out)) : w.heap.size ≤ gb923)); have n5_ := zm ((by rw [hg]; exact Nat.ne_of_lt (blk_lt (zg_3 Za.out)) : gb922 ≠ gb923)); have n6_ := zm ((by rw [hg]; exact Nat.ne_of_gt (blk_lt (zg_3 Za.out)) : gb923 ≠ gb922)); replace Za := n0_; replace HB := n1_; have Zb := n2_; have Zx := n3_; have Zf := n4_; have Zd := n5_; have Ze := n6_; clear n0_ n1_ n2_ n3_ n4_ n5_ n6_; clear hb hbox hg; have hnb27 := Zd.out; have hnc27 := Ze.out; obtain ⟨hcz28_0, hcz28_1, hcz28_2, hcz28_3, hfz28_0, hfz28_1, hfz28_2, hfz28_3⟩ := zb4 Za.out) | ((with_reducible refine gate_callee (f := 13) rfl ?_); refine goesL_ (some 7) rfl rfl Tryz.func13 (by kernel_rfl) rfl #[.agg #[.slice A0_0 l0_0.length c0_0, .slice A0_1 l0_1.length c0_1, .slice A0_2 l0_2.length c0_2, .slice A0_3 l0_3.length c0_3]] rfl zq ?_; (with_reducible refine (impl_ImageOK.calls k _ _ l0_0 _ _ l0_1 _ _ l0_2 _ _ l0_3 false _ ?side1 ?side2 ?side3 ?side4 ?side5 ?side6 ?side7 ?side8 A3.out).mono ?_); (case side1 => exact zC (Kd.C_below Zg.out HB.out)); (case side2 => exact Zh.out); (case side3 => exact zC (Kd.C_below Zi.out HB.out)); (case side4 => exact Zj.out); (case side5 => exact zC (Kd.C_below Zk.out HB.out)); (case side6 => exact Zl.out); (case side7 => exact zC (Kd.C_below Zm.out HB.out)); (case side8 => exact Zn.out); rintro e w29 ⟨rfl, hb⟩; refine ⟨_, rfl, ?_⟩; have n0_ := zm (blk_below (zg_3 Za.out) hb); have n1_ := zm (blk_below (zg_3 Zb.out) hb); have n2_ := zm (below_step (zg_5 HB.out Zc.out Zf.out) hb); replace Za := n0_; replace Zb := n1_; replace HB := n2_; clear n0_ n1_ n2_; (try clear hb); (try clear hb2); (try clear hk); (try clear hi)))
  go_ret2
  exact ⟨_, ze, by first | exact Kd.R_nil _ _ _ _ _ | exact Kd.N_nil _ _ _ _ _ | exact Kd.V_nil _ _ _ _ _ | exact Kd.Q_nil _ _ _ _ _ | exact Kd.S_nil _ _ _ _ _, zg_5 HB.out Zc.out Zf.out⟩
def laws_eqIntS.l0 : Nat → List Int → List Int → Int → Option (Bool)
  | 0, _, _, _ => none
  | k + 1, x0, x1, x5 => if x5 < (x0.length : Int) then (if 0 ≤ x5 then (if x5 < (x1.length : Int) then (if (rd x0 x5) = (rd x1 x5) then (laws_eqIntS.l0 k x0 x1 (wrap64 (x5 + 1))) else (some false)) else (none)) else (none)) else (some true)
def laws_eqIntS.f (k : Nat) (l0 : List Int) (l1 : List Int) : Option (Bool) := if (l0.length : Int) = (l1.length : Int) then (laws_eqIntS.l0 k l0 l1 0) else (some false)
theorem laws_eqIntS.mono_l : ∀ k, (∀ y0 y1 y2, LeO (laws_eqIntS.l0 k y0 y1 y2) (laws_eqIntS.l0 (k + 1) y0 y1 y2))
  | 0 => fun _ _ _ r h => by simp [laws_eqIntS.l0] at h
  | k + 1 => by
    have ih0 := laws_eqIntS.mono_l k
    · intro y0 y1 y2
      unfold laws_eqIntS.l0
      repeat' first| (with_reducible first | exact ih0 _ _ _ | exact LeO.refl _ | exact LeO.none _ | refine LeO.ite ?_ ?_ | refine LeO.bind ?_ (fun _ => ?_)) | exact ih0 _ _ _ | exact LeO.none _ | refine LeO.ite ?_ ?_ | refine LeO.bind ?_ (fun _ => ?_)
theorem laws_eqIntS.mono : ∀ a0 a1 k, LeO (laws_eqIntS.f k a0 a1) (laws_eqIntS.f (k + 1) a0 a1) := by
  intro a0 a1 k
  have ih0 := laws_eqIntS.mono_l k
  unfold laws_eqIntS.f
  repeat' first| (with_reducible first | exact ih0 _ _ _ | exact LeO.refl _ | exact LeO.none _ | refine LeO.ite ?_ ?_ | refine LeO.bind ?_ (fun _ => ?_)) | exact ih0 _ _ _ | exact LeO.none _ | refine LeO.ite ?_ ?_ | refine LeO.bind ?_ (fun _ => ?_)
set_option maxHeartbeats 8000000 in
set_option maxRecDepth 100000 in
theorem laws_eqIntS.calls (k : Nat) (A0 : Option Addr) (c0 : Nat) (l0 : List Int) (A1 : Option Addr) (c1 : Nat) (l1 : List Int) (r : Bool) (w : World) (hr0 : Kd.C (Kd.int .i64) w A0 l0.length l0) (hc0 : l0.length ≤ c0) (hr1 : Kd.C (Kd.int .i64) w A1 l1.length l1) (hc1 : l1.length ≤ c1) (h : laws_eqIntS.f k l0 l1 = some r) :
    Calls Tryz.prog 45 #[.slice A0 l0.length c0, .slice A1 l1.length c1] w fun e w' => e = .returned (.bool r) ∧ Drawn0 w w' := by
 have HR0 := zm hr0; have HC0 := zm hc0; clear hr0 hc0; have HR1 := zm hr1; have HC1 := zm hc1; clear hr1 hc1
 have H : (if (l0.length : Int) = (l1.length : Int) then (laws_eqIntS.l0 k l0 l1 0) else (some false)) = some r := h
 clear h
 by_cases c3 : (l0.length : Int) = (l1.length : Int)
 ·rw [if_pos c3] at H
  have c3b0 : ((l0.length : Int) == (l1.length : Int)) = true := beq_iff_eq.mpr c3
  have c3b1 : ((l0.length : Int) != (l1.length : Int)) = false := bne_eq_false_iff_eq.mpr c3
  have c3b2 : (l0.length == l1.length) = true := by first | simpa using c3 | (simp at c3 ⊢; omega)
  clear c3
  have H' := zm H
  clear H
  go_enter Tryz.func45, Tryz.ntmps45
  go_wp2
  repeat (go_quiet (fail); try go_wp2)
  go_loopg [5] k (fun kq v5 w' => ∃ (x5_1 : Int), v5 = .int .i64 x5_1 ∧ Aside0 (laws_eqIntS.l0 kq l0 l1 x5_1 = some r) ∧ Aside0 (kq ≤ k) ∧ Drawn0 w w')
  case atStart => exact ⟨(0), zr, H', ⟨Nat.le_refl _⟩, by repeat (first | exact Drawn0.refl _ | apply Drawn0.step)⟩
  case round =>
   clear H'
   try clear c1
   try clear p2
   try clear c3
   try clear c3b0
   try clear c3b1
   try clear c3b2
   obtain ⟨x5_1, rfl, HA, HK1, ⟨m1, rfl⟩⟩ := hrel
   cases gk with
   | zero => exact absurd HA.out (by simp [laws_eqIntS.l0])
   | succ k1 =>
    have H := HA.out; clear HA
    simp only [laws_eqIntS.l0] at H
    by_cases c4 : x5_1 < (l0.length : Int)
    ·rw [if_pos c4] at H
     have c4b0 := decide_eq_true c4; clear c4
     by_cases c5 : 0 ≤ x5_1
     ·rw [if_pos c5] at H
      have c5b0 := decide_eq_true c5; clear c5
      by_cases c6 : x5_1 < (l1.length : Int)
      ·rw [if_pos c6] at H
       have c6b0 := decide_eq_true c6; clear c6
       by_cases c7 : (rd l0 x5_1) = (rd l1 x5_1)
       ·rw [if_pos c7] at H
        have c7b0 : ((rd l0 x5_1) == (rd l1 x5_1)) = true := beq_iff_eq.mpr c7
        have c7b1 : ((rd l0 x5_1) != (rd l1 x5_1)) = false := bne_eq_false_iff_eq.mpr c7
        clear c7
        have H' := zm H
        clear H
        have p568 : 0 ≤ (x5_1 : Int) := zd
        have q568 : x5_1 < (l0.length : Int) := zd
        obtain ⟨ad568, e568, hx568_0⟩ := Kd.at_int HR0.out x5_1 p568 q568
        cases e568; replace p568 := eq_true p568; replace q568 := eq_true q568
        have p569 : 0 ≤ (x5_1 : Int) := zd
        have q569 : x5_1 < (l1.length : Int) := zd
        obtain ⟨ad569, e569, hx569_0⟩ := Kd.at_int HR1.out x5_1 p569 q569
        cases e569; replace p569 := eq_true p569; replace q569 := eq_true q569
        go_wp2
        repeat (go_quiet (fail); try go_wp2)
        go_roundg k1
        case measure => have := HK1.out; omega
        case rel => exact ⟨(wrap64 (x5_1 + 1)), zr, H', ⟨by have := HK1.out; omega⟩, by repeat (first | exact Drawn0.refl _ | apply Drawn0.step)⟩
       ·rw [if_neg c7] at H
        have c7b0 : ((rd l0 x5_1) == (rd l1 x5_1)) = false := beq_eq_false_iff_ne.mpr c7
        have c7b1 : ((rd l0 x5_1) != (rd l1 x5_1)) = true := bne_iff_ne.mpr c7
        obtain rfl := Option.some.inj H
        have p568 : 0 ≤ (x5_1 : Int) := zd
        have q568 : x5_1 < (l0.length : Int) := zd
        obtain ⟨ad568, e568, hx568_0⟩ := Kd.at_int HR0.out x5_1 p568 q568
        cases e568; replace p568 := eq_true p568; replace q568 := eq_true q568
        have p569 : 0 ≤ (x5_1 : Int) := zd
        have q569 : x5_1 < (l1.length : Int) := zd
        obtain ⟨ad569, e569, hx569_0⟩ := Kd.at_int HR1.out x5_1 p569 q569
        cases e569; replace p569 := eq_true p569; replace q569 := eq_true q569
        go_wp2
        repeat (go_quiet (fail); try go_wp2)
        go_ret
        exact ⟨zr, by repeat (first | exact Drawn0.refl _ | apply Drawn0.step)⟩
      ·rw [if_neg c6] at H
       exact absurd H (by simp)
     ·rw [if_neg c5] at H
      exact absurd H (by simp)
    ·rw [if_neg c4] at H
     have c4b0 := decide_eq_false c4; clear c4; obtain rfl := Option.some.inj H
     go_wp2
     repeat (go_quiet (fail); try go_wp2)
     go_ret
     exact ⟨zr, by repeat (first | exact Drawn0.refl _ | apply Drawn0.step)⟩
 ·rw [if_neg c3] at H
  have c3b0 : ((l0.length : Int) == (l1.length : Int)) = false := beq_eq_false_iff_ne.mpr c3
  have c3b1 : ((l0.length : Int) != (l1.length : Int)) = true := bne_iff_ne.mpr c3
  have c3b2 : (l0.length == l1.length) = false := by first | simpa using c3 | (simp at c3 ⊢; omega)
  obtain rfl := Option.some.inj H
  go_enter Tryz.func45, Tryz.ntmps45
  go_wp2
  repeat (go_quiet (fail); try go_wp2)
  go_ret
  exact ⟨zr, by repeat (first | exact Drawn0.refl _ | apply Drawn0.step)⟩
def laws_eqSnap.f (k : Nat) (a0_0 : ByteArray) (l0_1 : List Int) (a1_0 : ByteArray) (l1_1 : List Int) : Option (Bool) := if a0_0.toList = a1_0.toList then ((laws_eqIntS.f k l0_1 l1_1).bind fun t582 => (if t582 = true then (some true) else (some false))) else (some false)
theorem laws_eqSnap.mono : ∀ a0 a1 a2 a3 k, LeO (laws_eqSnap.f k a0 a1 a2 a3) (laws_eqSnap.f (k + 1) a0 a1 a2 a3) := by
  intro a0 a1 a2 a3 k
  unfold laws_eqSnap.f
  repeat' first| (with_reducible first | exact laws_eqIntS.mono _ _ _ | exact LeO.refl _ | exact LeO.none _ | refine LeO.ite ?_ ?_ | refine LeO.bind ?_ (fun _ => ?_)) | exact laws_eqIntS.mono _ _ _ | exact LeO.none _ | refine LeO.ite ?_ ?_ | refine LeO.bind ?_ (fun _ => ?_)
set_option maxHeartbeats 8000000 in
set_option maxRecDepth 100000 in
theorem laws_eqSnap.calls (k : Nat) (a0_0 : ByteArray) (A0_1 : Option Addr) (c0_1 : Nat) (l0_1 : List Int) (a1_0 : ByteArray) (A1_1 : Option Addr) (c1_1 : Nat) (l1_1 : List Int) (r : Bool) (w : World) (hr0_1 : Kd.C (Kd.int .i64) w A0_1 l0_1.length l0_1) (hc0_1 : l0_1.length ≤ c0_1) (hr1_1 : Kd.C (Kd.int .i64) w A1_1 l1_1.length l1_1) (hc1_1 : l1_1.length ≤ c1_1) (h : laws_eqSnap.f k a0_0 l0_1 a1_0 l1_1 = some r) :
    Calls Tryz.prog 92 #[.agg #[.string a0_0, .slice A0_1 l0_1.length c0_1], .agg #[.string a1_0, .slice A1_1 l1_1.length c1_1]] w fun e w' => e = .returned (.bool r) ∧ Below w.heap.size w w' := by
 have hu103 := Tryz.underlying103; have Zg := zm hr0_1; have Zh := zm hc0_1; clear hr0_1 hc0_1; have Zi := zm hr1_1; have Zj := zm hc1_1; clear hr1_1 hc1_1; have HB := zm (Below.refl w.heap.size w); have H := h
 unfold laws_eqSnap.f at H
 clear h
 by_cases c3 : a0_0.toList = a1_0.toList
 ·rw [if_pos c3] at H
  have c3b0 : (a0_0.toList == a1_0.toList) = true := beq_iff_eq.mpr c3
  have c3b1 : (a0_0.toList != a1_0.toList) = false := bne_eq_false_iff_eq.mpr c3
  clear c3; replace H := Option.bind_eq_some_iff.mp H
  obtain ⟨t582, A40, H⟩ := H
  try dsimp only at H
  have A4 := zm A40; clear A40
  by_cases c5 : t582 = true
  ·subst c5
   replace H : (some true) = some r := by rw [if_pos rfl] at H; exact H
   obtain rfl := Option.some.inj H
   go_enter Tryz.func92, Tryz.ntmps92
   go_wp2_with (first | ((with_reducible refine gate_dst (N := 2) rfl ?_); refine box_event ?hg (N := 2) ?hd (cs := #[.string a0_0, .slice A0_1 l0_1.length c0_1]) (t := 103) ?hr ?_; (case hd => rfl); (case hg => rfl); (case hr => first | (go_simp; done) | (go_simp; rfl)); intro gb580 hg w6 hbox hb; have n0_ := zm (below_step (zg_1 HB.out) hb); have n1_ := zm (hbox); have n2_ := zm ((by rw [hg]; exact (below_size (zg_1 HB.out)) : w.heap.size ≤ gb580)); have n3_ := zm ((by rw [hg]; exact (below_size (zg_1 HB.out)) : w.heap.size ≤ gb580)); replace HB := n0_; have Za := n1_; have Zk := n2_; have Zb := n3_; clear n0_ n1_ n2_ n3_; clear hb hbox hg) | ((with_reducible refine gate_dst (N := 3) rfl ?_); refine box_event ?hg (N := 3) ?hd (cs := #[.string a1_0, .slice A1_1 l1_1.length c1_1]) (t := 103) ?hr ?_; (case hd => rfl); (case hg => rfl); (case hr => first | (go_simp; done) | (go_simp; rfl)); intro gb581 hg w7 hbox hb; have n0_ := zm (blk_below (zg_3 Za.out) hb); have n1_ := zm (below_step (zg_2 HB.out Zb.out) hb); have n2_ := zm (hbox); have n3_ := zm ((by rw [hg]; exact (below_size (zg_2 HB.out Zb.out)) : w.heap.size ≤ gb581)); have n4_ := zm ((by rw [hg]; exact (below_size (zg_2 HB.out Zb.out)) : w.heap.size ≤ gb581)); have n5_ := zm ((by rw [hg]; exact Nat.ne_of_lt (blk_lt (zg_3 Za.out)) : gb580 ≠ gb581)); have n6_ := zm ((by rw [hg]; exact Nat.ne_of_gt (blk_lt (zg_3 Za.out)) : gb581 ≠ gb580)); replace Za := n0_; replace HB := n1_; have Zc := n2_; have Zl := n3_; have Zf := n4_; have Zd := n5_; have Ze := n6_; clear n0_ n1_ n2_ n3_ n4_ n5_ n6_; clear hb hbox hg; have hnb8 := Zd.out; have hnc8 := Ze.out; obtain ⟨hcz9_0, hcz9_1, hfz9_0, hfz9_1⟩ := zb2 Za.out; obtain ⟨hcz10_0, hcz10_1, hfz10_0, hfz10_1⟩ := zb2 Zc.out) | ((with_reducible refine gate_callee (f := 45) rfl ?_); refine goesL_ (some 14) rfl rfl Tryz.func45 (by kernel_rfl) rfl #[.slice A0_1 l0_1.length c0_1, .slice A1_1 l1_1.length c1_1] rfl zq ?_; (with_reducible refine (laws_eqIntS.calls k _ _ l0_1 _ _ l1_1 true _ ?side1 ?side2 ?side3 ?side4 A4.out).mono ?_); (case side1 => exact zC (Kd.C_below Zg.out HB.out)); (case side2 => exact Zh.out); (case side3 => exact zC (Kd.C_below Zi.out HB.out)); (case side4 => exact Zj.out); rintro e w' ⟨rfl, ⟨nd, rfl⟩⟩; refine ⟨_, rfl, ?_⟩))
   go_ret
   exact ⟨ze, zg_5 HB.out Zb.out Zf.out⟩
  ·replace c5 := Bool.eq_false_iff.mpr c5
   subst c5
   replace H : (some false) = some r := by rw [if_neg (show ¬ (false = true) by decide)] at H; exact H
   obtain rfl := Option.some.inj H
   go_enter Tryz.func92, Tryz.ntmps92
   go_wp2_with (first | ((with_reducible refine gate_dst (N := 2) rfl ?_); refine box_event ?hg (N := 2) ?hd (cs := #[.string a0_0, .slice A0_1 l0_1.length c0_1]) (t := 103) ?hr ?_; (case hd => rfl); (case hg => rfl); (case hr => first | (go_simp; done) | (go_simp; rfl)); intro gb580 hg w11 hbox hb; have n0_ := zm (below_step (zg_1 HB.out) hb); have n1_ := zm (hbox); have n2_ := zm ((by rw [hg]; exact (below_size (zg_1 HB.out)) : w.heap.size ≤ gb580)); have n3_ := zm ((by rw [hg]; exact (below_size (zg_1 HB.out)) : w.heap.size ≤ gb580)); replace HB := n0_; have Za := n1_; have Zk := n2_; have Zb := n3_; clear n0_ n1_ n2_ n3_; clear hb hbox hg) | ((with_reducible refine gate_dst (N := 3) rfl ?_); refine box_event ?hg (N := 3) ?hd (cs := #[.string a1_0, .slice A1_1 l1_1.length c1_1]) (t := 103) ?hr ?_; (case hd => rfl); (case hg => rfl); (case hr => first | (go_simp; done) | (go_simp; rfl)); intro gb581 hg w12 hbox hb; have n0_ := zm (blk_below (zg_3 Za.out) hb); have n1_ := zm (below_step (zg_2 HB.out Zb.out) hb); have n2_ := zm (hbox); have n3_ := zm ((by rw [hg]; exact (below_size (zg_2 HB.out Zb.out)) : w.heap.size ≤ gb581)); have n4_ := zm ((by rw [hg]; exact (below_size (zg_2 HB.out Zb.out)) : w.heap.size ≤ gb581)); have n5_ := zm ((by rw [hg]; exact Nat.ne_of_lt (blk_lt (zg_3 Za.out)) : gb580 ≠ gb581)); have n6_ := zm ((by rw [hg]; exact Nat.ne_of_gt (blk_lt (zg_3 Za.out)) : gb581 ≠ gb580)); replace Za := n0_; replace HB := n1_; have Zc := n2_; have Zl := n3_; have Zf := n4_; have Zd := n5_; have Ze := n6_; clear n0_ n1_ n2_ n3_ n4_ n5_ n6_; clear hb hbox hg; have hnb13 := Zd.out; have hnc13 := Ze.out; obtain ⟨hcz14_0, hcz14_1, hfz14_0, hfz14_1⟩ := zb2 Za.out; obtain ⟨hcz15_0, hcz15_1, hfz15_0, hfz15_1⟩ := zb2 Zc.out) | ((with_reducible refine gate_callee (f := 45) rfl ?_); refine goesL_ (some 14) rfl rfl Tryz.func45 (by kernel_rfl) rfl #[.slice A0_1 l0_1.length c0_1, .slice A1_1 l1_1.length c1_1] rfl zq ?_; (with_reducible refine (laws_eqIntS.calls k _ _ l0_1 _ _ l1_1 false _ ?side1 ?side2 ?side3 ?side4 A4.out).mono ?_); (case side1 => exact zC (Kd.C_below Zg.out HB.out)); (case side2 => exact Zh.out); (case side3 => exact zC (Kd.C_below Zi.out HB.out)); (case side4 => exact Zj.out); rintro e w' ⟨rfl, ⟨nd, rfl⟩⟩; refine ⟨_, rfl, ?_⟩))
   go_ret
   exact ⟨ze, zg_5 HB.out Zb.out Zf.out⟩
 ·rw [if_neg c3] at H
  have c3b0 : (a0_0.toList == a1_0.toList) = false := beq_eq_false_iff_ne.mpr c3
  have c3b1 : (a0_0.toList != a1_0.toList) = true := bne_iff_ne.mpr c3
  obtain rfl := Option.some.inj H
  go_enter Tryz.func92, Tryz.ntmps92
  go_wp2_with (first | ((with_reducible refine gate_dst (N := 2) rfl ?_); refine box_event ?hg (N := 2) ?hd (cs := #[.string a0_0, .slice A0_1 l0_1.length c0_1]) (t := 103) ?hr ?_; (case hd => rfl); (case hg => rfl); (case hr => first | (go_simp; done) | (go_simp; rfl)); intro gb580 hg w16 hbox hb; have n0_ := zm (below_step (zg_1 HB.out) hb); have n1_ := zm (hbox); have n2_ := zm ((by rw [hg]; exact (below_size (zg_1 HB.out)) : w.heap.size ≤ gb580)); have n3_ := zm ((by rw [hg]; exact (below_size (zg_1 HB.out)) : w.heap.size ≤ gb580)); replace HB := n0_; have Za := n1_; have Zk := n2_; have Zb := n3_; clear n0_ n1_ n2_ n3_; clear hb hbox hg) | ((with_reducible refine gate_dst (N := 3) rfl ?_); refine box_event ?hg (N := 3) ?hd (cs := #[.string a1_0, .slice A1_1 l1_1.length c1_1]) (t := 103) ?hr ?_; (case hd => rfl); (case hg => rfl); (case hr => first | (go_simp; done) | (go_simp; rfl)); intro gb581 hg w17 hbox hb; have n0_ := zm (blk_below (zg_3 Za.out) hb); have n1_ := zm (below_step (zg_2 HB.out Zb.out) hb); have n2_ := zm (hbox); have n3_ := zm ((by rw [hg]; exact (below_size (zg_2 HB.out Zb.out)) : w.heap.size ≤ gb581)); have n4_ := zm ((by rw [hg]; exact (below_size (zg_2 HB.out Zb.out)) : w.heap.size ≤ gb581)); have n5_ := zm ((by rw [hg]; exact Nat.ne_of_lt (blk_lt (zg_3 Za.out)) : gb580 ≠ gb581)); have n6_ := zm ((by rw [hg]; exact Nat.ne_of_gt (blk_lt (zg_3 Za.out)) : gb581 ≠ gb580)); replace Za := n0_; replace HB := n1_; have Zc := n2_; have Zl := n3_; have Zf := n4_; have Zd := n5_; have Ze := n6_; clear n0_ n1_ n2_ n3_ n4_ n5_ n6_; clear hb hbox hg; have hnb18 := Zd.out; have hnc18 := Ze.out; obtain ⟨hcz19_0, hcz19_1, hfz19_0, hfz19_1⟩ := zb2 Za.out; obtain ⟨hcz20_0, hcz20_1, hfz20_0, hfz20_1⟩ := zb2 Zc.out))
  go_ret
  exact ⟨ze, zg_5 HB.out Zb.out Zf.out⟩
end Go.Proofs.YtglcnnmobkocmaaGreat.Q
