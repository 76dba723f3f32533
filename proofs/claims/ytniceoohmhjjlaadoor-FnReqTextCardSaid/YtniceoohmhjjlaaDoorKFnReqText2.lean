/- What laws.FnReqText reaches, part 2: the functions as Lean functions, the proofs that the program's functions answer so, and plain laws about them. -/
import Derived.Test.YtniceoohmhjjlaaDoorKFnReqText1
namespace Go.Proofs.YtniceoohmhjjlaaDoor.Q
open Go.RowKit Go.Proofs.YtniceoohmhjjlaaDoor.Ext Go.Proofs.YtniceoohmhjjlaaDoorW.PrintWords Go.Proofs.YtniceoohmhjjlaaDoorW.PrintLast Go.Proofs.YtniceoohmhjjlaaDoorW.PrintMore
attribute [local go_sem] max2_int min2_int max_two min_two max_three min_three max_four min_four   -- for this text's walks alone
set_option linter.unusedVariables false
set_option linter.unusedSimpArgs false

set_option linter.unusedVariables false
set_option linter.unusedSimpArgs false
/-! ### impl_Req_text: function 38 -/
def impl_Req_text.j0 : Nat → ByteArray → Int → Bool → Int → Int → Int → ByteArray → Option (ByteArray)
  | 0, _, _, _, _, _, _, _ => none
  | k + 1, x3, x10, x11, x172000, x172001, x172002, x172003 => if x11 = true then ((impl_said.f (([Any.s x3, Any.n x172001] : List Any))).bind fun t179 => (some t179)) else (if x10 = 2 then ((impl_said.f (([Any.s x3, Any.n x172001, Any.n x172002] : List Any))).bind fun t183 => (some t183)) else (if x10 = 5 then ((impl_said.f (([Any.s x3, Any.s x172003] : List Any))).bind fun t187 => (some t187)) else (if x10 = 6 then ((impl_said.f (([Any.s x3, Any.s x172003] : List Any))).bind fun t191 => (some t191)) else (if x10 = 7 then ((impl_said.f (([Any.s x3, Any.s x172003] : List Any))).bind fun t195 => (some t195)) else (some x3)))))
def impl_Req_text.f (k : Nat) (a0_0 : Int) (a0_1 : Int) (a0_2 : Int) (a0_3 : ByteArray) : Option (ByteArray) := (impl_reqWords.f).bind fun t172 => (if 0 ≤ a0_0 then (if a0_0 < (t172.length : Int) then (if a0_0 = 1 then (impl_Req_text.j0 k (rdOf ByteArray.empty t172 a0_0) a0_0 (a0_0 == 1) a0_0 a0_1 a0_2 a0_3) else (if a0_0 = 3 then (impl_Req_text.j0 k (rdOf ByteArray.empty t172 a0_0) a0_0 (a0_0 == 3) a0_0 a0_1 a0_2 a0_3) else (impl_Req_text.j0 k (rdOf ByteArray.empty t172 a0_0) a0_0 (a0_0 == 4) a0_0 a0_1 a0_2 a0_3))) else (none)) else (none))
theorem impl_Req_text.mono_l : ∀ k, (∀ y0 y1 y2 y3 y4 y5 y6, LeO (impl_Req_text.j0 k y0 y1 y2 y3 y4 y5 y6) (impl_Req_text.j0 (k + 1) y0 y1 y2 y3 y4 y5 y6))
  | 0 => fun _ _ _ _ _ _ _ r h => by simp [impl_Req_text.j0] at h
  | k + 1 => by
    have ih0 := impl_Req_text.mono_l k
    · intro y0 y1 y2 y3 y4 y5 y6
      unfold impl_Req_text.j0
      repeat' first
      | (with_reducible exact ih0 _ _ _ _ _ _ _)
      | (with_reducible exact LeO.refl _)
      | (with_reducible exact LeO.none _)
      | (with_reducible refine LeO.ite ?_ ?_)
      | (with_reducible refine LeO.bind ?_ (fun _ => ?_))
      | exact ih0 _ _ _ _ _ _ _
      | exact LeO.none _
      | refine LeO.ite ?_ ?_
      | refine LeO.bind ?_ (fun _ => ?_)
theorem impl_Req_text.mono : ∀ a0 a1 a2 a3 k, LeO (impl_Req_text.f k a0 a1 a2 a3) (impl_Req_text.f (k + 1) a0 a1 a2 a3) := by
  intro a0 a1 a2 a3 k
  have ih0 := impl_Req_text.mono_l k
  unfold impl_Req_text.f
  repeat' first
      | (with_reducible exact ih0 _ _ _ _ _ _ _)
      | (with_reducible exact LeO.refl _)
      | (with_reducible exact LeO.none _)
      | (with_reducible refine LeO.ite ?_ ?_)
      | (with_reducible refine LeO.bind ?_ (fun _ => ?_))
      | exact ih0 _ _ _ _ _ _ _
      | exact LeO.none _
      | refine LeO.ite ?_ ?_
      | refine LeO.bind ?_ (fun _ => ?_)
set_option maxHeartbeats 8000000 in
set_option maxRecDepth 100000 in
theorem impl_Req_text.calls (k : Nat) (a0_0 : Int) (a0_1 : Int) (a0_2 : Int) (a0_3 : ByteArray) (r : ByteArray) (w : World) (h : impl_Req_text.f k a0_0 a0_1 a0_2 a0_3 = some r) (HTB_ : TrydTab w := by first | exact HTB_ | exact TrydTab.to HTB_ HB.out | exact TrydTab.to HTB_ (by repeat (first | exact HB.out | apply below_alloc | apply pw_below_drewN | apply below_drew1 | refine below_set ?_ (Aside0.out (by assumption))))) :
    Calls Tryd.prog 38 #[.agg #[.int .i64 a0_0, .int .i64 a0_1, .int .i64 a0_2, .string a0_3]] w fun e w' => e = .returned (.string r) ∧ Below w.heap.size w w' := by
 have hu23 := Tryd.underlying23
 have HB := zm (Below.refl w.heap.size w)
 have H : ((impl_reqWords.f).bind fun t172 => (if 0 ≤ a0_0 then (if a0_0 < (t172.length : Int) then (if a0_0 = 1 then (impl_Req_text.j0 k (rdOf ByteArray.empty t172 a0_0) a0_0 (a0_0 == 1) a0_0 a0_1 a0_2 a0_3) else (if a0_0 = 3 then (impl_Req_text.j0 k (rdOf ByteArray.empty t172 a0_0) a0_0 (a0_0 == 3) a0_0 a0_1 a0_2 a0_3) else (impl_Req_text.j0 k (rdOf ByteArray.empty t172 a0_0) a0_0 (a0_0 == 4) a0_0 a0_1 a0_2 a0_3))) else (none)) else (none))) = some r := h
 clear h
 replace H := Option.bind_eq_some_iff.mp H
 obtain ⟨t172, A20, H⟩ := H
 replace H : (if 0 ≤ a0_0 then (if a0_0 < (t172.length : Int) then (if a0_0 = 1 then (impl_Req_text.j0 k (rdOf ByteArray.empty t172 a0_0) a0_0 (a0_0 == 1) a0_0 a0_1 a0_2 a0_3) else (if a0_0 = 3 then (impl_Req_text.j0 k (rdOf ByteArray.empty t172 a0_0) a0_0 (a0_0 == 3) a0_0 a0_1 a0_2 a0_3) else (impl_Req_text.j0 k (rdOf ByteArray.empty t172 a0_0) a0_0 (a0_0 == 4) a0_0 a0_1 a0_2 a0_3))) else (none)) else (none)) = some r := H
 have A2 := zm A20
 clear A20
 by_cases c3 : 0 ≤ a0_0
 ·rw [if_pos c3] at H
  have c3b0 : decide (0 ≤ a0_0) = true := decide_eq_true c3
  clear c3
  by_cases c4 : a0_0 < (t172.length : Int)
  ·rw [if_pos c4] at H
   have c4b0 : decide (a0_0 < (t172.length : Int)) = true := decide_eq_true c4
   clear c4
   have HC5 := zm H
   clear H
   go_enter Tryd.func38, Tryd.ntmps38
   try go_wp2_with (first | ((with_reducible refine gate_dst (N := 1) rfl ?_); refine box_event ?hg (N := 1) ?hd (cs := #[.int .i64 a0_0, .int .i64 a0_1, .int .i64 a0_2, .string a0_3]) (t := 23) ?hr ?_; (case hd => rfl); (case hg => rfl); (case hr => first | (go_simp; done) | (go_simp; rfl)); intro gb171 hg w6 hbox hb; have n0_ := zm (below_step (zg_0 HB.out) hb); have n1_ := zm (hbox); have n2_ := zm ((by rw [hg]; exact (below_size (zg_0 HB.out)) : w.heap.size ≤ gb171)); have n3_ := zm ((by rw [hg]; exact (below_size (zg_0 HB.out)) : w.heap.size ≤ gb171)); clear HB; have HB := n0_; have Za := n1_; have Zi := n2_; have Zb := n3_; clear n0_ n1_ n2_ n3_; clear hb hbox hg))
   have n0_ := zm (blk_drew Za.out)
   have n1_ := zm (below_drew1 HB.out)
   clear Za
   clear HB
   have Za := n0_
   have HB := n1_
   clear n0_ n1_
   refine start_ (n := 6) (S := fun w' => w'.cell? ⟨gb171, 0, none⟩ = some (.int .i64 a0_0) ∧ w'.cell? ⟨gb171, 1, none⟩ = some (.int .i64 a0_1) ∧ w'.cell? ⟨gb171, 2, none⟩ = some (.int .i64 a0_2) ∧ w'.cell? ⟨gb171, 3, none⟩ = some (.string a0_3)) (ds := []) #[false, false, false, false, false, false] (by kernel_rfl) rfl rfl ⟨(blk_cell Za.out 0).trans rfl, (blk_cell Za.out 1).trans rfl, (blk_cell Za.out 2).trans rfl, (blk_cell Za.out 3).trans rfl⟩ (fun hHeld => ?_)
   generalize w6.drew = w7 at Za HB hHeld ⊢
   refine pure_ (i := 1) (N := some 5) (v := ?_) (a' := ?_) #[false, true, false, false, false, false] rfl rfl (by kernel_rfl) (fun _ _ _ h => h) (Or.inl ⟨by rfl, ?_⟩) ?_ ?_
   rotate_left
   ·intro w'
    go_simp
    with_reducible rfl
   rotate_left
   ·simp only [Act.put, zs, zz, zt, i64_w, i32_w]
    rfl
   refine take_ (i := 2) (N := some 6) (v := ?_) (a' := ?_) #[false, true, true, false, false, false] rfl rfl (by kernel_rfl) (fun _ _ _ h => h) (Or.inl ⟨by rfl, ?_⟩) hHeld ?_ ?_
   rotate_left
   ·rintro w' ⟨s0, s1, s2, s3⟩
    go_simp
    with_reducible rfl
   rotate_left
   ·simp only [Act.put, zs, zz, zt, i64_w, i32_w]
    rfl
   refine one_ (i := 0) (N := some 4) #[true, true, true, false, false, false] rfl rfl (by kernel_rfl) (by decide) (fun K hK => ?_)
   refine goes_ Tryd.func68 (by kernel_rfl) rfl #[] (by rfl) rfl rfl zq ?_
   with_reducible refine (impl_reqWords.calls  t172 _ A2.out).mono ?_
   rintro e w8 ⟨v173, rfl, ho0, hb⟩
   refine ⟨_, rfl, ?_⟩
   have n0_ := zm (Kd.R_lower ho0 (below_size (zg_2 HB.out Zb.out)))
   have n1_ := zm (blk_below (g := gb171) (o := .cells #[.int .i64 a0_0, .int .i64 a0_1, .int .i64 a0_2, .string a0_3] 23 (0, 0)) (zg_1 Za.out) hb)
   have n2_ := zm (below_step (zg_2 HB.out Zb.out) hb)
   clear Za
   clear HB
   have Zh := n0_
   have Za := n1_
   have HB := n2_
   clear n0_ n1_ n2_
   (try clear hb)
   (try clear hb2)
   (try clear hk)
   (try clear hi)
   (try clear ho0)
   obtain ⟨Ao9, co9, eo9⟩ := Kd.R_slice Zh.out
   (first | subst eo9 | (injection eo9 with f1_ f2_ f3_; have f4_ := f1_.symm; have f5_ := f3_.symm; clear f1_ f2_ f3_; subst f4_; subst f5_))
   have p175 : 0 ≤ (a0_0 : Int) := zd
   have q175 : a0_0 < (t172.length : Int) := zd
   obtain ⟨ad175, e175, hx175_0⟩ := Kd.at_string (Kd.R_reads' Zh.out).2.2 a0_0 p175 q175
   cases e175
   replace p175 := eq_true p175
   replace q175 := eq_true q175
   refine hK.out _ _ ⟨(blk_cell Za.out 0).trans rfl, (blk_cell Za.out 1).trans rfl, (blk_cell Za.out 2).trans rfl, (blk_cell Za.out 3).trans rfl⟩ (fun hHeld => ?_)
   clear hK K
   refine norm_ (a' := ?_) ?_ ?_
   rotate_left
   ·show Act.put _ (some 4) _ = _
    simp only [Act.put, zs, zz, zt, i64_w, i32_w]
    rfl
   refine pure_ (i := 3) (N := some 7) (v := ?_) (a' := ?_) #[true, true, true, true, false, false] rfl rfl (by kernel_rfl) (fun _ _ _ h => h) (Or.inl ⟨by rfl, ?_⟩) ?_ ?_
   rotate_left
   ·intro w'
    go_simp
    with_reducible rfl
   rotate_left
   ·simp only [Act.put, zs, zz, zt, i64_w, i32_w]
    rfl
   refine one_ (i := 4) (N := some 8) #[true, true, true, true, true, false] rfl rfl (by kernel_rfl) (by decide) (fun K hK => ?_)
   refine value_ (w1 := ?_) (v := ?_) (by rfl) rfl ?_ ?_
   rotate_left 2
   ·go_simp
    constructor
    ·rfl
    ·rfl
   refine hK.out _ _ ⟨(blk_cell Za.out 0).trans rfl, (blk_cell Za.out 1).trans rfl, (blk_cell Za.out 2).trans rfl, (blk_cell Za.out 3).trans rfl⟩ (fun hHeld => ?_)
   clear hK K
   refine norm_ (a' := ?_) ?_ ?_
   rotate_left
   ·show Act.put _ (some 8) _ = _
    simp only [Act.put, zs, zz, zt, i64_w, i32_w]
    rfl
   refine pure_ (i := 5) (N := some 3) (v := ?_) (a' := ?_) #[true, true, true, true, true, true] rfl rfl (by kernel_rfl) (fun _ _ _ h => h) (Or.inl ⟨by rfl, ?_⟩) ?_ ?_
   rotate_left
   ·intro w'
    go_simp
    with_reducible rfl
   rotate_left
   ·simp only [Act.put, zs, zz, zt, i64_w, i32_w]
    rfl
   refine done_ (by kernel_rfl) ?_
   have hcz10_0 : w8.cell? ⟨gb171, 0, none⟩ = some (.int .i64 a0_0) := (blk_cell Za.out 0).trans rfl
   have hcz10_1 : w8.cell? ⟨gb171, 1, none⟩ = some (.int .i64 a0_1) := (blk_cell Za.out 1).trans rfl
   have hcz10_2 : w8.cell? ⟨gb171, 2, none⟩ = some (.int .i64 a0_2) := (blk_cell Za.out 2).trans rfl
   have hcz10_3 : w8.cell? ⟨gb171, 3, none⟩ = some (.string a0_3) := (blk_cell Za.out 3).trans rfl
   have hfz10_0 := blk_frozen Za.out 0
   have hfz10_1 := blk_frozen Za.out 1
   have hfz10_2 := blk_frozen Za.out 2
   have hfz10_3 := blk_frozen Za.out 3
   go_upto_if 11 with (fail)
   go_cut [11] (fun v11 wc => ∃ (kq : Nat) (x11_4 : Bool), v11 = .bool x11_4 ∧ Aside0 (impl_Req_text.j0 kq (rdOf ByteArray.empty t172 a0_0) a0_0 x11_4 a0_0 a0_1 a0_2 a0_3 = some r) ∧ Aside0 (kq ≤ k) ∧ Aside0 (wc.heap[gb171]? = some (.cells #[.int .i64 a0_0, .int .i64 a0_1, .int .i64 a0_2, .string a0_3] 23 (0, 0))) ∧ Aside0 (Below w.heap.size w wc))
   case first =>
    have H := HC5.out
    clear HC5
    by_cases c11 : a0_0 = 1
    ·rw [if_pos c11] at H
     have c11b0 : (a0_0 == 1) = true := beq_iff_eq.mpr c11
     have c11b1 : (a0_0 != 1) = false := bne_eq_false_iff_eq.mpr c11
     clear c11
     (first | rw [c11b0] | (simp only [i64_w, i32_w]; rw [c11b0]) | skip)
     have H' := zm H
     clear H
     go_wp2
     go_meet
     case rel => exact ⟨_, ((a0_0 == 1)), zr, H', ⟨by first | omega | exact Nat.le_refl _⟩, ⟨by (with_reducible repeat (first | refine blk_drewN ?_ _ | refine blk_drew ?_ | refine blk_alloc ?_ _)); exact Za.out⟩, ⟨zg_2 HB.out Zb.out⟩⟩
    ·rw [if_neg c11] at H
     have c11b0 : (a0_0 == 1) = false := beq_eq_false_iff_ne.mpr c11
     have c11b1 : (a0_0 != 1) = true := bne_iff_ne.mpr c11
     (first | rw [c11b0] | (simp only [i64_w, i32_w]; rw [c11b0]) | skip)
     by_cases c12 : a0_0 = 3
     ·rw [if_pos c12] at H
      have c12b0 : (a0_0 == 3) = true := beq_iff_eq.mpr c12
      have c12b1 : (a0_0 != 3) = false := bne_eq_false_iff_eq.mpr c12
      clear c12
      have H' := zm H
      clear H
      go_wp2
      go_meet
      case rel => exact ⟨_, ((a0_0 == 3)), zr, H', ⟨by first | omega | exact Nat.le_refl _⟩, ⟨by (with_reducible repeat (first | refine blk_drewN ?_ _ | refine blk_drew ?_ | refine blk_alloc ?_ _)); exact Za.out⟩, ⟨zg_2 HB.out Zb.out⟩⟩
     ·rw [if_neg c12] at H
      have c12b0 : (a0_0 == 3) = false := beq_eq_false_iff_ne.mpr c12
      have c12b1 : (a0_0 != 3) = true := bne_iff_ne.mpr c12
      have H' := zm H
      clear H
      go_wp2
      go_meet
      case rel => exact ⟨_, ((a0_0 == 4)), zr, H', ⟨by first | omega | exact Nat.le_refl _⟩, ⟨by (with_reducible repeat (first | refine blk_drewN ?_ _ | refine blk_drew ?_ | refine blk_alloc ?_ _)); exact Za.out⟩, ⟨zg_2 HB.out Zb.out⟩⟩
   case rest =>
    clear HC5
    try clear c1
    try clear p1
    try clear q1
    try clear hx1
    try clear p2
    try clear c3
    try clear c3b0
    try clear c4
    try clear c4b0
    try clear c6
    try clear c11
    try clear c11b0
    try clear c11b1
    try clear c12
    try clear c12b0
    try clear c12b1
    try clear hcz10_0
    try clear hcz10_1
    try clear hcz10_2
    try clear hcz10_3
    try clear hfz10_0
    try clear hfz10_1
    try clear hfz10_2
    try clear hfz10_3
    try clear hx175_0
    try clear p175
    try clear q175
    obtain ⟨kq, x11_4, rfl, HA, HJ4, Za, HB⟩ := hcut
    cases kq with
    | zero => exact absurd HA.out (by simp [impl_Req_text.j0])
    | succ kj4 =>
     have H := HA.out
     clear HA
     simp only [impl_Req_text.j0] at H
     by_cases c13 : x11_4 = true
     ·subst c13
      have H1 : ((impl_said.f (([Any.s (rdOf ByteArray.empty t172 a0_0), Any.n a0_1] : List Any))).bind fun t179 => (some t179)) = some r := by rw [if_pos rfl] at H; exact H
      clear H
      have H := H1
      clear H1
      obtain ⟨y176, hy176⟩ : ∃ y_ : List Any, y_ = (([Any.s (rdOf ByteArray.empty t172 a0_0), Any.n a0_1] : List Any)) := ⟨_, rfl⟩
      replace H : ((impl_said.f y176).bind fun t179 => (some t179)) = some r := by first | (rw [hy176]; with_reducible exact H) | (have H2_ := (Option.bind_some _ _).symm.trans H; rw [hy176]; with_reducible exact H2_) | (have H2_ := (Option.bind_some _ _).symm.trans H; with_reducible exact H2_) | with_reducible exact H | (rw [hy176]; exact H) | exact H
      have Ny176 := zm hy176
      clear hy176
      replace H := Option.bind_eq_some_iff.mp H
      obtain ⟨t179, A140, H⟩ := H
      replace H : (some t179) = some r := H
      have A14 := zm A140
      clear A140
      obtain rfl := Option.some.inj H
      have hcz15_0 : wc.cell? ⟨gb171, 0, none⟩ = some (.int .i64 a0_0) := (blk_cell Za.out 0).trans rfl
      have hcz15_1 : wc.cell? ⟨gb171, 1, none⟩ = some (.int .i64 a0_1) := (blk_cell Za.out 1).trans rfl
      have hcz15_2 : wc.cell? ⟨gb171, 2, none⟩ = some (.int .i64 a0_2) := (blk_cell Za.out 2).trans rfl
      have hcz15_3 : wc.cell? ⟨gb171, 3, none⟩ = some (.string a0_3) := (blk_cell Za.out 3).trans rfl
      have hfz15_0 := blk_frozen Za.out 0
      have hfz15_1 := blk_frozen Za.out 1
      have hfz15_2 := blk_frozen Za.out 2
      have hfz15_3 := blk_frozen Za.out 3
      go_wp2_with (first | ((with_reducible refine gate_dst (N := 20) rfl ?_); refine Kd.R_lit kAny _ 20 ?hg (N := 20) ?hd (xs := ([Any.s (rdOf ByteArray.empty t172 a0_0), Any.n a0_1] : List Any)) (inner := [.iface 9 (.string (rdOf ByteArray.empty t172 a0_0)), .iface 3 (.int .i64 a0_1)]) (ok := fun _ => True) (okp := fun _ => True) ?hr ?hp (fun _ hk => hk) trivial (Below.refl _ _) (Nat.le_refl _) (by simp) ?_; (case hd => rfl); (case hg => rfl); (case hr => first | (go_simp; done) | (go_simp; rfl)); (case hp => exact (Reps.one (show Kd.M kAny _ _ _ (Any.s (rdOf ByteArray.empty t172 a0_0)) [.iface 9 (.string (rdOf ByteArray.empty t172 a0_0))] from rfl) (Reps.one (show Kd.M kAny _ _ _ (Any.n a0_1) [.iface 3 (.int .i64 a0_1)] from rfl) (Reps.none _ _)))); intro v177 w16 ho17 hb hg_ hnew_; clear hg_ hnew_; (first | rw [← Ny176.out] at ho17 | (simp only [Int.reduceToNat] at ho17; rw [← Ny176.out] at ho17)); have n0_ := zm (Kd.R_lower ho17 (below_size (zg_2 HB.out Zb.out))); have n1_ := zm (blk_below (g := gb171) (o := .cells #[.int .i64 a0_0, .int .i64 a0_1, .int .i64 a0_2, .string a0_3] 23 (0, 0)) (zg_1 Za.out) hb); have n2_ := zm (below_step (zg_2 HB.out Zb.out) hb); clear Za; clear HB; have Zc := n0_; have Za := n1_; have HB := n2_; clear n0_ n1_ n2_; clear hb ho17; obtain ⟨Ao18, co18, eo18⟩ := Kd.R_slice Zc.out; subst eo18) | ((with_reducible refine gate_callee (f := 70) rfl ?_); refine goesL_ (some 21) rfl rfl Tryd.func70 (by kernel_rfl) rfl #[.slice Ao18 y176.length co18] rfl zq ?_; (with_reducible refine (impl_said.calls _ _ y176 t179 _ ?side1 ?side2 A14.out (HS_ := ?sideS)).mono ?_); (case sideS => rw [Ny176.out]; exact ⟨trivial, trivial, trivial⟩); (case side1 => exact zC ((Kd.R_reads' Zc.out).2.2)); (case side2 => exact (Kd.R_reads' Zc.out).2.1); rintro e w19 ⟨rfl, hb⟩; refine ⟨_, rfl, ?_⟩; have n0_ := zm (Kd.R_below (zg_4 Zc.out) hb); have n1_ := zm (blk_below (g := gb171) (o := .cells #[.int .i64 a0_0, .int .i64 a0_1, .int .i64 a0_2, .string a0_3] 23 (0, 0)) (zg_1 Za.out) hb); have n2_ := zm (below_step (zg_2 HB.out Zb.out) hb); clear Zc; clear Za; clear HB; have Zc := n0_; have Za := n1_; have HB := n2_; clear n0_ n1_ n2_; (try clear hb); (try clear hb2); (try clear hk); (try clear hi)))
      go_ret
      exact ⟨by first | rfl | (simp [errW_none, errW_some] <;> rfl) | (simp [*, errW_none, errW_some] <;> rfl), zg_2 HB.out Zb.out⟩
     ·replace c13 := Bool.eq_false_iff.mpr c13
      subst c13
      have H1 : (if a0_0 = 2 then ((impl_said.f (([Any.s (rdOf ByteArray.empty t172 a0_0), Any.n a0_1, Any.n a0_2] : List Any))).bind fun t183 => (some t183)) else (if a0_0 = 5 then ((impl_said.f (([Any.s (rdOf ByteArray.empty t172 a0_0), Any.s a0_3] : List Any))).bind fun t187 => (some t187)) else (if a0_0 = 6 then ((impl_said.f (([Any.s (rdOf ByteArray.empty t172 a0_0), Any.s a0_3] : List Any))).bind fun t191 => (some t191)) else (if a0_0 = 7 then ((impl_said.f (([Any.s (rdOf ByteArray.empty t172 a0_0), Any.s a0_3] : List Any))).bind fun t195 => (some t195)) else (some (rdOf ByteArray.empty t172 a0_0)))))) = some r := by rw [if_neg (show ¬ (false = true) by decide)] at H; exact H
      clear H
      have H := H1
      clear H1
      by_cases c20 : a0_0 = 2
      ·rw [if_pos c20] at H
       have c20b0 : (a0_0 == 2) = true := beq_iff_eq.mpr c20
       have c20b1 : (a0_0 != 2) = false := bne_eq_false_iff_eq.mpr c20
       clear c20
       obtain ⟨y180, hy180⟩ : ∃ y_ : List Any, y_ = (([Any.s (rdOf ByteArray.empty t172 a0_0), Any.n a0_1, Any.n a0_2] : List Any)) := ⟨_, rfl⟩
       replace H : ((impl_said.f y180).bind fun t183 => (some t183)) = some r := by first | (rw [hy180]; with_reducible exact H) | (have H2_ := (Option.bind_some _ _).symm.trans H; rw [hy180]; with_reducible exact H2_) | (have H2_ := (Option.bind_some _ _).symm.trans H; with_reducible exact H2_) | with_reducible exact H | (rw [hy180]; exact H) | exact H
       have Ny180 := zm hy180
       clear hy180
       replace H := Option.bind_eq_some_iff.mp H
       obtain ⟨t183, A210, H⟩ := H
       replace H : (some t183) = some r := H
       have A21 := zm A210
       clear A210
       obtain rfl := Option.some.inj H
       have hcz22_0 : wc.cell? ⟨gb171, 0, none⟩ = some (.int .i64 a0_0) := (blk_cell Za.out 0).trans rfl
       have hcz22_1 : wc.cell? ⟨gb171, 1, none⟩ = some (.int .i64 a0_1) := (blk_cell Za.out 1).trans rfl
       have hcz22_2 : wc.cell? ⟨gb171, 2, none⟩ = some (.int .i64 a0_2) := (blk_cell Za.out 2).trans rfl
       have hcz22_3 : wc.cell? ⟨gb171, 3, none⟩ = some (.string a0_3) := (blk_cell Za.out 3).trans rfl
       have hfz22_0 := blk_frozen Za.out 0
       have hfz22_1 := blk_frozen Za.out 1
       have hfz22_2 := blk_frozen Za.out 2
       have hfz22_3 := blk_frozen Za.out 3
       go_wp2_with (first | ((with_reducible refine gate_dst (N := 32) rfl ?_); refine Kd.R_lit kAny _ 20 ?hg (N := 32) ?hd (xs := ([Any.s (rdOf ByteArray.empty t172 a0_0), Any.n a0_1, Any.n a0_2] : List Any)) (inner := [.iface 9 (.string (rdOf ByteArray.empty t172 a0_0)), .iface 3 (.int .i64 a0_1), .iface 3 (.int .i64 a0_2)]) (ok := fun _ => True) (okp := fun _ => True) ?hr ?hp (fun _ hk => hk) trivial (Below.refl _ _) (Nat.le_refl _) (by simp) ?_; (case hd => rfl); (case hg => rfl); (case hr => first | (go_simp; done) | (go_simp; rfl)); (case hp => exact (Reps.one (show Kd.M kAny _ _ _ (Any.s (rdOf ByteArray.empty t172 a0_0)) [.iface 9 (.string (rdOf ByteArray.empty t172 a0_0))] from rfl) (Reps.one (show Kd.M kAny _ _ _ (Any.n a0_1) [.iface 3 (.int .i64 a0_1)] from rfl) (Reps.one (show Kd.M kAny _ _ _ (Any.n a0_2) [.iface 3 (.int .i64 a0_2)] from rfl) (Reps.none _ _))))); intro v181 w23 ho24 hb hg_ hnew_; clear hg_ hnew_; (first | rw [← Ny180.out] at ho24 | (simp only [Int.reduceToNat] at ho24; rw [← Ny180.out] at ho24)); have n0_ := zm (Kd.R_lower ho24 (below_size (zg_2 HB.out Zb.out))); have n1_ := zm (blk_below (g := gb171) (o := .cells #[.int .i64 a0_0, .int .i64 a0_1, .int .i64 a0_2, .string a0_3] 23 (0, 0)) (zg_1 Za.out) hb); have n2_ := zm (below_step (zg_2 HB.out Zb.out) hb); clear Za; clear HB; have Zd := n0_; have Za := n1_; have HB := n2_; clear n0_ n1_ n2_; clear hb ho24; obtain ⟨Ao25, co25, eo25⟩ := Kd.R_slice Zd.out; subst eo25) | ((with_reducible refine gate_callee (f := 70) rfl ?_); refine goesL_ (some 33) rfl rfl Tryd.func70 (by kernel_rfl) rfl #[.slice Ao25 y180.length co25] rfl zq ?_; (with_reducible refine (impl_said.calls _ _ y180 t183 _ ?side1 ?side2 A21.out (HS_ := ?sideS)).mono ?_); (case sideS => rw [Ny180.out]; exact ⟨trivial, trivial, trivial, trivial⟩); (case side1 => exact zC ((Kd.R_reads' Zd.out).2.2)); (case side2 => exact (Kd.R_reads' Zd.out).2.1); rintro e w26 ⟨rfl, hb⟩; refine ⟨_, rfl, ?_⟩; have n0_ := zm (Kd.R_below (zg_4 Zd.out) hb); have n1_ := zm (blk_below (g := gb171) (o := .cells #[.int .i64 a0_0, .int .i64 a0_1, .int .i64 a0_2, .string a0_3] 23 (0, 0)) (zg_1 Za.out) hb); have n2_ := zm (below_step (zg_2 HB.out Zb.out) hb); clear Zd; clear Za; clear HB; have Zd := n0_; have Za := n1_; have HB := n2_; clear n0_ n1_ n2_; (try clear hb); (try clear hb2); (try clear hk); (try clear hi)))
       go_ret
       exact ⟨by first | rfl | (simp [errW_none, errW_some] <;> rfl) | (simp [*, errW_none, errW_some] <;> rfl), zg_2 HB.out Zb.out⟩
      ·rw [if_neg c20] at H
       have c20b0 : (a0_0 == 2) = false := beq_eq_false_iff_ne.mpr c20
       have c20b1 : (a0_0 != 2) = true := bne_iff_ne.mpr c20
       by_cases c27 : a0_0 = 5
       ·rw [if_pos c27] at H
        have c27b0 : (a0_0 == 5) = true := beq_iff_eq.mpr c27
        have c27b1 : (a0_0 != 5) = false := bne_eq_false_iff_eq.mpr c27
        clear c27
        obtain ⟨y184, hy184⟩ : ∃ y_ : List Any, y_ = (([Any.s (rdOf ByteArray.empty t172 a0_0), Any.s a0_3] : List Any)) := ⟨_, rfl⟩
        replace H : ((impl_said.f y184).bind fun t187 => (some t187)) = some r := by first | (rw [hy184]; with_reducible exact H) | (have H2_ := (Option.bind_some _ _).symm.trans H; rw [hy184]; with_reducible exact H2_) | (have H2_ := (Option.bind_some _ _).symm.trans H; with_reducible exact H2_) | with_reducible exact H | (rw [hy184]; exact H) | exact H
        have Ny184 := zm hy184
        clear hy184
        replace H := Option.bind_eq_some_iff.mp H
        obtain ⟨t187, A280, H⟩ := H
        replace H : (some t187) = some r := H
        have A28 := zm A280
        clear A280
        obtain rfl := Option.some.inj H
        have hcz29_0 : wc.cell? ⟨gb171, 0, none⟩ = some (.int .i64 a0_0) := (blk_cell Za.out 0).trans rfl
        have hcz29_1 : wc.cell? ⟨gb171, 1, none⟩ = some (.int .i64 a0_1) := (blk_cell Za.out 1).trans rfl
        have hcz29_2 : wc.cell? ⟨gb171, 2, none⟩ = some (.int .i64 a0_2) := (blk_cell Za.out 2).trans rfl
        have hcz29_3 : wc.cell? ⟨gb171, 3, none⟩ = some (.string a0_3) := (blk_cell Za.out 3).trans rfl
        have hfz29_0 := blk_frozen Za.out 0
        have hfz29_1 := blk_frozen Za.out 1
        have hfz29_2 := blk_frozen Za.out 2
        have hfz29_3 := blk_frozen Za.out 3
        go_wp2_with (first | ((with_reducible refine gate_dst (N := 43) rfl ?_); refine Kd.R_lit kAny _ 20 ?hg (N := 43) ?hd (xs := ([Any.s (rdOf ByteArray.empty t172 a0_0), Any.s a0_3] : List Any)) (inner := [.iface 9 (.string (rdOf ByteArray.empty t172 a0_0)), .iface 9 (.string a0_3)]) (ok := fun _ => True) (okp := fun _ => True) ?hr ?hp (fun _ hk => hk) trivial (Below.refl _ _) (Nat.le_refl _) (by simp) ?_; (case hd => rfl); (case hg => rfl); (case hr => first | (go_simp; done) | (go_simp; rfl)); (case hp => exact (Reps.one (show Kd.M kAny _ _ _ (Any.s (rdOf ByteArray.empty t172 a0_0)) [.iface 9 (.string (rdOf ByteArray.empty t172 a0_0))] from rfl) (Reps.one (show Kd.M kAny _ _ _ (Any.s a0_3) [.iface 9 (.string a0_3)] from rfl) (Reps.none _ _)))); intro v185 w30 ho31 hb hg_ hnew_; clear hg_ hnew_; (first | rw [← Ny184.out] at ho31 | (simp only [Int.reduceToNat] at ho31; rw [← Ny184.out] at ho31)); have n0_ := zm (Kd.R_lower ho31 (below_size (zg_2 HB.out Zb.out))); have n1_ := zm (blk_below (g := gb171) (o := .cells #[.int .i64 a0_0, .int .i64 a0_1, .int .i64 a0_2, .string a0_3] 23 (0, 0)) (zg_1 Za.out) hb); have n2_ := zm (below_step (zg_2 HB.out Zb.out) hb); clear Za; clear HB; have Ze := n0_; have Za := n1_; have HB := n2_; clear n0_ n1_ n2_; clear hb ho31; obtain ⟨Ao32, co32, eo32⟩ := Kd.R_slice Ze.out; subst eo32) | ((with_reducible refine gate_callee (f := 70) rfl ?_); refine goesL_ (some 44) rfl rfl Tryd.func70 (by kernel_rfl) rfl #[.slice Ao32 y184.length co32] rfl zq ?_; (with_reducible refine (impl_said.calls _ _ y184 t187 _ ?side1 ?side2 A28.out (HS_ := ?sideS)).mono ?_); (case sideS => rw [Ny184.out]; exact ⟨trivial, trivial, trivial⟩); (case side1 => exact zC ((Kd.R_reads' Ze.out).2.2)); (case side2 => exact (Kd.R_reads' Ze.out).2.1); rintro e w33 ⟨rfl, hb⟩; refine ⟨_, rfl, ?_⟩; have n0_ := zm (Kd.R_below (zg_4 Ze.out) hb); have n1_ := zm (blk_below (g := gb171) (o := .cells #[.int .i64 a0_0, .int .i64 a0_1, .int .i64 a0_2, .string a0_3] 23 (0, 0)) (zg_1 Za.out) hb); have n2_ := zm (below_step (zg_2 HB.out Zb.out) hb); clear Ze; clear Za; clear HB; have Ze := n0_; have Za := n1_; have HB := n2_; clear n0_ n1_ n2_; (try clear hb); (try clear hb2); (try clear hk); (try clear hi)))
        go_ret
        exact ⟨by first | rfl | (simp [errW_none, errW_some] <;> rfl) | (simp [*, errW_none, errW_some] <;> rfl), zg_2 HB.out Zb.out⟩
       ·rw [if_neg c27] at H
        have c27b0 : (a0_0 == 5) = false := beq_eq_false_iff_ne.mpr c27
        have c27b1 : (a0_0 != 5) = true := bne_iff_ne.mpr c27
        by_cases c34 : a0_0 = 6
        ·rw [if_pos c34] at H
         have c34b0 : (a0_0 == 6) = true := beq_iff_eq.mpr c34
         have c34b1 : (a0_0 != 6) = false := bne_eq_false_iff_eq.mpr c34
         clear c34
         obtain ⟨y188, hy188⟩ : ∃ y_ : List Any, y_ = (([Any.s (rdOf ByteArray.empty t172 a0_0), Any.s a0_3] : List Any)) := ⟨_, rfl⟩
         replace H : ((impl_said.f y188).bind fun t191 => (some t191)) = some r := by first | (rw [hy188]; with_reducible exact H) | (have H2_ := (Option.bind_some _ _).symm.trans H; rw [hy188]; with_reducible exact H2_) | (have H2_ := (Option.bind_some _ _).symm.trans H; with_reducible exact H2_) | with_reducible exact H | (rw [hy188]; exact H) | exact H
         have Ny188 := zm hy188
         clear hy188
         replace H := Option.bind_eq_some_iff.mp H
         obtain ⟨t191, A350, H⟩ := H
         replace H : (some t191) = some r := H
         have A35 := zm A350
         clear A350
         obtain rfl := Option.some.inj H
         have hcz36_0 : wc.cell? ⟨gb171, 0, none⟩ = some (.int .i64 a0_0) := (blk_cell Za.out 0).trans rfl
         have hcz36_1 : wc.cell? ⟨gb171, 1, none⟩ = some (.int .i64 a0_1) := (blk_cell Za.out 1).trans rfl
         have hcz36_2 : wc.cell? ⟨gb171, 2, none⟩ = some (.int .i64 a0_2) := (blk_cell Za.out 2).trans rfl
         have hcz36_3 : wc.cell? ⟨gb171, 3, none⟩ = some (.string a0_3) := (blk_cell Za.out 3).trans rfl
         have hfz36_0 := blk_frozen Za.out 0
         have hfz36_1 := blk_frozen Za.out 1
         have hfz36_2 := blk_frozen Za.out 2
         have hfz36_3 := blk_frozen Za.out 3
         go_wp2_with (first | ((with_reducible refine gate_dst (N := 43) rfl ?_); refine Kd.R_lit kAny _ 20 ?hg (N := 43) ?hd (xs := ([Any.s (rdOf ByteArray.empty t172 a0_0), Any.s a0_3] : List Any)) (inner := [.iface 9 (.string (rdOf ByteArray.empty t172 a0_0)), .iface 9 (.string a0_3)]) (ok := fun _ => True) (okp := fun _ => True) ?hr ?hp (fun _ hk => hk) trivial (Below.refl _ _) (Nat.le_refl _) (by simp) ?_; (case hd => rfl); (case hg => rfl); (case hr => first | (go_simp; done) | (go_simp; rfl)); (case hp => exact (Reps.one (show Kd.M kAny _ _ _ (Any.s (rdOf ByteArray.empty t172 a0_0)) [.iface 9 (.string (rdOf ByteArray.empty t172 a0_0))] from rfl) (Reps.one (show Kd.M kAny _ _ _ (Any.s a0_3) [.iface 9 (.string a0_3)] from rfl) (Reps.none _ _)))); intro v189 w37 ho38 hb hg_ hnew_; clear hg_ hnew_; (first | rw [← Ny188.out] at ho38 | (simp only [Int.reduceToNat] at ho38; rw [← Ny188.out] at ho38)); have n0_ := zm (Kd.R_lower ho38 (below_size (zg_2 HB.out Zb.out))); have n1_ := zm (blk_below (g := gb171) (o := .cells #[.int .i64 a0_0, .int .i64 a0_1, .int .i64 a0_2, .string a0_3] 23 (0, 0)) (zg_1 Za.out) hb); have n2_ := zm (below_step (zg_2 HB.out Zb.out) hb); clear Za; clear HB; have Zf := n0_; have Za := n1_; have HB := n2_; clear n0_ n1_ n2_; clear hb ho38; obtain ⟨Ao39, co39, eo39⟩ := Kd.R_slice Zf.out; subst eo39) | ((with_reducible refine gate_callee (f := 70) rfl ?_); refine goesL_ (some 44) rfl rfl Tryd.func70 (by kernel_rfl) rfl #[.slice Ao39 y188.length co39] rfl zq ?_; (with_reducible refine (impl_said.calls _ _ y188 t191 _ ?side1 ?side2 A35.out (HS_ := ?sideS)).mono ?_); (case sideS => rw [Ny188.out]; exact ⟨trivial, trivial, trivial⟩); (case side1 => exact zC ((Kd.R_reads' Zf.out).2.2)); (case side2 => exact (Kd.R_reads' Zf.out).2.1); rintro e w40 ⟨rfl, hb⟩; refine ⟨_, rfl, ?_⟩; have n0_ := zm (Kd.R_below (zg_4 Zf.out) hb); have n1_ := zm (blk_below (g := gb171) (o := .cells #[.int .i64 a0_0, .int .i64 a0_1, .int .i64 a0_2, .string a0_3] 23 (0, 0)) (zg_1 Za.out) hb); have n2_ := zm (below_step (zg_2 HB.out Zb.out) hb); clear Zf; clear Za; clear HB; have Zf := n0_; have Za := n1_; have HB := n2_; clear n0_ n1_ n2_; (try clear hb); (try clear hb2); (try clear hk); (try clear hi)))
         go_ret
         exact ⟨by first | rfl | (simp [errW_none, errW_some] <;> rfl) | (simp [*, errW_none, errW_some] <;> rfl), zg_2 HB.out Zb.out⟩
        ·rw [if_neg c34] at H
         have c34b0 : (a0_0 == 6) = false := beq_eq_false_iff_ne.mpr c34
         have c34b1 : (a0_0 != 6) = true := bne_iff_ne.mpr c34
         by_cases c41 : a0_0 = 7
         ·rw [if_pos c41] at H
          have c41b0 : (a0_0 == 7) = true := beq_iff_eq.mpr c41
          have c41b1 : (a0_0 != 7) = false := bne_eq_false_iff_eq.mpr c41
          clear c41
          obtain ⟨y192, hy192⟩ : ∃ y_ : List Any, y_ = (([Any.s (rdOf ByteArray.empty t172 a0_0), Any.s a0_3] : List Any)) := ⟨_, rfl⟩
          replace H : ((impl_said.f y192).bind fun t195 => (some t195)) = some r := by first | (rw [hy192]; with_reducible exact H) | (have H2_ := (Option.bind_some _ _).symm.trans H; rw [hy192]; with_reducible exact H2_) | (have H2_ := (Option.bind_some _ _).symm.trans H; with_reducible exact H2_) | with_reducible exact H | (rw [hy192]; exact H) | exact H
          have Ny192 := zm hy192
          clear hy192
          replace H := Option.bind_eq_some_iff.mp H
          obtain ⟨t195, A420, H⟩ := H
          replace H : (some t195) = some r := H
          have A42 := zm A420
          clear A420
          obtain rfl := Option.some.inj H
          have hcz43_0 : wc.cell? ⟨gb171, 0, none⟩ = some (.int .i64 a0_0) := (blk_cell Za.out 0).trans rfl
          have hcz43_1 : wc.cell? ⟨gb171, 1, none⟩ = some (.int .i64 a0_1) := (blk_cell Za.out 1).trans rfl
          have hcz43_2 : wc.cell? ⟨gb171, 2, none⟩ = some (.int .i64 a0_2) := (blk_cell Za.out 2).trans rfl
          have hcz43_3 : wc.cell? ⟨gb171, 3, none⟩ = some (.string a0_3) := (blk_cell Za.out 3).trans rfl
          have hfz43_0 := blk_frozen Za.out 0
          have hfz43_1 := blk_frozen Za.out 1
          have hfz43_2 := blk_frozen Za.out 2
          have hfz43_3 := blk_frozen Za.out 3
          go_wp2_with (first | ((with_reducible refine gate_dst (N := 43) rfl ?_); refine Kd.R_lit kAny _ 20 ?hg (N := 43) ?hd (xs := ([Any.s (rdOf ByteArray.empty t172 a0_0), Any.s a0_3] : List Any)) (inner := [.iface 9 (.string (rdOf ByteArray.empty t172 a0_0)), .iface 9 (.string a0_3)]) (ok := fun _ => True) (okp := fun _ => True) ?hr ?hp (fun _ hk => hk) trivial (Below.refl _ _) (Nat.le_refl _) (by simp) ?_; (case hd => rfl); (case hg => rfl); (case hr => first | (go_simp; done) | (go_simp; rfl)); (case hp => exact (Reps.one (show Kd.M kAny _ _ _ (Any.s (rdOf ByteArray.empty t172 a0_0)) [.iface 9 (.string (rdOf ByteArray.empty t172 a0_0))] from rfl) (Reps.one (show Kd.M kAny _ _ _ (Any.s a0_3) [.iface 9 (.string a0_3)] from rfl) (Reps.none _ _)))); intro v193 w44 ho45 hb hg_ hnew_; clear hg_ hnew_; (first | rw [← Ny192.out] at ho45 | (simp only [Int.reduceToNat] at ho45; rw [← Ny192.out] at ho45)); have n0_ := zm (Kd.R_lower ho45 (below_size (zg_2 HB.out Zb.out))); have n1_ := zm (blk_below (g := gb171) (o := .cells #[.int .i64 a0_0, .int .i64 a0_1, .int .i64 a0_2, .string a0_3] 23 (0, 0)) (zg_1 Za.out) hb); have n2_ := zm (below_step (zg_2 HB.out Zb.out) hb); clear Za; clear HB; have Zg := n0_; have Za := n1_; have HB := n2_; clear n0_ n1_ n2_; clear hb ho45; obtain ⟨Ao46, co46, eo46⟩ := Kd.R_slice Zg.out; subst eo46) | ((with_reducible refine gate_callee (f := 70) rfl ?_); refine goesL_ (some 44) rfl rfl Tryd.func70 (by kernel_rfl) rfl #[.slice Ao46 y192.length co46] rfl zq ?_; (with_reducible refine (impl_said.calls _ _ y192 t195 _ ?side1 ?side2 A42.out (HS_ := ?sideS)).mono ?_); (case sideS => rw [Ny192.out]; exact ⟨trivial, trivial, trivial⟩); (case side1 => exact zC ((Kd.R_reads' Zg.out).2.2)); (case side2 => exact (Kd.R_reads' Zg.out).2.1); rintro e w47 ⟨rfl, hb⟩; refine ⟨_, rfl, ?_⟩; have n0_ := zm (Kd.R_below (zg_4 Zg.out) hb); have n1_ := zm (blk_below (g := gb171) (o := .cells #[.int .i64 a0_0, .int .i64 a0_1, .int .i64 a0_2, .string a0_3] 23 (0, 0)) (zg_1 Za.out) hb); have n2_ := zm (below_step (zg_2 HB.out Zb.out) hb); clear Zg; clear Za; clear HB; have Zg := n0_; have Za := n1_; have HB := n2_; clear n0_ n1_ n2_; (try clear hb); (try clear hb2); (try clear hk); (try clear hi)))
          go_ret
          exact ⟨by first | rfl | (simp [errW_none, errW_some] <;> rfl) | (simp [*, errW_none, errW_some] <;> rfl), zg_2 HB.out Zb.out⟩
         ·rw [if_neg c41] at H
          have c41b0 : (a0_0 == 7) = false := beq_eq_false_iff_ne.mpr c41
          have c41b1 : (a0_0 != 7) = true := bne_iff_ne.mpr c41
          obtain rfl := Option.some.inj H
          go_wp2
          go_ret
          exact ⟨by first | rfl | (simp [errW_none, errW_some] <;> rfl) | (simp [*, errW_none, errW_some] <;> rfl), zg_2 HB.out Zb.out⟩
  ·rw [if_neg c4] at H
   exact absurd H (by simp)
 ·rw [if_neg c3] at H
  exact absurd H (by simp)
/-! ### impl_readNumber: function 69 -/
def impl_readNumber.f (a0 : ByteArray) : Option (Int × Bool) := if a0.size ≤ 1000000 then (match Lib.atoiAll a0.data.toList with
  | .ok v => (impl_isNumber.f v).bind fun b => if b = true then (strconv_Itoa_95.f v).bind fun t => some (v, t.toList == a0.toList) else some (v, false)
  | .range => some (Lib.atoiSat a0.data.toList, false)
  | _ => some (0, false)) else none
set_option maxHeartbeats 4000000 in
set_option maxRecDepth 100000 in
theorem impl_readNumber.calls (a0 : ByteArray) (r0 : Int) (r1 : Bool) (w : World) (h : impl_readNumber.f a0 = some (r0, r1)) (HTB_ : TrydTab w := by first | exact HTB_ | exact TrydTab.to HTB_ HB.out | exact TrydTab.to HTB_ (by repeat (first | exact HB.out | apply below_alloc | apply pw_below_drewN | apply below_drew1 | refine below_set ?_ (Aside0.out (by assumption))))) :
    Calls Tryd.prog 69 #[.string a0] w fun e w' => e = .returned (.tuple #[.int .i64 r0, .bool r1]) ∧ Below w.heap.size w w' := by
 unfold impl_readNumber.f at h
 by_cases hs : a0.size ≤ 1000000
 ·rw [if_pos hs] at h
  have HS := zm hs
  have HB := zm (Below.refl w.heap.size w)
  cases hx : Lib.atoiAll a0.data.toList with
  | ok v =>
   rw [hx] at h
   have h := h
   obtain ⟨b, hb, h⟩ := Option.bind_eq_some_iff.mp h
   have HX := zm (Any.strconv_Atoi_ok Tryd.laysAtoi a0 (by omega) v hx w)
   have HI := zm hb
   clear hx hb hs
   cases b with
   | true =>
    rw [if_pos rfl] at h
    obtain ⟨t, ht, h⟩ := Option.bind_eq_some_iff.mp h
    have HT := zm ht
    obtain ⟨rfl, rfl⟩ := Prod.mk.inj (Option.some.inj h)
    clear h ht
    go_enter Tryd.func69, Tryd.ntmps69
    go_wp2_with (first
     | ((with_reducible refine gate_callee (f := 94) rfl ?_); refine goesL_ (some 8) rfl rfl Tryd.func94 (by kernel_rfl) rfl #[.string a0] rfl (by (try simp only [List.map_toArray, List.map_cons, List.map_nil]); first | done | rfl) ?_; refine HX.out.mono ?_; rintro e w2 ⟨rfl, hw⟩; refine ⟨_, rfl, ?_⟩; have B2 := zm (show Below w.heap.size w w2 from by (rcases hw with rfl | ⟨t_, rfl⟩ <;> first | exact Below.refl _ _ | exact Lib.bytesWorld_below _ _ _)); have T2 := zm (TrydTab.to HTB_ B2.out); clear hw HB HX)
     | (go_at_call 48; (with_reducible refine (impl_isNumber.calls v true _ HI.out).mono ?_); rintro e w' ⟨rfl, ⟨nd, rfl⟩⟩)
     | (go_at_call 95; (with_reducible refine (strconv_Itoa_95.calls v t _ HT.out (HTB_ := ?tab)).mono ?_); (case tab => exact TrydTab.to T2.out (by repeat (first | exact (Below.refl _ _) | apply below_alloc | apply pw_below_drewN | apply below_drew1))); rintro e w3 ⟨rfl, hb⟩; have B3 := zm (below_step (by repeat (with_reducible first | exact B2.out | apply below_alloc | apply pw_below_drewN | apply below_drew1)) hb); clear hb))
    go_ret2
    exact ⟨zr, by repeat (with_reducible first | exact B3.out | apply below_alloc | apply pw_below_drewN | apply below_drew1)⟩
   | false =>
    rw [if_neg (by decide)] at h
    obtain ⟨rfl, rfl⟩ := Prod.mk.inj (Option.some.inj h)
    clear h
    go_enter Tryd.func69, Tryd.ntmps69
    go_wp2_with (first
     | ((with_reducible refine gate_callee (f := 94) rfl ?_); refine goesL_ (some 8) rfl rfl Tryd.func94 (by kernel_rfl) rfl #[.string a0] rfl (by (try simp only [List.map_toArray, List.map_cons, List.map_nil]); first | done | rfl) ?_; refine HX.out.mono ?_; rintro e w2 ⟨rfl, hw⟩; refine ⟨_, rfl, ?_⟩; have B2 := zm (show Below w.heap.size w w2 from by (rcases hw with rfl | ⟨t_, rfl⟩ <;> first | exact Below.refl _ _ | exact Lib.bytesWorld_below _ _ _)); clear hw HB HX)
     | (go_at_call 48; (with_reducible refine (impl_isNumber.calls v false _ HI.out).mono ?_); rintro e w' ⟨rfl, ⟨nd, rfl⟩⟩))
    go_ret2
    exact ⟨zr, by repeat (with_reducible first | exact B2.out | apply below_alloc | apply pw_below_drewN | apply below_drew1)⟩
  | range =>
   rw [hx] at h
   obtain ⟨ev, hv, hev⟩ := HTB_.2.2.2
   have HX := zm (Any.strconv_Atoi_range Tryd.laysAtoi a0 (by omega) hx ev w hv hev)
   obtain ⟨rfl, rfl⟩ := Prod.mk.inj (Option.some.inj h)
   clear hx h hs hv hev
   go_enter Tryd.func69, Tryd.ntmps69
   go_wp2_with (first
    | ((with_reducible refine gate_callee (f := 94) rfl ?_); refine goesL_ (some 8) rfl rfl Tryd.func94 (by kernel_rfl) rfl #[.string a0] rfl (by (try simp only [List.map_toArray, List.map_cons, List.map_nil]); first | done | rfl) ?_; refine HX.out.mono ?_; rintro e w2 ⟨N_, rfl, _, _, hb⟩; refine ⟨_, rfl, ?_⟩; have B2 := zm hb; clear hb HB HX))
   go_ret2
   exact ⟨zr, by repeat (with_reducible first | exact B2.out | apply below_alloc | apply pw_below_drewN | apply below_drew1)⟩
  | _ =>
   rw [hx] at h
   obtain ⟨ev, hv, hev⟩ := HTB_.2.2.1
   have HX := zm (Any.strconv_Atoi_syntax Tryd.laysAtoi a0 (by omega) hx ev w hv hev)
   obtain ⟨rfl, rfl⟩ := Prod.mk.inj (Option.some.inj h)
   clear hx h hs hv hev
   go_enter Tryd.func69, Tryd.ntmps69
   go_wp2_with (first
    | ((with_reducible refine gate_callee (f := 94) rfl ?_); refine goesL_ (some 8) rfl rfl Tryd.func94 (by kernel_rfl) rfl #[.string a0] rfl (by (try simp only [List.map_toArray, List.map_cons, List.map_nil]); first | done | rfl) ?_; refine HX.out.mono ?_; rintro e w2 ⟨N_, rfl, _, _, hb⟩; refine ⟨_, rfl, ?_⟩; have B2 := zm hb; clear hb HB HX))
   go_ret2
   exact ⟨zr, by repeat (with_reducible first | exact B2.out | apply below_alloc | apply pw_below_drewN | apply below_drew1)⟩
 ·rw [if_neg hs] at h; cases h
end Go.Proofs.YtniceoohmhjjlaaDoor.Q
