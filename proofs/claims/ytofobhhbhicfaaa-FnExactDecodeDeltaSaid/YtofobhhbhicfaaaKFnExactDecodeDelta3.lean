/- What laws.FnExactDecodeDelta reaches, part 3: the functions as Lean functions, the proofs that the program's functions answer so, and plain laws about them. -/
import Derived.Test.YtofobhhbhicfaaaKFnExactDecodeDelta2
namespace Go.Proofs.Ytofobhhbhicfaaa.Q
open Go.RowKit Go.Proofs.Ytofobhhbhicfaaa.Ext Go.Proofs.YtofobhhbhicfaaaW.PrintWords Go.Proofs.YtofobhhbhicfaaaW.PrintLast Go.Proofs.YtofobhhbhicfaaaW.PrintMore
attribute [local go_sem] max2_int min2_int max_two min_two max_three min_three max_four min_four   -- for this text's walks alone
set_option linter.unusedVariables false
set_option linter.unusedSimpArgs false

set_option linter.unusedVariables false
set_option linter.unusedSimpArgs false
/-! ### OpenI -/
theorem isNumber_eq (n : Int) : impl_isNumber.f n = some (inB n 0 2147483647) := by simp only [impl_isNumber.f, within_eq, Option.bind_some]
theorem all_number (l : List Int) : all128_impl_isNumber.f l () = some (l.all (fun n => inB n 0 2147483647)) := by
  unfold all128_impl_isNumber.f; exact allO_some _ _ (fun x _ => isNumber_eq x)
theorem impl_areInts_eq (l : List Int) : impl_areInts.f l = some (intsOK l) := by
  unfold impl_areInts.f intsOK
  by_cases h : (l.length : Int) ≤ 16
  · rw [if_pos h, all_number]; simp [h]
  · rw [if_neg h]; simp [h]
theorem intsOK_take (l : List Int) : intsOK (l.take 17) = intsOK l := by
  by_cases h : l.length ≤ 16
  · rw [List.take_of_length_le (by omega)]
  · have h1 : intsOK l = false := by simp [intsOK]; intro _; omega
    have h2 : intsOK (l.take 17) = false := by simp [intsOK]; intro _; omega
    rw [h1, h2]
theorem impl_unpack_end (t : ByteArray) (l : List Int) : (if ((t.size : Int) % 4) = 0 then ((impl_areInts.f l).bind fun t529 => (some (l, t529))) else (some (l, false))) = some (l, decide (t.size % 4 = 0) && intsOK l) := by
  by_cases h : t.size % 4 = 0
  · rw [if_pos (by omega), impl_areInts_eq]; simp [h]
  · rw [if_neg (by omega)]; simp [h]
theorem impl_unpack_from (t : ByteArray) (ht : t.size ≤ 1000000000) (d : Nat) : ∀ (k j : Nat), j ≤ 17 → j ≤ t.size / 4 → 17 - j = d → d < k →
    impl_unpack.l0 k t ((numsP t).take j) ((4 * j : Nat) : Int) = some ((numsP t).take 17, decide (t.size % 4 = 0) && intsOK ((numsP t).take 17)) := by
  induction d with
  | zero =>
    intro k j hj hj2 hd hk
    obtain ⟨k, rfl⟩ : ∃ m, k = m + 1 := ⟨k - 1, by omega⟩
    obtain rfl : j = 17 := by omega
    simp only [impl_unpack.l0]
    by_cases h : wrap64 (((4 * 17 : Nat) : Int) + 4) ≤ (t.size : Int)
    · rw [if_pos h, if_neg (by omega)]; exact impl_unpack_end t _
    · rw [if_neg h]; exact impl_unpack_end t _
  | succ d ih =>
    intro k j hj hj2 hd hk
    obtain ⟨k, rfl⟩ : ∃ m, k = m + 1 := ⟨k - 1, by omega⟩
    have hi : 4 * j < 1000000000000 := by omega
    have hlen : ((numsP t).take j).length ≤ t.size / 4 := by rw [List.length_take, numsP_length]; omega
    have e4 : wrap64 (((4 * j : Nat) : Int) + 4) = ((4 * j + 4 : Nat) : Int) := up_to _ hi 4 (by omega)
    have e3 : wrap64 (((4 * j : Nat) : Int) + 3) = ((4 * j + 3 : Nat) : Int) := up_to _ hi 3 (by omega)
    have e2 : wrap64 (((4 * j : Nat) : Int) + 2) = ((4 * j + 2 : Nat) : Int) := up_to _ hi 2 (by omega)
    have e1 : wrap64 (((4 * j : Nat) : Int) + 1) = ((4 * j + 1 : Nat) : Int) := up_to _ hi 1 (by omega)
    simp only [impl_unpack.l0]
    rw [e4, e3, e2, e1]
    by_cases h : 4 * j + 4 ≤ t.size
    · rw [if_pos (by omega), if_pos (by omega), if_pos (by omega), if_pos (by omega), if_pos (by omega), if_pos (by omega), if_pos (by omega), if_pos (by omega), if_pos (by omega), if_pos (by omega), if_pos (by omega)]
      rw [four_down (bt_nn _ _) (bt_lt _ _) (bt_nn _ _) (bt_lt _ _) (bt_nn _ _) (bt_lt _ _) (bt_nn _ _) (bt_lt _ _)]
      have := ih k (j + 1) (by omega) (by omega) (by omega) (by omega)
      rw [numsP_take t j (by omega)] at this
      exact this
    · rw [if_neg (by omega)]
      have e : (numsP t).take j = (numsP t).take 17 := by
        rw [List.take_of_length_le (by rw [numsP_length]; omega), List.take_of_length_le (by rw [numsP_length]; omega)]
      rw [e]; exact impl_unpack_end t _
theorem impl_unpack_ev (t : ByteArray) (ht : t.size ≤ 1000000000) : Ev (fun k => impl_unpack.f k t) ((numsP t).take 17, decide (t.size % 4 = 0) && intsOK (numsP t)) :=
  ⟨18, fun k hk => by have := impl_unpack_from t ht 17 k 0 (by omega) (by omega) (by omega) (by omega); rw [intsOK_take] at this; simpa [impl_unpack.f] using this⟩
def openL (t : ByteArray) : List Int := if t.size < 4 ∨ t.size > 80 ∨ inB (bt t 0) 1 9 = false then [] else (recNums t).take 17
theorem recOK_openL {t : ByteArray} {kind : Int} (h : recOK t kind = true) : openL t = recNums t := by
  obtain ⟨h1, h2, h3, h4, h5, h6⟩ := recOK_iff.1 h
  have hl : (recNums t).length ≤ 16 := by
    simp only [intsOK, Bool.and_eq_true, decide_eq_true_eq] at h5
    omega
  have hs : t.size ≤ 80 := by
    unfold recNums at hl; rw [numsP_length] at hl; rw [ext_size] at hl h4; omega
  unfold openL
  rw [if_neg (by rw [h2]; simp [h3]; omega), List.take_of_length_le (by omega)]
theorem recOK_long {t : ByteArray} {kind : Int} (h : t.size > 80) : recOK t kind = false := by
  refine recOK_no (fun hr => ?_)
  obtain ⟨h1, h2, h3, h4, h5, h6⟩ := hr
  simp only [intsOK, Bool.and_eq_true, decide_eq_true_eq] at h5
  have := h5.2
  unfold recNums at this
  rw [numsP_length] at this; rw [ext_size] at this h4; omega
theorem impl_open_ev (t : ByteArray) (kind : Int) (ht : t.size ≤ 1000000000) : Ev (fun k => impl_open.f k t kind) (openL t, recOK t kind) := by
  unfold impl_open.f impl_opened.f
  have hbad : ∀ (g : Nat → Option (Int × List Int × Bool)), openL t = [] → recOK t kind = false → Ev g (0, [], false) → Ev (fun k => (g k).bind fun bt537 => (if bt537.2.2 = true then (some (bt537.2.1, (bt537.1 == kind))) else (some (bt537.2.1, false)))) (openL t, recOK t kind) := by
    intro g h1 h2 hg
    rw [h1, h2]
    exact ev_bind hg (ev_neg (by simp) (ev_some _))
  by_cases h1 : t.size < 4
  · refine hbad _ (by simp [openL, h1]) (recOK_no (by omega)) (ev_pos (by omega) (Ev.step (f := fun _ => some (0, [], false)) (fun k => by simp [impl_opened.j0]) (ev_some _)))
  · by_cases h2 : t.size > 80
    · refine hbad _ (by simp [openL, h2]) (recOK_long h2) (ev_neg (by omega) (ev_pos (by omega) (Ev.step (f := fun _ => some (0, [], false)) (fun k => by simp [impl_opened.j0]) (ev_some _))))
    · by_cases h3 : inB (bt t 0) 1 9 = true
      · have hL : openL t = (recNums t).take 17 := by unfold openL; rw [if_neg (by simp [h3]; omega)]
        have hO : Ev (fun k => if (t.size : Int) < 4 then impl_opened.j0 k t true else (if (t.size : Int) > 80 then impl_opened.j0 k t true else (if 0 < (t.size : Int) then ((impl_isKind.f (wrap64 (bt t 0))).bind fun t531 => (impl_opened.j0 k t (!t531))) else none))) (bt t 0, openL t, bodyOK t (bt t 0)) := by
          refine ev_neg (by omega) (ev_neg (by omega) (ev_pos (by omega) ?_))
          rw [bt0]
          simp only [impl_isKind.f, within_eq, Option.bind_some, h3, Bool.not_true]
          refine Ev.step (f := fun k => (impl_unpack.f k (t.extract 4 t.size)).bind fun bt532 => (if bt532.2 = true then ((impl_seal.f k (bt t 0) bt532.1).bind fun t536 => (some (bt t 0, bt532.1, (t536.toList == t.toList)))) else (some (bt t 0, bt532.1, false)))) (fun k => ?_) ?_
          · simp only [impl_opened.j0, Bool.false_eq_true, if_false, bt0]; rw [if_pos (by omega)]
            congr 1; funext b; rw [if_pos (by omega)]
          · refine ev_bind (impl_unpack_ev _ (by rw [ext_size]; omega)) ?_
            show Ev (fun n => if (decide ((t.extract 4 t.size).size % 4 = 0) && intsOK (recNums t)) = true then ((impl_seal.f n (bt t 0) ((recNums t).take 17)).bind fun t536 => (some (bt t 0, (recNums t).take 17, (t536.toList == t.toList)))) else some (bt t 0, (recNums t).take 17, false)) _
            rw [hL]
            by_cases h4 : (t.extract 4 t.size).size % 4 = 0 ∧ intsOK (recNums t) = true
            · have hl : (recNums t).length ≤ 16 := by
                have := h4.2
                simp only [intsOK, Bool.and_eq_true, decide_eq_true_eq] at this
                omega
              have ht17 : (recNums t).take 17 = recNums t := List.take_of_length_le (by omega)
              refine ev_pos (by simp only [h4.1, h4.2, decide_true, Bool.and_self]) ?_
              rw [ht17]
              refine ev_bind (impl_seal_ev (bt t 0) _ (by omega)) ?_
              have e : (((sealP (bt t 0) (recNums t)).toList == t.toList) : Bool) = bodyOK t (bt t 0) := by
                rw [Bool.eq_iff_iff, bodyOK_iff]; simp only [beq_iff_eq, toList_inj]
                exact ⟨fun h => ⟨h4.1, h4.2, h⟩, fun h => h.2.2⟩
              rw [e]
              exact ev_some _
            · refine ev_neg (by simp only [Bool.and_eq_true, decide_eq_true_eq]; exact h4) ?_
              have : bodyOK t (bt t 0) = false := by
                cases hb : bodyOK t (bt t 0) with
                | false => rfl
                | true => have := bodyOK_iff.1 hb; exact absurd ⟨this.1, this.2.1⟩ h4
              rw [this]
              exact ev_some _
        refine ev_bind hO ?_
        show Ev (fun n => if bodyOK t (bt t 0) = true then some (openL t, bt t 0 == kind) else some (openL t, false)) _
        by_cases h5 : bodyOK t (bt t 0) = true
        · refine ev_pos h5 ?_
          by_cases h6 : bt t 0 = kind
          · have hr : recOK t kind = true := recOK_iff.2 ⟨by omega, h6, by rw [← h6]; exact h3, by rw [← h6]; exact bodyOK_iff.1 h5⟩
            rw [hr]
            simp only [h6, beq_self_eq_true]
            exact ev_some _
          · rw [recOK_no (fun h => h6 h.2.1)]
            have : (bt t 0 == kind) = false := by simp [h6]
            rw [this]
            exact ev_some _
        · refine ev_neg h5 ?_
          rw [recOK_no (fun h => h5 (bodyOK_iff.2 (by have := h.2.2.2; rw [← h.2.1] at this; exact this)))]
          exact ev_some _
      · have h3' : inB (bt t 0) 1 9 = false := by simpa using h3
        refine hbad _ (by simp [openL, h3']) (recOK_no (fun h => h3 (by have := h.2.2.1; rw [← h.2.1] at this; exact this))) (ev_neg (by omega) (ev_neg (by omega) (ev_pos (by omega) ?_)))
        rw [bt0]
        simp only [impl_isKind.f, within_eq, Option.bind_some, h3', Bool.not_false]
        exact Ev.step (f := fun _ => some (0, [], false)) (fun k => by simp [impl_opened.j0]) (ev_some _)
/-! ### impl_Delta_text: function 69 -/
def impl_Delta_text.f (k : Nat) (a0_0 : Int) (a0_1 : Int) (a0_2 : Int) : Option (ByteArray) := (impl_seal.f k 9 (([a0_0, a0_1, a0_2] : List Int))).bind fun t203 => (some t203)
theorem impl_Delta_text.mono : ∀ a0 a1 a2 k, LeO (impl_Delta_text.f k a0 a1 a2) (impl_Delta_text.f (k + 1) a0 a1 a2) := by
  intro a0 a1 a2 k
  unfold impl_Delta_text.f
  repeat' first
      | (with_reducible exact impl_seal.mono _ _ _)
      | (with_reducible exact LeO.refl _)
      | (with_reducible exact LeO.none _)
      | (with_reducible refine LeO.ite ?_ ?_)
      | (with_reducible refine LeO.bind ?_ (fun _ => ?_))
      | exact impl_seal.mono _ _ _
      | exact LeO.none _
      | refine LeO.ite ?_ ?_
      | refine LeO.bind ?_ (fun _ => ?_)
set_option maxHeartbeats 8000000 in
set_option maxRecDepth 100000 in
theorem impl_Delta_text.calls (k : Nat) (a0_0 : Int) (a0_1 : Int) (a0_2 : Int) (r : ByteArray) (w : World) (h : impl_Delta_text.f k a0_0 a0_1 a0_2 = some r) :
    Calls Try.prog 69 #[.agg #[.int .i64 a0_0, .int .i64 a0_1, .int .i64 a0_2]] w fun e w' => e = .returned (.string r) ∧ Below w.heap.size w w' := by
  have hu36 := Try.underlying36
  have HB := Aside0.mk (Below.refl w.heap.size w)
  have H : ((impl_seal.f k 9 (([a0_0, a0_1, a0_2] : List Int))).bind fun t203 => (some t203)) = some r := h
  clear h
  obtain ⟨y200, hy200⟩ : ∃ y_ : List Int, y_ = (([a0_0, a0_1, a0_2] : List Int)) := ⟨_, rfl⟩
  replace H : ((impl_seal.f k 9 y200).bind fun t203 => (some t203)) = some r := by first | (rw [hy200]; with_reducible exact H) | (have H2_ := (Option.bind_some _ _).symm.trans H; rw [hy200]; with_reducible exact H2_) | (have H2_ := (Option.bind_some _ _).symm.trans H; with_reducible exact H2_) | with_reducible exact H | (rw [hy200]; exact H) | exact H
  have Ny200 := Aside0.mk hy200
  clear hy200
  replace H := Option.bind_eq_some_iff.mp H
  obtain ⟨t203, A20, H⟩ := H
  replace H : (some t203) = some r := H
  have A2 := Aside0.mk A20
  clear A20
  obtain rfl := Option.some.inj H
  go_enter Try.func69, Try.ntmps69
  go_wp2_with (first | ((with_reducible refine gate_dst (N := 1) rfl ?_); refine box_event ?hg (N := 1) ?hd (cs := #[.int .i64 a0_0, .int .i64 a0_1, .int .i64 a0_2]) (t := 36) ?hr ?_; (case hd => rfl); (case hg => rfl); (case hr => first | (go_simp; done) | (go_simp; rfl)); intro gb199 hg w3 hbox hb; have n0_ := Aside0.mk (below_step (by repeat (first | (with_reducible first | exact HB.out | apply below_alloc | apply pw_below_drewN | apply below_drew1) | exact HB.out)) hb); have n1_ := Aside0.mk (hbox); have n2_ := Aside0.mk ((by rw [hg]; exact (below_size (by repeat (first | (with_reducible first | exact HB.out | apply below_alloc | apply pw_below_drewN | apply below_drew1) | exact HB.out))) : w.heap.size ≤ gb199)); have n3_ := Aside0.mk ((by rw [hg]; exact (below_size (by repeat (first | (with_reducible first | exact HB.out | apply below_alloc | apply pw_below_drewN | apply below_drew1) | exact HB.out))) : w.heap.size ≤ gb199)); clear HB; have HB := n0_; have BK199 := n1_; have GW199 := n2_; have GE199 := n3_; clear n0_ n1_ n2_ n3_; clear hb hbox hg; have hcz4_0 : w3.cell? ⟨gb199, 0, none⟩ = some (.int .i64 a0_0) := (blk_cell BK199.out 0).trans rfl; have hcz4_1 : w3.cell? ⟨gb199, 1, none⟩ = some (.int .i64 a0_1) := (blk_cell BK199.out 1).trans rfl; have hcz4_2 : w3.cell? ⟨gb199, 2, none⟩ = some (.int .i64 a0_2) := (blk_cell BK199.out 2).trans rfl; have hfz4_0 := blk_frozen BK199.out 0; have hfz4_1 := blk_frozen BK199.out 1; have hfz4_2 := blk_frozen BK199.out 2) | ((with_reducible refine gate_dst (N := 9) rfl ?_); refine Kd.R_lit (Kd.int .i64) _ 3 ?hg (N := 9) ?hd (xs := ([a0_0, a0_1, a0_2] : List Int)) (inner := [.int .i64 a0_0, .int .i64 a0_1, .int .i64 a0_2]) (ok := fun _ => True) (okp := fun _ => True) ?hr ?hp (fun _ hk => hk) trivial (Below.refl _ _) (Nat.le_refl _) (by simp) ?_; (case hd => rfl); (case hg => rfl); (case hr => first | (go_simp; done) | (go_simp; rfl)); (case hp => exact (Reps.one (show Kd.M (Kd.int .i64) _ _ _ a0_0 [.int .i64 a0_0] from rfl) (Reps.one (show Kd.M (Kd.int .i64) _ _ _ a0_1 [.int .i64 a0_1] from rfl) (Reps.one (show Kd.M (Kd.int .i64) _ _ _ a0_2 [.int .i64 a0_2] from rfl) (Reps.none _ _))))); intro v201 w5 ho6 hb hg_ hnew_; clear hg_ hnew_; (first | rw [← Ny200.out] at ho6 | (simp only [Int.reduceToNat] at ho6; rw [← Ny200.out] at ho6)); have n0_ := Aside0.mk (Kd.R_lower ho6 (below_size (by repeat (first | (with_reducible first | exact HB.out | apply below_alloc | apply pw_below_drewN | apply below_drew1 | refine below_set ?_ GE199.out) | exact HB.out)))); have n1_ := Aside0.mk (blk_below (g := gb199) (o := .cells #[.int .i64 a0_0, .int .i64 a0_1, .int .i64 a0_2] 36 (0, 0)) (by (with_reducible repeat (first | refine blk_drewN ?_ _ | refine blk_drew ?_ | refine blk_alloc ?_ _)); exact BK199.out) hb); have n2_ := Aside0.mk (below_step (by repeat (first | (with_reducible first | exact HB.out | apply below_alloc | apply pw_below_drewN | apply below_drew1 | refine below_set ?_ GE199.out) | exact HB.out)) hb); clear BK199; clear HB; have HO202 := n0_; have BK199 := n1_; have HB := n2_; clear n0_ n1_ n2_; clear hb ho6; obtain ⟨Ao7, co7, eo7⟩ := Kd.R_slice HO202.out; subst eo7) | ((with_reducible refine gate_callee (f := 110) rfl ?_); refine goesL_ (some 10) rfl rfl Try.func110 (by kernel_rfl) rfl #[.int .i64 9, .slice Ao7 y200.length co7] rfl (by (try simp only [List.map_toArray, List.map_cons, List.map_nil]); first | done | rfl | (simp only [List.length_drop, List.length_take]; rfl)) ?_; (with_reducible refine (impl_seal.calls k 9 _ _ y200 t203 _ ?side1 ?side2 A2.out).mono ?_); (case side1 => repeat (first | exact (Kd.R_reads' HO202.out).2.2 | (with_reducible refine Kd.C_alloc ?_ _) | (with_reducible refine Kd.C_drewN ?_ _) | (with_reducible refine Kd.C_drew ?_))); (case side2 => exact (Kd.R_reads' HO202.out).2.1); rintro e w8 ⟨rfl, hb⟩; refine ⟨_, rfl, ?_⟩; have n0_ := Aside0.mk (Kd.R_below (by (with_reducible repeat (first | apply Kd.R_alloc | apply Kd.R_drewN | apply Kd.R_drew)); exact HO202.out) hb); have n1_ := Aside0.mk (blk_below (g := gb199) (o := .cells #[.int .i64 a0_0, .int .i64 a0_1, .int .i64 a0_2] 36 (0, 0)) (by (with_reducible repeat (first | refine blk_drewN ?_ _ | refine blk_drew ?_ | refine blk_alloc ?_ _)); exact BK199.out) hb); have n2_ := Aside0.mk (below_step (by repeat (first | (with_reducible first | exact HB.out | apply below_alloc | apply pw_below_drewN | apply below_drew1 | refine below_set ?_ GE199.out) | exact HB.out)) hb); clear HO202; clear BK199; clear HB; have HO202 := n0_; have BK199 := n1_; have HB := n2_; clear n0_ n1_ n2_; (try clear hb); (try clear hb2); (try clear hk); (try clear hi)))
  go_ret
  exact ⟨by first | rfl | (simp [errW_none, errW_some] <;> rfl) | (simp [*, errW_none, errW_some] <;> rfl), by repeat (first | (with_reducible first | exact HB.out | apply below_alloc | apply pw_below_drewN | apply below_drew1 | refine below_set ?_ GE199.out) | exact HB.out)⟩
/-! ### impl_EncodeDelta: function 23 -/
def impl_EncodeDelta.f (k : Nat) (a0_0 : Int) (a0_1 : Int) (a0_2 : Int) : Option (ByteArray × Int) := (impl_DeltaOK.f a0_0 a0_1 a0_2).bind fun t205 => (if t205 = true then ((impl_Delta_text.f k a0_0 a0_1 a0_2).bind fun t206 => (some (t206, 0))) else (some ((⟨#[]⟩ : ByteArray), 1)))
theorem impl_EncodeDelta.mono : ∀ a0 a1 a2 k, LeO (impl_EncodeDelta.f k a0 a1 a2) (impl_EncodeDelta.f (k + 1) a0 a1 a2) := by
  intro a0 a1 a2 k
  unfold impl_EncodeDelta.f
  repeat' first
      | (with_reducible exact impl_Delta_text.mono _ _ _ _)
      | (with_reducible exact LeO.refl _)
      | (with_reducible exact LeO.none _)
      | (with_reducible refine LeO.ite ?_ ?_)
      | (with_reducible refine LeO.bind ?_ (fun _ => ?_))
      | exact impl_Delta_text.mono _ _ _ _
      | exact LeO.none _
      | refine LeO.ite ?_ ?_
      | refine LeO.bind ?_ (fun _ => ?_)
set_option maxHeartbeats 8000000 in
set_option maxRecDepth 100000 in
theorem impl_EncodeDelta.calls (k : Nat) (a0_0 : Int) (a0_1 : Int) (a0_2 : Int) (r1 : ByteArray) (r2 : Int) (w : World) (h : impl_EncodeDelta.f k a0_0 a0_1 a0_2 = some (r1, r2)) :
    Calls Try.prog 23 #[.agg #[.int .i64 a0_0, .int .i64 a0_1, .int .i64 a0_2]] w fun e w' => e = .returned (.tuple #[.string r1, .int .i64 r2]) ∧ Below w.heap.size w w' := by
  have hu36 := Try.underlying36
  have HB := Aside0.mk (Below.refl w.heap.size w)
  have H : ((impl_DeltaOK.f a0_0 a0_1 a0_2).bind fun t205 => (if t205 = true then ((impl_Delta_text.f k a0_0 a0_1 a0_2).bind fun t206 => (some (t206, 0))) else (some ((⟨#[]⟩ : ByteArray), 1)))) = some (r1, r2) := h
  clear h
  replace H := Option.bind_eq_some_iff.mp H
  obtain ⟨t205, A20, H⟩ := H
  replace H : (if t205 = true then ((impl_Delta_text.f k a0_0 a0_1 a0_2).bind fun t206 => (some (t206, 0))) else (some ((⟨#[]⟩ : ByteArray), 1))) = some (r1, r2) := H
  have A2 := Aside0.mk A20
  clear A20
  by_cases c3 : t205 = true
  · subst c3
    have H1 : ((impl_Delta_text.f k a0_0 a0_1 a0_2).bind fun t206 => (some (t206, 0))) = some (r1, r2) := by rw [if_pos rfl] at H; exact H
    clear H
    have H := H1
    clear H1
    replace H := Option.bind_eq_some_iff.mp H
    obtain ⟨t206, A40, H⟩ := H
    replace H : (some (t206, 0)) = some (r1, r2) := H
    have A4 := Aside0.mk A40
    clear A40
    simp only [Option.some.injEq, Prod.mk.injEq] at H
    obtain ⟨rfl, rfl⟩ := H
    go_enter Try.func23, Try.ntmps23
    go_wp2_with (first | ((with_reducible refine gate_dst (N := 1) rfl ?_); refine box_event ?hg (N := 1) ?hd (cs := #[.int .i64 a0_0, .int .i64 a0_1, .int .i64 a0_2]) (t := 36) ?hr ?_; (case hd => rfl); (case hg => rfl); (case hr => first | (go_simp; done) | (go_simp; rfl)); intro gb204 hg w5 hbox hb; have n0_ := Aside0.mk (below_step (by repeat (first | (with_reducible first | exact HB.out | apply below_alloc | apply pw_below_drewN | apply below_drew1) | exact HB.out)) hb); have n1_ := Aside0.mk (hbox); have n2_ := Aside0.mk ((by rw [hg]; exact (below_size (by repeat (first | (with_reducible first | exact HB.out | apply below_alloc | apply pw_below_drewN | apply below_drew1) | exact HB.out))) : w.heap.size ≤ gb204)); have n3_ := Aside0.mk ((by rw [hg]; exact (below_size (by repeat (first | (with_reducible first | exact HB.out | apply below_alloc | apply pw_below_drewN | apply below_drew1) | exact HB.out))) : w.heap.size ≤ gb204)); clear HB; have HB := n0_; have BK204 := n1_; have GW204 := n2_; have GE204 := n3_; clear n0_ n1_ n2_ n3_; clear hb hbox hg; have hcz6_0 : w5.cell? ⟨gb204, 0, none⟩ = some (.int .i64 a0_0) := (blk_cell BK204.out 0).trans rfl; have hcz6_1 : w5.cell? ⟨gb204, 1, none⟩ = some (.int .i64 a0_1) := (blk_cell BK204.out 1).trans rfl; have hcz6_2 : w5.cell? ⟨gb204, 2, none⟩ = some (.int .i64 a0_2) := (blk_cell BK204.out 2).trans rfl; have hfz6_0 := blk_frozen BK204.out 0; have hfz6_1 := blk_frozen BK204.out 1; have hfz6_2 := blk_frozen BK204.out 2) | ((with_reducible refine gate_callee (f := 68) rfl ?_); refine goesL_ (some 5) rfl rfl Try.func68 (by kernel_rfl) rfl #[.agg #[.int .i64 a0_0, .int .i64 a0_1, .int .i64 a0_2]] rfl (by (try simp only [List.map_toArray, List.map_cons, List.map_nil]); first | done | rfl | (simp only [List.length_drop, List.length_take]; rfl)) ?_; (with_reducible refine (impl_DeltaOK.calls a0_0 a0_1 a0_2 true _ A2.out).mono ?_); rintro e w7 ⟨rfl, hb⟩; refine ⟨_, rfl, ?_⟩; have n0_ := Aside0.mk (blk_below (g := gb204) (o := .cells #[.int .i64 a0_0, .int .i64 a0_1, .int .i64 a0_2] 36 (0, 0)) (by (with_reducible repeat (first | refine blk_drewN ?_ _ | refine blk_drew ?_ | refine blk_alloc ?_ _)); exact BK204.out) hb); have n1_ := Aside0.mk (below_step (by repeat (first | (with_reducible first | exact HB.out | apply below_alloc | apply pw_below_drewN | apply below_drew1 | refine below_set ?_ GE204.out) | exact HB.out)) hb); clear BK204; clear HB; have BK204 := n0_; have HB := n1_; clear n0_ n1_; (try clear hb); (try clear hb2); (try clear hk); (try clear hi); have hcz8_0 : w7.cell? ⟨gb204, 0, none⟩ = some (.int .i64 a0_0) := (blk_cell BK204.out 0).trans rfl; have hcz8_1 : w7.cell? ⟨gb204, 1, none⟩ = some (.int .i64 a0_1) := (blk_cell BK204.out 1).trans rfl; have hcz8_2 : w7.cell? ⟨gb204, 2, none⟩ = some (.int .i64 a0_2) := (blk_cell BK204.out 2).trans rfl; have hfz8_0 := blk_frozen BK204.out 0; have hfz8_1 := blk_frozen BK204.out 1; have hfz8_2 := blk_frozen BK204.out 2) | ((with_reducible refine gate_callee (f := 69) rfl ?_); refine goesL_ (some 8) rfl rfl Try.func69 (by kernel_rfl) rfl #[.agg #[.int .i64 a0_0, .int .i64 a0_1, .int .i64 a0_2]] rfl (by (try simp only [List.map_toArray, List.map_cons, List.map_nil]); first | done | rfl | (simp only [List.length_drop, List.length_take]; rfl)) ?_; (with_reducible refine (impl_Delta_text.calls k a0_0 a0_1 a0_2 t206 _ A4.out).mono ?_); rintro e w9 ⟨rfl, hb⟩; refine ⟨_, rfl, ?_⟩; have n0_ := Aside0.mk (blk_below (g := gb204) (o := .cells #[.int .i64 a0_0, .int .i64 a0_1, .int .i64 a0_2] 36 (0, 0)) (by (with_reducible repeat (first | refine blk_drewN ?_ _ | refine blk_drew ?_ | refine blk_alloc ?_ _)); exact BK204.out) hb); have n1_ := Aside0.mk (below_step (by repeat (first | (with_reducible first | exact HB.out | apply below_alloc | apply pw_below_drewN | apply below_drew1 | refine below_set ?_ GE204.out) | exact HB.out)) hb); clear BK204; clear HB; have BK204 := n0_; have HB := n1_; clear n0_ n1_; (try clear hb); (try clear hb2); (try clear hk); (try clear hi)))
    go_ret2
    exact ⟨by first | rfl | (simp [errW_none, errW_some] <;> rfl) | (simp [*, errW_none, errW_some] <;> rfl), by repeat (first | (with_reducible first | exact HB.out | apply below_alloc | apply pw_below_drewN | apply below_drew1 | refine below_set ?_ GE204.out) | exact HB.out)⟩
  · replace c3 := Bool.eq_false_iff.mpr c3
    subst c3
    have H1 : (some ((⟨#[]⟩ : ByteArray), 1)) = some (r1, r2) := by rw [if_neg (show ¬ (false = true) by decide)] at H; exact H
    clear H
    have H := H1
    clear H1
    simp only [Option.some.injEq, Prod.mk.injEq] at H
    obtain ⟨rfl, rfl⟩ := H
    go_enter Try.func23, Try.ntmps23
    go_wp2_with (first | ((with_reducible refine gate_dst (N := 1) rfl ?_); refine box_event ?hg (N := 1) ?hd (cs := #[.int .i64 a0_0, .int .i64 a0_1, .int .i64 a0_2]) (t := 36) ?hr ?_; (case hd => rfl); (case hg => rfl); (case hr => first | (go_simp; done) | (go_simp; rfl)); intro gb204 hg w10 hbox hb; have n0_ := Aside0.mk (below_step (by repeat (first | (with_reducible first | exact HB.out | apply below_alloc | apply pw_below_drewN | apply below_drew1) | exact HB.out)) hb); have n1_ := Aside0.mk (hbox); have n2_ := Aside0.mk ((by rw [hg]; exact (below_size (by repeat (first | (with_reducible first | exact HB.out | apply below_alloc | apply pw_below_drewN | apply below_drew1) | exact HB.out))) : w.heap.size ≤ gb204)); have n3_ := Aside0.mk ((by rw [hg]; exact (below_size (by repeat (first | (with_reducible first | exact HB.out | apply below_alloc | apply pw_below_drewN | apply below_drew1) | exact HB.out))) : w.heap.size ≤ gb204)); clear HB; have HB := n0_; have BK204 := n1_; have GW204 := n2_; have GE204 := n3_; clear n0_ n1_ n2_ n3_; clear hb hbox hg; have hcz11_0 : w10.cell? ⟨gb204, 0, none⟩ = some (.int .i64 a0_0) := (blk_cell BK204.out 0).trans rfl; have hcz11_1 : w10.cell? ⟨gb204, 1, none⟩ = some (.int .i64 a0_1) := (blk_cell BK204.out 1).trans rfl; have hcz11_2 : w10.cell? ⟨gb204, 2, none⟩ = some (.int .i64 a0_2) := (blk_cell BK204.out 2).trans rfl; have hfz11_0 := blk_frozen BK204.out 0; have hfz11_1 := blk_frozen BK204.out 1; have hfz11_2 := blk_frozen BK204.out 2) | ((with_reducible refine gate_callee (f := 68) rfl ?_); refine goesL_ (some 5) rfl rfl Try.func68 (by kernel_rfl) rfl #[.agg #[.int .i64 a0_0, .int .i64 a0_1, .int .i64 a0_2]] rfl (by (try simp only [List.map_toArray, List.map_cons, List.map_nil]); first | done | rfl | (simp only [List.length_drop, List.length_take]; rfl)) ?_; (with_reducible refine (impl_DeltaOK.calls a0_0 a0_1 a0_2 false _ A2.out).mono ?_); rintro e w12 ⟨rfl, hb⟩; refine ⟨_, rfl, ?_⟩; have n0_ := Aside0.mk (blk_below (g := gb204) (o := .cells #[.int .i64 a0_0, .int .i64 a0_1, .int .i64 a0_2] 36 (0, 0)) (by (with_reducible repeat (first | refine blk_drewN ?_ _ | refine blk_drew ?_ | refine blk_alloc ?_ _)); exact BK204.out) hb); have n1_ := Aside0.mk (below_step (by repeat (first | (with_reducible first | exact HB.out | apply below_alloc | apply pw_below_drewN | apply below_drew1 | refine below_set ?_ GE204.out) | exact HB.out)) hb); clear BK204; clear HB; have BK204 := n0_; have HB := n1_; clear n0_ n1_; (try clear hb); (try clear hb2); (try clear hk); (try clear hi)))
    go_ret2
    exact ⟨by first | rfl | (simp [errW_none, errW_some] <;> rfl) | (simp [*, errW_none, errW_some] <;> rfl), by repeat (first | (with_reducible first | exact HB.out | apply below_alloc | apply pw_below_drewN | apply below_drew1 | refine below_set ?_ GE204.out) | exact HB.out)⟩
/-! ### spec_l04Encode: function 67 -/
def spec_l04Encode.f (k : Nat) (a0_0 : Int) (a0_1 : Int) (a0_2 : Int) : Option (ByteArray) := (spec_l02Seal.f k 9 (([a0_0, a0_1, a0_2] : List Int))).bind fun t167 => (some t167)
theorem spec_l04Encode.mono : ∀ a0 a1 a2 k, LeO (spec_l04Encode.f k a0 a1 a2) (spec_l04Encode.f (k + 1) a0 a1 a2) := by
  intro a0 a1 a2 k
  unfold spec_l04Encode.f
  repeat' first
      | (with_reducible exact spec_l02Seal.mono _ _ _)
      | (with_reducible exact LeO.refl _)
      | (with_reducible exact LeO.none _)
      | (with_reducible refine LeO.ite ?_ ?_)
      | (with_reducible refine LeO.bind ?_ (fun _ => ?_))
      | exact spec_l02Seal.mono _ _ _
      | exact LeO.none _
      | refine LeO.ite ?_ ?_
      | refine LeO.bind ?_ (fun _ => ?_)
set_option maxHeartbeats 8000000 in
set_option maxRecDepth 100000 in
theorem spec_l04Encode.calls (k : Nat) (a0_0 : Int) (a0_1 : Int) (a0_2 : Int) (r : ByteArray) (w : World) (h : spec_l04Encode.f k a0_0 a0_1 a0_2 = some r) :
    Calls Try.prog 67 #[.agg #[.int .i64 a0_0, .int .i64 a0_1, .int .i64 a0_2]] w fun e w' => e = .returned (.string r) ∧ Below w.heap.size w w' := by
  have hu36 := Try.underlying36
  have HB := Aside0.mk (Below.refl w.heap.size w)
  have H : ((spec_l02Seal.f k 9 (([a0_0, a0_1, a0_2] : List Int))).bind fun t167 => (some t167)) = some r := h
  clear h
  obtain ⟨y164, hy164⟩ : ∃ y_ : List Int, y_ = (([a0_0, a0_1, a0_2] : List Int)) := ⟨_, rfl⟩
  replace H : ((spec_l02Seal.f k 9 y164).bind fun t167 => (some t167)) = some r := by first | (rw [hy164]; with_reducible exact H) | (have H2_ := (Option.bind_some _ _).symm.trans H; rw [hy164]; with_reducible exact H2_) | (have H2_ := (Option.bind_some _ _).symm.trans H; with_reducible exact H2_) | with_reducible exact H | (rw [hy164]; exact H) | exact H
  have Ny164 := Aside0.mk hy164
  clear hy164
  replace H := Option.bind_eq_some_iff.mp H
  obtain ⟨t167, A20, H⟩ := H
  replace H : (some t167) = some r := H
  have A2 := Aside0.mk A20
  clear A20
  obtain rfl := Option.some.inj H
  go_enter Try.func67, Try.ntmps67
  go_wp2_with (first | ((with_reducible refine gate_dst (N := 1) rfl ?_); refine box_event ?hg (N := 1) ?hd (cs := #[.int .i64 a0_0, .int .i64 a0_1, .int .i64 a0_2]) (t := 36) ?hr ?_; (case hd => rfl); (case hg => rfl); (case hr => first | (go_simp; done) | (go_simp; rfl)); intro gb163 hg w3 hbox hb; have n0_ := Aside0.mk (below_step (by repeat (first | (with_reducible first | exact HB.out | apply below_alloc | apply pw_below_drewN | apply below_drew1) | exact HB.out)) hb); have n1_ := Aside0.mk (hbox); have n2_ := Aside0.mk ((by rw [hg]; exact (below_size (by repeat (first | (with_reducible first | exact HB.out | apply below_alloc | apply pw_below_drewN | apply below_drew1) | exact HB.out))) : w.heap.size ≤ gb163)); have n3_ := Aside0.mk ((by rw [hg]; exact (below_size (by repeat (first | (with_reducible first | exact HB.out | apply below_alloc | apply pw_below_drewN | apply below_drew1) | exact HB.out))) : w.heap.size ≤ gb163)); clear HB; have HB := n0_; have BK163 := n1_; have GW163 := n2_; have GE163 := n3_; clear n0_ n1_ n2_ n3_; clear hb hbox hg; have hcz4_0 : w3.cell? ⟨gb163, 0, none⟩ = some (.int .i64 a0_0) := (blk_cell BK163.out 0).trans rfl; have hcz4_1 : w3.cell? ⟨gb163, 1, none⟩ = some (.int .i64 a0_1) := (blk_cell BK163.out 1).trans rfl; have hcz4_2 : w3.cell? ⟨gb163, 2, none⟩ = some (.int .i64 a0_2) := (blk_cell BK163.out 2).trans rfl; have hfz4_0 := blk_frozen BK163.out 0; have hfz4_1 := blk_frozen BK163.out 1; have hfz4_2 := blk_frozen BK163.out 2) | ((with_reducible refine gate_dst (N := 9) rfl ?_); refine Kd.R_lit (Kd.int .i64) _ 3 ?hg (N := 9) ?hd (xs := ([a0_0, a0_1, a0_2] : List Int)) (inner := [.int .i64 a0_0, .int .i64 a0_1, .int .i64 a0_2]) (ok := fun _ => True) (okp := fun _ => True) ?hr ?hp (fun _ hk => hk) trivial (Below.refl _ _) (Nat.le_refl _) (by simp) ?_; (case hd => rfl); (case hg => rfl); (case hr => first | (go_simp; done) | (go_simp; rfl)); (case hp => exact (Reps.one (show Kd.M (Kd.int .i64) _ _ _ a0_0 [.int .i64 a0_0] from rfl) (Reps.one (show Kd.M (Kd.int .i64) _ _ _ a0_1 [.int .i64 a0_1] from rfl) (Reps.one (show Kd.M (Kd.int .i64) _ _ _ a0_2 [.int .i64 a0_2] from rfl) (Reps.none _ _))))); intro v165 w5 ho6 hb hg_ hnew_; clear hg_ hnew_; (first | rw [← Ny164.out] at ho6 | (simp only [Int.reduceToNat] at ho6; rw [← Ny164.out] at ho6)); have n0_ := Aside0.mk (Kd.R_lower ho6 (below_size (by repeat (first | (with_reducible first | exact HB.out | apply below_alloc | apply pw_below_drewN | apply below_drew1 | refine below_set ?_ GE163.out) | exact HB.out)))); have n1_ := Aside0.mk (blk_below (g := gb163) (o := .cells #[.int .i64 a0_0, .int .i64 a0_1, .int .i64 a0_2] 36 (0, 0)) (by (with_reducible repeat (first | refine blk_drewN ?_ _ | refine blk_drew ?_ | refine blk_alloc ?_ _)); exact BK163.out) hb); have n2_ := Aside0.mk (below_step (by repeat (first | (with_reducible first | exact HB.out | apply below_alloc | apply pw_below_drewN | apply below_drew1 | refine below_set ?_ GE163.out) | exact HB.out)) hb); clear BK163; clear HB; have HO166 := n0_; have BK163 := n1_; have HB := n2_; clear n0_ n1_ n2_; clear hb ho6; obtain ⟨Ao7, co7, eo7⟩ := Kd.R_slice HO166.out; subst eo7) | ((with_reducible refine gate_callee (f := 106) rfl ?_); refine goesL_ (some 10) rfl rfl Try.func106 (by kernel_rfl) rfl #[.int .i64 9, .slice Ao7 y164.length co7] rfl (by (try simp only [List.map_toArray, List.map_cons, List.map_nil]); first | done | rfl | (simp only [List.length_drop, List.length_take]; rfl)) ?_; (with_reducible refine (spec_l02Seal.calls k 9 _ _ y164 t167 _ ?side1 ?side2 A2.out).mono ?_); (case side1 => repeat (first | exact (Kd.R_reads' HO166.out).2.2 | (with_reducible refine Kd.C_alloc ?_ _) | (with_reducible refine Kd.C_drewN ?_ _) | (with_reducible refine Kd.C_drew ?_))); (case side2 => exact (Kd.R_reads' HO166.out).2.1); rintro e w8 ⟨rfl, hb⟩; refine ⟨_, rfl, ?_⟩; have n0_ := Aside0.mk (Kd.R_below (by (with_reducible repeat (first | apply Kd.R_alloc | apply Kd.R_drewN | apply Kd.R_drew)); exact HO166.out) hb); have n1_ := Aside0.mk (blk_below (g := gb163) (o := .cells #[.int .i64 a0_0, .int .i64 a0_1, .int .i64 a0_2] 36 (0, 0)) (by (with_reducible repeat (first | refine blk_drewN ?_ _ | refine blk_drew ?_ | refine blk_alloc ?_ _)); exact BK163.out) hb); have n2_ := Aside0.mk (below_step (by repeat (first | (with_reducible first | exact HB.out | apply below_alloc | apply pw_below_drewN | apply below_drew1 | refine below_set ?_ GE163.out) | exact HB.out)) hb); clear HO166; clear BK163; clear HB; have HO166 := n0_; have BK163 := n1_; have HB := n2_; clear n0_ n1_ n2_; (try clear hb); (try clear hb2); (try clear hk); (try clear hi)))
  go_ret
  exact ⟨by first | rfl | (simp [errW_none, errW_some] <;> rfl) | (simp [*, errW_none, errW_some] <;> rfl), by repeat (first | (with_reducible first | exact HB.out | apply below_alloc | apply pw_below_drewN | apply below_drew1 | refine below_set ?_ GE163.out) | exact HB.out)⟩
/-! ### spec_EncodeDelta: function 21 -/
def spec_EncodeDelta.f (k : Nat) (a0_0 : Int) (a0_1 : Int) (a0_2 : Int) : Option (ByteArray × Int) := (spec_DeltaOK.f a0_0 a0_1 a0_2).bind fun t169 => (if t169 = true then ((spec_l04Encode.f k a0_0 a0_1 a0_2).bind fun t170 => (some (t170, 0))) else (some ((⟨#[]⟩ : ByteArray), 1)))
theorem spec_EncodeDelta.mono : ∀ a0 a1 a2 k, LeO (spec_EncodeDelta.f k a0 a1 a2) (spec_EncodeDelta.f (k + 1) a0 a1 a2) := by
  intro a0 a1 a2 k
  unfold spec_EncodeDelta.f
  repeat' first
      | (with_reducible exact spec_l04Encode.mono _ _ _ _)
      | (with_reducible exact LeO.refl _)
      | (with_reducible exact LeO.none _)
      | (with_reducible refine LeO.ite ?_ ?_)
      | (with_reducible refine LeO.bind ?_ (fun _ => ?_))
      | exact spec_l04Encode.mono _ _ _ _
      | exact LeO.none _
      | refine LeO.ite ?_ ?_
      | refine LeO.bind ?_ (fun _ => ?_)
set_option maxHeartbeats 8000000 in
set_option maxRecDepth 100000 in
theorem spec_EncodeDelta.calls (k : Nat) (a0_0 : Int) (a0_1 : Int) (a0_2 : Int) (r1 : ByteArray) (r2 : Int) (w : World) (h : spec_EncodeDelta.f k a0_0 a0_1 a0_2 = some (r1, r2)) :
    Calls Try.prog 21 #[.agg #[.int .i64 a0_0, .int .i64 a0_1, .int .i64 a0_2]] w fun e w' => e = .returned (.tuple #[.string r1, .int .i64 r2]) ∧ Below w.heap.size w w' := by
  have hu36 := Try.underlying36
  have HB := Aside0.mk (Below.refl w.heap.size w)
  have H : ((spec_DeltaOK.f a0_0 a0_1 a0_2).bind fun t169 => (if t169 = true then ((spec_l04Encode.f k a0_0 a0_1 a0_2).bind fun t170 => (some (t170, 0))) else (some ((⟨#[]⟩ : ByteArray), 1)))) = some (r1, r2) := h
  clear h
  replace H := Option.bind_eq_some_iff.mp H
  obtain ⟨t169, A20, H⟩ := H
  replace H : (if t169 = true then ((spec_l04Encode.f k a0_0 a0_1 a0_2).bind fun t170 => (some (t170, 0))) else (some ((⟨#[]⟩ : ByteArray), 1))) = some (r1, r2) := H
  have A2 := Aside0.mk A20
  clear A20
  by_cases c3 : t169 = true
  · subst c3
    have H1 : ((spec_l04Encode.f k a0_0 a0_1 a0_2).bind fun t170 => (some (t170, 0))) = some (r1, r2) := by rw [if_pos rfl] at H; exact H
    clear H
    have H := H1
    clear H1
    replace H := Option.bind_eq_some_iff.mp H
    obtain ⟨t170, A40, H⟩ := H
    replace H : (some (t170, 0)) = some (r1, r2) := H
    have A4 := Aside0.mk A40
    clear A40
    simp only [Option.some.injEq, Prod.mk.injEq] at H
    obtain ⟨rfl, rfl⟩ := H
    go_enter Try.func21, Try.ntmps21
    go_wp2_with (first | ((with_reducible refine gate_dst (N := 1) rfl ?_); refine box_event ?hg (N := 1) ?hd (cs := #[.int .i64 a0_0, .int .i64 a0_1, .int .i64 a0_2]) (t := 36) ?hr ?_; (case hd => rfl); (case hg => rfl); (case hr => first | (go_simp; done) | (go_simp; rfl)); intro gb168 hg w5 hbox hb; have n0_ := Aside0.mk (below_step (by repeat (first | (with_reducible first | exact HB.out | apply below_alloc | apply pw_below_drewN | apply below_drew1) | exact HB.out)) hb); have n1_ := Aside0.mk (hbox); have n2_ := Aside0.mk ((by rw [hg]; exact (below_size (by repeat (first | (with_reducible first | exact HB.out | apply below_alloc | apply pw_below_drewN | apply below_drew1) | exact HB.out))) : w.heap.size ≤ gb168)); have n3_ := Aside0.mk ((by rw [hg]; exact (below_size (by repeat (first | (with_reducible first | exact HB.out | apply below_alloc | apply pw_below_drewN | apply below_drew1) | exact HB.out))) : w.heap.size ≤ gb168)); clear HB; have HB := n0_; have BK168 := n1_; have GW168 := n2_; have GE168 := n3_; clear n0_ n1_ n2_ n3_; clear hb hbox hg; have hcz6_0 : w5.cell? ⟨gb168, 0, none⟩ = some (.int .i64 a0_0) := (blk_cell BK168.out 0).trans rfl; have hcz6_1 : w5.cell? ⟨gb168, 1, none⟩ = some (.int .i64 a0_1) := (blk_cell BK168.out 1).trans rfl; have hcz6_2 : w5.cell? ⟨gb168, 2, none⟩ = some (.int .i64 a0_2) := (blk_cell BK168.out 2).trans rfl; have hfz6_0 := blk_frozen BK168.out 0; have hfz6_1 := blk_frozen BK168.out 1; have hfz6_2 := blk_frozen BK168.out 2) | ((with_reducible refine gate_callee (f := 66) rfl ?_); refine goesL_ (some 5) rfl rfl Try.func66 (by kernel_rfl) rfl #[.agg #[.int .i64 a0_0, .int .i64 a0_1, .int .i64 a0_2]] rfl (by (try simp only [List.map_toArray, List.map_cons, List.map_nil]); first | done | rfl | (simp only [List.length_drop, List.length_take]; rfl)) ?_; (with_reducible refine (spec_DeltaOK.calls a0_0 a0_1 a0_2 true _ A2.out).mono ?_); rintro e w7 ⟨rfl, hb⟩; refine ⟨_, rfl, ?_⟩; have n0_ := Aside0.mk (blk_below (g := gb168) (o := .cells #[.int .i64 a0_0, .int .i64 a0_1, .int .i64 a0_2] 36 (0, 0)) (by (with_reducible repeat (first | refine blk_drewN ?_ _ | refine blk_drew ?_ | refine blk_alloc ?_ _)); exact BK168.out) hb); have n1_ := Aside0.mk (below_step (by repeat (first | (with_reducible first | exact HB.out | apply below_alloc | apply pw_below_drewN | apply below_drew1 | refine below_set ?_ GE168.out) | exact HB.out)) hb); clear BK168; clear HB; have BK168 := n0_; have HB := n1_; clear n0_ n1_; (try clear hb); (try clear hb2); (try clear hk); (try clear hi); have hcz8_0 : w7.cell? ⟨gb168, 0, none⟩ = some (.int .i64 a0_0) := (blk_cell BK168.out 0).trans rfl; have hcz8_1 : w7.cell? ⟨gb168, 1, none⟩ = some (.int .i64 a0_1) := (blk_cell BK168.out 1).trans rfl; have hcz8_2 : w7.cell? ⟨gb168, 2, none⟩ = some (.int .i64 a0_2) := (blk_cell BK168.out 2).trans rfl; have hfz8_0 := blk_frozen BK168.out 0; have hfz8_1 := blk_frozen BK168.out 1; have hfz8_2 := blk_frozen BK168.out 2) | ((with_reducible refine gate_callee (f := 67) rfl ?_); refine goesL_ (some 8) rfl rfl Try.func67 (by kernel_rfl) rfl #[.agg #[.int .i64 a0_0, .int .i64 a0_1, .int .i64 a0_2]] rfl (by (try simp only [List.map_toArray, List.map_cons, List.map_nil]); first | done | rfl | (simp only [List.length_drop, List.length_take]; rfl)) ?_; (with_reducible refine (spec_l04Encode.calls k a0_0 a0_1 a0_2 t170 _ A4.out).mono ?_); rintro e w9 ⟨rfl, hb⟩; refine ⟨_, rfl, ?_⟩; have n0_ := Aside0.mk (blk_below (g := gb168) (o := .cells #[.int .i64 a0_0, .int .i64 a0_1, .int .i64 a0_2] 36 (0, 0)) (by (with_reducible repeat (first | refine blk_drewN ?_ _ | refine blk_drew ?_ | refine blk_alloc ?_ _)); exact BK168.out) hb); have n1_ := Aside0.mk (below_step (by repeat (first | (with_reducible first | exact HB.out | apply below_alloc | apply pw_below_drewN | apply below_drew1 | refine below_set ?_ GE168.out) | exact HB.out)) hb); clear BK168; clear HB; have BK168 := n0_; have HB := n1_; clear n0_ n1_; (try clear hb); (try clear hb2); (try clear hk); (try clear hi)))
    go_ret2
    exact ⟨by first | rfl | (simp [errW_none, errW_some] <;> rfl) | (simp [*, errW_none, errW_some] <;> rfl), by repeat (first | (with_reducible first | exact HB.out | apply below_alloc | apply pw_below_drewN | apply below_drew1 | refine below_set ?_ GE168.out) | exact HB.out)⟩
  · replace c3 := Bool.eq_false_iff.mpr c3
    subst c3
    have H1 : (some ((⟨#[]⟩ : ByteArray), 1)) = some (r1, r2) := by rw [if_neg (show ¬ (false = true) by decide)] at H; exact H
    clear H
    have H := H1
    clear H1
    simp only [Option.some.injEq, Prod.mk.injEq] at H
    obtain ⟨rfl, rfl⟩ := H
    go_enter Try.func21, Try.ntmps21
    go_wp2_with (first | ((with_reducible refine gate_dst (N := 1) rfl ?_); refine box_event ?hg (N := 1) ?hd (cs := #[.int .i64 a0_0, .int .i64 a0_1, .int .i64 a0_2]) (t := 36) ?hr ?_; (case hd => rfl); (case hg => rfl); (case hr => first | (go_simp; done) | (go_simp; rfl)); intro gb168 hg w10 hbox hb; have n0_ := Aside0.mk (below_step (by repeat (first | (with_reducible first | exact HB.out | apply below_alloc | apply pw_below_drewN | apply below_drew1) | exact HB.out)) hb); have n1_ := Aside0.mk (hbox); have n2_ := Aside0.mk ((by rw [hg]; exact (below_size (by repeat (first | (with_reducible first | exact HB.out | apply below_alloc | apply pw_below_drewN | apply below_drew1) | exact HB.out))) : w.heap.size ≤ gb168)); have n3_ := Aside0.mk ((by rw [hg]; exact (below_size (by repeat (first | (with_reducible first | exact HB.out | apply below_alloc | apply pw_below_drewN | apply below_drew1) | exact HB.out))) : w.heap.size ≤ gb168)); clear HB; have HB := n0_; have BK168 := n1_; have GW168 := n2_; have GE168 := n3_; clear n0_ n1_ n2_ n3_; clear hb hbox hg; have hcz11_0 : w10.cell? ⟨gb168, 0, none⟩ = some (.int .i64 a0_0) := (blk_cell BK168.out 0).trans rfl; have hcz11_1 : w10.cell? ⟨gb168, 1, none⟩ = some (.int .i64 a0_1) := (blk_cell BK168.out 1).trans rfl; have hcz11_2 : w10.cell? ⟨gb168, 2, none⟩ = some (.int .i64 a0_2) := (blk_cell BK168.out 2).trans rfl; have hfz11_0 := blk_frozen BK168.out 0; have hfz11_1 := blk_frozen BK168.out 1; have hfz11_2 := blk_frozen BK168.out 2) | ((with_reducible refine gate_callee (f := 66) rfl ?_); refine goesL_ (some 5) rfl rfl Try.func66 (by kernel_rfl) rfl #[.agg #[.int .i64 a0_0, .int .i64 a0_1, .int .i64 a0_2]] rfl (by (try simp only [List.map_toArray, List.map_cons, List.map_nil]); first | done | rfl | (simp only [List.length_drop, List.length_take]; rfl)) ?_; (with_reducible refine (spec_DeltaOK.calls a0_0 a0_1 a0_2 false _ A2.out).mono ?_); rintro e w12 ⟨rfl, hb⟩; refine ⟨_, rfl, ?_⟩; have n0_ := Aside0.mk (blk_below (g := gb168) (o := .cells #[.int .i64 a0_0, .int .i64 a0_1, .int .i64 a0_2] 36 (0, 0)) (by (with_reducible repeat (first | refine blk_drewN ?_ _ | refine blk_drew ?_ | refine blk_alloc ?_ _)); exact BK168.out) hb); have n1_ := Aside0.mk (below_step (by repeat (first | (with_reducible first | exact HB.out | apply below_alloc | apply pw_below_drewN | apply below_drew1 | refine below_set ?_ GE168.out) | exact HB.out)) hb); clear BK168; clear HB; have BK168 := n0_; have HB := n1_; clear n0_ n1_; (try clear hb); (try clear hb2); (try clear hk); (try clear hi)))
    go_ret2
    exact ⟨by first | rfl | (simp [errW_none, errW_some] <;> rfl) | (simp [*, errW_none, errW_some] <;> rfl), by repeat (first | (with_reducible first | exact HB.out | apply below_alloc | apply pw_below_drewN | apply below_drew1 | refine below_set ?_ GE168.out) | exact HB.out)⟩
/-! ### Delta -/
def deltaOK (a b c : Int) : Bool := inB a 0 3 && (inB b 1 1000000 && inB c 0 10000000)
theorem spec_DeltaOK_eq (a b c : Int) : spec_DeltaOK.f a b c = some (deltaOK a b c) := by
  simp only [spec_DeltaOK.f, spec_l04Host.f, l01In_eq, Option.bind_some]
  exact and_opt (and_opt rfl)
theorem impl_DeltaOK_eq (a b c : Int) : impl_DeltaOK.f a b c = some (deltaOK a b c) := by
  simp only [impl_DeltaOK.f, impl_isHost.f, impl_isGen.f, impl_isStamp.f, within_eq, Option.bind_some]
  exact and_opt (and_opt rfl)
theorem spec_EncodeDelta_ev (a b c : Int) : Ev (fun k => spec_EncodeDelta.f k a b c) (if deltaOK a b c = true then (sealP 9 [a, b, c], 0) else ((⟨#[]⟩ : ByteArray), 1)) := by
  unfold spec_EncodeDelta.f spec_l04Encode.f
  simp only [spec_DeltaOK_eq, Option.bind_some]
  cases deltaOK a b c
  · exact ev_some _
  · simp only [if_true]
    exact ev_bind (ev_bind (spec_seal_ev 9 [a, b, c] (by simp)) (ev_some _)) (ev_some _)
theorem impl_EncodeDelta_ev (a b c : Int) : Ev (fun k => impl_EncodeDelta.f k a b c) (if deltaOK a b c = true then (sealP 9 [a, b, c], 0) else ((⟨#[]⟩ : ByteArray), 1)) := by
  unfold impl_EncodeDelta.f impl_Delta_text.f
  simp only [impl_DeltaOK_eq, Option.bind_some]
  cases deltaOK a b c
  · exact ev_some _
  · simp only [if_true]
    exact ev_bind (ev_bind (impl_seal_ev 9 [a, b, c] (by simp)) (ev_some _)) (ev_some _)
/-! ### DeltaD -/
def isDelta (t : ByteArray) : Bool := recOK t 9 && (decide ((recNums t).length = 3) && deltaOK (rd (recNums t) 0) (rd (recNums t) 1) (rd (recNums t) 2))
def deltaAt (t : ByteArray) : Int × Int × Int × Bool := if isDelta t = true then (rd (recNums t) 0, rd (recNums t) 1, rd (recNums t) 2, true) else (0, 0, 0, false)
theorem spec_l04Decode_ev (t : ByteArray) (ht : t.size ≤ 1000000000) : Ev (fun k => spec_l04Decode.f k t) (deltaAt t) := by
  unfold spec_l04Decode.f
  refine ev_bind (spec_open_ev t 9 ht) ?_
  unfold deltaAt isDelta
  by_cases h1 : recOK t 9 = true
  · simp only [h1, if_true, Bool.true_and]
    by_cases h2 : (recNums t).length = 3
    · have e : (((recNums t).length : Int) != 3) = false := by simp [h2]
      simp only [e, decide_eq_true h2, Bool.true_and]
      refine Ev.step (f := fun _ => if deltaOK (rd (recNums t) 0) (rd (recNums t) 1) (rd (recNums t) 2) = true then some (rd (recNums t) 0, rd (recNums t) 1, rd (recNums t) 2, true) else some (0, 0, 0, false)) (fun k => ?_) ?_
      · simp only [spec_l04Decode.j0, Bool.false_eq_true, if_false, spec_DeltaOK_eq, Option.bind_some]
        rw [if_pos (by omega), if_pos (by omega), if_pos (by omega)]
      · cases deltaOK (rd (recNums t) 0) (rd (recNums t) 1) (rd (recNums t) 2)
        · exact ev_some _
        · exact ev_some _
    · have e : (((recNums t).length : Int) != 3) = true := by simp; omega
      simp only [e, decide_eq_false h2, Bool.false_and, Bool.false_eq_true, if_false]
      exact Ev.step (f := fun _ => some (0, 0, 0, false)) (fun k => by simp [spec_l04Decode.j0]) (ev_some _)
  · have h1' : recOK t 9 = false := by simpa using h1
    simp only [h1', Bool.false_and, Bool.false_eq_true, if_false]
    exact Ev.step (f := fun _ => some (0, 0, 0, false)) (fun k => by simp [spec_l04Decode.j0]) (ev_some _)
theorem impl_deltaOf_ev (t : ByteArray) (ht : t.size ≤ 1000000000) : Ev (fun k => impl_deltaOf.f k t) (deltaAt t) := by
  unfold impl_deltaOf.f
  refine ev_bind (impl_open_ev t 9 ht) ?_
  unfold deltaAt isDelta
  by_cases h1 : recOK t 9 = true
  · simp only [h1, if_true, Bool.true_and, recOK_openL h1]
    by_cases h2 : (recNums t).length = 3
    · refine ev_pos (by omega) (ev_pos (by omega) (ev_pos (by omega) (ev_pos (by omega) ?_)))
      simp only [decide_eq_true h2, Bool.true_and, impl_DeltaOK_eq, Option.bind_some]
      cases deltaOK (rd (recNums t) 0) (rd (recNums t) 1) (rd (recNums t) 2)
      · exact ev_some _
      · exact ev_some _
    · simp only [decide_eq_false h2, Bool.false_and, Bool.false_eq_true, if_false]
      exact ev_neg (by omega) (ev_some _)
  · have h1' : recOK t 9 = false := by simpa using h1
    simp only [h1', Bool.false_and, Bool.false_eq_true, if_false]
    exact ev_some _
/-! ### DeltaE -/
def decDelta (t : ByteArray) : Int × Int × Int × Int := if (t.size : Int) > 65536 then (0, 0, 0, 2) else if isDelta t = true then (rd (recNums t) 0, rd (recNums t) 1, rd (recNums t) 2, 0) else (0, 0, 0, 3)
theorem spec_DecodeDelta_ev (t : ByteArray) (ht : t.size ≤ 1048576) : Ev (fun k => spec_DecodeDelta.f k t) (decDelta t) := by
  unfold spec_DecodeDelta.f decDelta
  by_cases h1 : (t.size : Int) > 65536
  · rw [if_pos h1]; exact ev_pos h1 (ev_some _)
  · rw [if_neg h1]
    refine ev_neg h1 (ev_bind (spec_l04Decode_ev t (by omega)) ?_)
    unfold deltaAt
    cases h2 : isDelta t
    · exact ev_some _
    · exact ev_some _
theorem impl_DecodeDelta_ev (t : ByteArray) (ht : t.size ≤ 1048576) : Ev (fun k => impl_DecodeDelta.f k t) (decDelta t) := by
  unfold impl_DecodeDelta.f decDelta
  refine ev_bind (impl_deltaOf_ev t (by omega)) ?_
  simp only [isLongText_eq, Option.bind_some, first2]
  unfold deltaAt
  by_cases h1 : (t.size : Int) > 65536
  · simp only [h1, decide_true, if_true]
    exact ev_neg (by omega) (ev_some _)
  · simp only [h1, decide_false, Bool.false_eq_true, if_false]
    cases h2 : isDelta t
    · exact ev_some _
    · exact ev_some _
end Go.Proofs.Ytofobhhbhicfaaa.Q
