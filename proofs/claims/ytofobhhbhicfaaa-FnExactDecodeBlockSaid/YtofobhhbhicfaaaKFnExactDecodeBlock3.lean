/- What laws.FnExactDecodeBlock reaches, part 3: the functions as Lean functions, the proofs that the program's functions answer so, and plain laws about them. -/
import Derived.Test.YtofobhhbhicfaaaKFnExactDecodeBlock2
namespace Go.Proofs.Ytofobhhbhicfaaa.Q
open Go.RowKit Go.Proofs.Ytofobhhbhicfaaa.Ext Go.Proofs.YtofobhhbhicfaaaW.PrintWords Go.Proofs.YtofobhhbhicfaaaW.PrintLast Go.Proofs.YtofobhhbhicfaaaW.PrintMore
attribute [local go_sem] max2_int min2_int max_two min_two max_three min_three max_four min_four   -- for this text's walks alone
set_option linter.unusedVariables false
set_option linter.unusedSimpArgs false

set_option linter.unusedVariables false
set_option linter.unusedSimpArgs false
/-! ### spec_l05Decode: function 104 -/
def spec_l05Decode.j0 : Nat → List Int → Bool → Option (Int × Int × Int × Int × Bool)
  | 0, _, _ => none
  | k + 1, x4, x18 => if x18 = true then (some (0, 0, 0, 0, false)) else (if 0 < (x4.length : Int) then (if 1 < (x4.length : Int) then (if 2 < (x4.length : Int) then (if 3 < (x4.length : Int) then ((spec_BlockOK.f (rd x4 0) (rd x4 1) (rd x4 2) (rd x4 3)).bind fun t669 => (if t669 = true then (some (rd x4 0, rd x4 1, rd x4 2, rd x4 3, true)) else (some (0, 0, 0, 0, false)))) else (none)) else (none)) else (none)) else (none))
def spec_l05Decode.f (k : Nat) (a0 : ByteArray) : Option (Int × Int × Int × Int × Bool) := (spec_l02Open.f k a0 5).bind fun bt660 => (if bt660.2 = true then (spec_l05Decode.j0 k bt660.1 ((bt660.1.length : Int) != 4)) else (spec_l05Decode.j0 k bt660.1 true))
theorem spec_l05Decode.mono_l : ∀ k, (∀ y0 y1, LeO (spec_l05Decode.j0 k y0 y1) (spec_l05Decode.j0 (k + 1) y0 y1))
  | 0 => fun _ _ r h => by simp [spec_l05Decode.j0] at h
  | k + 1 => by
    have ih0 := spec_l05Decode.mono_l k
    · intro y0 y1
      unfold spec_l05Decode.j0
      repeat' first
      | (with_reducible exact ih0 _ _)
      | (with_reducible exact spec_l02Open.mono _ _ _)
      | (with_reducible exact LeO.refl _)
      | (with_reducible exact LeO.none _)
      | (with_reducible refine LeO.ite ?_ ?_)
      | (with_reducible refine LeO.bind ?_ (fun _ => ?_))
      | exact ih0 _ _
      | exact spec_l02Open.mono _ _ _
      | exact LeO.none _
      | refine LeO.ite ?_ ?_
      | refine LeO.bind ?_ (fun _ => ?_)
theorem spec_l05Decode.mono : ∀ a0 k, LeO (spec_l05Decode.f k a0) (spec_l05Decode.f (k + 1) a0) := by
  intro a0 k
  have ih0 := spec_l05Decode.mono_l k
  unfold spec_l05Decode.f
  repeat' first
      | (with_reducible exact ih0 _ _)
      | (with_reducible exact spec_l02Open.mono _ _ _)
      | (with_reducible exact LeO.refl _)
      | (with_reducible exact LeO.none _)
      | (with_reducible refine LeO.ite ?_ ?_)
      | (with_reducible refine LeO.bind ?_ (fun _ => ?_))
      | exact ih0 _ _
      | exact spec_l02Open.mono _ _ _
      | exact LeO.none _
      | refine LeO.ite ?_ ?_
      | refine LeO.bind ?_ (fun _ => ?_)
def spec_l05Decode.T4 : Bool × List (List Nat × List Nat) := (true, [([], []), ([0], [0]), ([1], [1]), ([], []), ([3], [3]), ([4], [4]), ([], []), ([6], [6]), ([7], [7]), ([], []), ([9], [9]), ([10], [10]), ([2, 5, 8, 11], [2, 5, 8, 11]), ([], []), ([13, 12, 0, 1, 2, 3, 4, 5, 6, 7, 8, 9, 10, 11, 12, 13], [12, 13])])
def spec_l05Decode.B4 : List Nat := [0, 1, 3, 0, 8, 24, 0, 64, 192, 0, 512, 1536, 4095, 0, 16383]
theorem spec_l05Decode.tab4 : rtab .any (opsOf Try.f104 4) = spec_l05Decode.T4 := by kernel_rfl
theorem spec_l05Decode.bits4 : waitsOk spec_l05Decode.T4.2 spec_l05Decode.B4 = true := by kernel_rfl
set_option maxHeartbeats 8000000 in
set_option maxRecDepth 100000 in
theorem spec_l05Decode.calls (k : Nat) (a0 : ByteArray) (r1 : Int) (r2 : Int) (r3 : Int) (r4 : Int) (r5 : Bool) (w : World) (h : spec_l05Decode.f k a0 = some (r1, r2, r3, r4, r5)) :
    Calls Try.prog 104 #[.string a0] w fun e w' => e = .returned (.tuple #[.agg #[.int .i64 r1, .int .i64 r2, .int .i64 r3, .int .i64 r4], .bool r5]) ∧ Below w.heap.size w w' := by
  have hu42 := Try.underlying42
  have HB := Aside0.mk (Below.refl w.heap.size w)
  have H : ((spec_l02Open.f k a0 5).bind fun bt660 => (if bt660.2 = true then (spec_l05Decode.j0 k bt660.1 ((bt660.1.length : Int) != 4)) else (spec_l05Decode.j0 k bt660.1 true))) = some (r1, r2, r3, r4, r5) := h
  clear h
  replace H := Option.bind_eq_some_iff.mp H
  obtain ⟨⟨t660, t661⟩, A20, H⟩ := H
  replace H : (if t661 = true then (spec_l05Decode.j0 k t660 ((t660.length : Int) != 4)) else (spec_l05Decode.j0 k t660 true)) = some (r1, r2, r3, r4, r5) := H
  have A2 := Aside0.mk A20
  clear A20
  have HC3 := Aside0.mk H
  clear H
  go_enter Try.func104, Try.ntmps104
  go_upto_region 2 with (first | ((with_reducible refine gate_dst (N := 2) rfl ?_); (try (refine gate_guard (by rfl) ?_; dsimp only)); refine box_event ?hg (N := 2) ?hd (cs := #[.int .i64 0, .int .i64 0, .int .i64 0, .int .i64 0]) (t := 42) ?hr ?_; (case hd => rfl); (case hg => rfl); (case hr => first | (go_simp; done) | (go_simp; rfl)); intro gb659 hg w4 hbox hb; have n0_ := Aside0.mk (below_step (by repeat (first | (with_reducible first | exact HB.out | apply below_alloc | apply pw_below_drewN | apply below_drew1) | exact HB.out)) hb); have n1_ := Aside0.mk (hbox); have n2_ := Aside0.mk ((by rw [hg]; exact (below_size (by repeat (first | (with_reducible first | exact HB.out | apply below_alloc | apply pw_below_drewN | apply below_drew1) | exact HB.out))) : w.heap.size ≤ gb659)); have n3_ := Aside0.mk ((by rw [hg]; exact (below_size (by repeat (first | (with_reducible first | exact HB.out | apply below_alloc | apply pw_below_drewN | apply below_drew1) | exact HB.out))) : w.heap.size ≤ gb659)); clear HB; have HB := n0_; have BK659 := n1_; have GW659 := n2_; have GE659 := n3_; clear n0_ n1_ n2_ n3_; clear hb hbox hg) | ((with_reducible refine gate_callee (f := 94) rfl ?_); refine goesL_ (some 9) rfl rfl Try.func94 (by kernel_rfl) rfl #[.string a0, .int .i64 5] rfl (by (try simp only [List.map_toArray, List.map_cons, List.map_nil]); first | done | rfl | (simp only [List.length_drop, List.length_take]; rfl)) ?_; (with_reducible refine (spec_l02Open.calls k a0 5 t660 t661 _ A2.out).mono ?_); rintro e w5 ⟨v662, rfl, ho0, hb⟩; refine ⟨_, rfl, ?_⟩; have n0_ := Aside0.mk (Kd.R_lower ho0 (below_size (by repeat (first | (with_reducible first | exact HB.out | apply below_alloc | apply pw_below_drewN | apply below_drew1 | refine below_set ?_ GE659.out) | exact HB.out)))); have n1_ := Aside0.mk (blk_below (g := gb659) (o := .cells #[.int .i64 0, .int .i64 0, .int .i64 0, .int .i64 0] 42 (0, 0)) (by (with_reducible repeat (first | refine blk_drewN ?_ _ | refine blk_drew ?_ | refine blk_alloc ?_ _)); exact BK659.out) hb); have n2_ := Aside0.mk (below_step (by repeat (first | (with_reducible first | exact HB.out | apply below_alloc | apply pw_below_drewN | apply below_drew1 | refine below_set ?_ GE659.out) | exact HB.out)) hb); clear BK659; clear HB; have HO663 := n0_; have BK659 := n1_; have HB := n2_; clear n0_ n1_ n2_; (try clear hb); (try clear hb2); (try clear hk); (try clear hi); (try clear ho0)))
  (try simp only [Act.put, List.setIfInBounds_toArray, List.set_cons_zero, List.set_cons_succ])
  go_cut [18] (fun v18 wc => ∃ (kq : Nat) (x18_2 : Bool), v18 = .bool x18_2 ∧ Aside0 (spec_l05Decode.j0 kq t660 x18_2 = some (r1, r2, r3, r4, r5)) ∧ Aside0 (kq ≤ k) ∧ Aside0 (Kd.R (Kd.int .i64) 3 wc w.heap.size (fun _ => True) v662 t660) ∧ Aside0 (wc.heap[gb659]? = some (.cells #[.int .i64 0, .int .i64 0, .int .i64 0, .int .i64 0] 42 (0, 0))) ∧ Aside0 (Below w.heap.size w wc))
  case first =>
    have H := HC3.out
    clear HC3
    by_cases c6 : t661 = true
    · subst c6
      have H1 : (spec_l05Decode.j0 k t660 ((t660.length : Int) != 4)) = some (r1, r2, r3, r4, r5) := by rw [if_pos rfl] at H; exact H
      clear H
      have H := H1
      clear H1
      have H' := Aside0.mk H
      clear H
      obtain ⟨Ao7, co7, eo7⟩ := Kd.R_slice HO663.out
      subst eo7
      go_wp2
      go_meet
      case rel => exact ⟨_, (((t660.length : Int) != 4)), (by first | rfl | (simp; done) | (simp [*]; done)), H', ⟨by first | omega | exact Nat.le_refl _⟩, ⟨by (with_reducible repeat (first | apply Kd.R_alloc | apply Kd.R_drewN | apply Kd.R_drew)); exact HO663.out⟩, ⟨by (with_reducible repeat (first | refine blk_drewN ?_ _ | refine blk_drew ?_ | refine blk_alloc ?_ _)); exact BK659.out⟩, ⟨by repeat (first | (with_reducible first | exact HB.out | apply below_alloc | apply pw_below_drewN | apply below_drew1 | refine below_set ?_ GE659.out) | exact HB.out)⟩⟩
    · replace c6 := Bool.eq_false_iff.mpr c6
      subst c6
      have H1 : (spec_l05Decode.j0 k t660 true) = some (r1, r2, r3, r4, r5) := by rw [if_neg (show ¬ (false = true) by decide)] at H; exact H
      clear H
      have H := H1
      clear H1
      have H' := Aside0.mk H
      clear H
      go_wp2
      go_meet
      case rel => exact ⟨_, (true), (by first | rfl | (simp; done) | (simp [*]; done)), H', ⟨by first | omega | exact Nat.le_refl _⟩, ⟨by (with_reducible repeat (first | apply Kd.R_alloc | apply Kd.R_drewN | apply Kd.R_drew)); exact HO663.out⟩, ⟨by (with_reducible repeat (first | refine blk_drewN ?_ _ | refine blk_drew ?_ | refine blk_alloc ?_ _)); exact BK659.out⟩, ⟨by repeat (first | (with_reducible first | exact HB.out | apply below_alloc | apply pw_below_drewN | apply below_drew1 | refine below_set ?_ GE659.out) | exact HB.out)⟩⟩
  case rest =>
    clear HC3
    try clear c1
    try clear p2
    try clear c6
    obtain ⟨kq, x18_2, rfl, HA, HJ2, HO_4, BK659, HB⟩ := hcut
    cases kq with
    | zero => exact absurd HA.out (by simp [spec_l05Decode.j0])
    | succ kj2 =>
      have H := HA.out
      clear HA
      simp only [spec_l05Decode.j0] at H
      by_cases c8 : x18_2 = true
      · subst c8
        have H1 : (some (0, 0, 0, 0, false)) = some (r1, r2, r3, r4, r5) := by rw [if_pos rfl] at H; exact H
        clear H
        have H := H1
        clear H1
        simp only [Option.some.injEq, Prod.mk.injEq] at H
        obtain ⟨rfl, rfl, rfl, rfl, rfl⟩ := H
        have hcz9_0 : wc.cell? ⟨gb659, 0, none⟩ = some (.int .i64 0) := (blk_cell BK659.out 0).trans rfl
        have hcz9_1 : wc.cell? ⟨gb659, 1, none⟩ = some (.int .i64 0) := (blk_cell BK659.out 1).trans rfl
        have hcz9_2 : wc.cell? ⟨gb659, 2, none⟩ = some (.int .i64 0) := (blk_cell BK659.out 2).trans rfl
        have hcz9_3 : wc.cell? ⟨gb659, 3, none⟩ = some (.int .i64 0) := (blk_cell BK659.out 3).trans rfl
        have hfz9_0 := blk_frozen BK659.out 0
        have hfz9_1 := blk_frozen BK659.out 1
        have hfz9_2 := blk_frozen BK659.out 2
        have hfz9_3 := blk_frozen BK659.out 3
        go_wp2
        refine bodyPost_ret (results_ct rfl _ _ gb659 42 #[.int .i64 0, .int .i64 0, .int .i64 0, .int .i64 0] (0, 0) _ rfl (by (with_reducible repeat (first | refine blk_drewN ?_ _ | refine blk_drew ?_ | refine blk_alloc ?_ _)); refine blk_put (cs := #[.int .i64 0, .int .i64 0, .int .i64 0, .int .i64 0]) ?_ 3 _ rfl; (with_reducible repeat (first | refine blk_drewN ?_ _ | refine blk_drew ?_ | refine blk_alloc ?_ _)); refine blk_put (cs := #[.int .i64 0, .int .i64 0, .int .i64 0, .int .i64 0]) ?_ 2 _ rfl; (with_reducible repeat (first | refine blk_drewN ?_ _ | refine blk_drew ?_ | refine blk_alloc ?_ _)); refine blk_put (cs := #[.int .i64 0, .int .i64 0, .int .i64 0, .int .i64 0]) ?_ 1 _ rfl; (with_reducible repeat (first | refine blk_drewN ?_ _ | refine blk_drew ?_ | refine blk_alloc ?_ _)); refine blk_put (cs := #[.int .i64 0, .int .i64 0, .int .i64 0, .int .i64 0]) ?_ 0 _ rfl; (with_reducible repeat (first | refine blk_drewN ?_ _ | refine blk_drew ?_ | refine blk_alloc ?_ _)); exact BK659.out) Try.underlying42 rfl (by kernel_rfl)) rfl ?_
        exact ⟨by first | rfl | (simp [errW_none, errW_some] <;> rfl) | (simp [*, errW_none, errW_some] <;> rfl), by repeat (first | (with_reducible first | exact HB.out | apply below_alloc | apply pw_below_drewN | apply below_drew1 | refine below_set ?_ GE659.out) | exact HB.out)⟩
      · replace c8 := Bool.eq_false_iff.mpr c8
        subst c8
        have H1 : (if 0 < (t660.length : Int) then (if 1 < (t660.length : Int) then (if 2 < (t660.length : Int) then (if 3 < (t660.length : Int) then ((spec_BlockOK.f (rd t660 0) (rd t660 1) (rd t660 2) (rd t660 3)).bind fun t669 => (if t669 = true then (some (rd t660 0, rd t660 1, rd t660 2, rd t660 3, true)) else (some (0, 0, 0, 0, false)))) else (none)) else (none)) else (none)) else (none)) = some (r1, r2, r3, r4, r5) := by rw [if_neg (show ¬ (false = true) by decide)] at H; exact H
        clear H
        have H := H1
        clear H1
        by_cases c10 : 0 < (t660.length : Int)
        · rw [if_pos c10] at H
          have c10b0 : decide (0 < (t660.length : Int)) = true := decide_eq_true c10
          have c10b1 : decide (0 < t660.length) = true := decide_eq_true (by omega)
          clear c10
          by_cases c11 : 1 < (t660.length : Int)
          · rw [if_pos c11] at H
            have c11b0 : decide (1 < (t660.length : Int)) = true := decide_eq_true c11
            have c11b1 : decide (1 < t660.length) = true := decide_eq_true (by omega)
            clear c11
            by_cases c12 : 2 < (t660.length : Int)
            · rw [if_pos c12] at H
              have c12b0 : decide (2 < (t660.length : Int)) = true := decide_eq_true c12
              have c12b1 : decide (2 < t660.length) = true := decide_eq_true (by omega)
              clear c12
              by_cases c13 : 3 < (t660.length : Int)
              · rw [if_pos c13] at H
                have c13b0 : decide (3 < (t660.length : Int)) = true := decide_eq_true c13
                have c13b1 : decide (3 < t660.length) = true := decide_eq_true (by omega)
                clear c13
                replace H := Option.bind_eq_some_iff.mp H
                obtain ⟨t669, A140, H⟩ := H
                replace H : (if t669 = true then (some (rd t660 0, rd t660 1, rd t660 2, rd t660 3, true)) else (some (0, 0, 0, 0, false))) = some (r1, r2, r3, r4, r5) := H
                have A14 := Aside0.mk A140
                clear A140
                by_cases c15 : t669 = true
                · subst c15
                  have H1 : (some (rd t660 0, rd t660 1, rd t660 2, rd t660 3, true)) = some (r1, r2, r3, r4, r5) := by rw [if_pos rfl] at H; exact H
                  clear H
                  have H := H1
                  clear H1
                  simp only [Option.some.injEq, Prod.mk.injEq] at H
                  obtain ⟨rfl, rfl, rfl, rfl, rfl⟩ := H
                  try go_wp2
                  have n0_ := Aside0.mk (Kd.R_drew HO_4.out)
                  have n1_ := Aside0.mk (blk_drew BK659.out)
                  have n2_ := Aside0.mk (below_drew1 HB.out)
                  clear HO_4
                  clear BK659
                  clear HB
                  have HO_4 := n0_
                  have BK659 := n1_
                  have HB := n2_
                  clear n0_ n1_ n2_
                  obtain ⟨Ao17, co17, eo17⟩ := Kd.R_slice HO_4.out
                  (first | subst eo17 | (injection eo17 with f1_ f2_ f3_; have f4_ := f1_.symm; have f5_ := f3_.symm; clear f1_ f2_ f3_; subst f4_; subst f5_))
                  have p664 : 0 ≤ (0 : Int) := (by omega)
                  have q664 : 0 < (t660.length : Int) := of_decide_eq_true (by first | (with_reducible assumption) | assumption)
                  obtain ⟨ad664, e664, hx664_0⟩ := Kd.at_int (Kd.R_reads' HO_4.out).2.2 0 p664 q664
                  cases e664
                  have qi664 : (0 < t660.length) = True := eq_true (by omega)
                  (try rw [show ((0 : Int)).toNat = 0 from rfl] at hx664_0)
                  (try rw [Addr.add_zero'] at hx664_0)
                  replace p664 := eq_true p664
                  replace q664 := eq_true q664
                  have p665 : 0 ≤ (1 : Int) := (by omega)
                  have q665 : 1 < (t660.length : Int) := of_decide_eq_true (by first | (with_reducible assumption) | assumption)
                  obtain ⟨ad665, e665, hx665_0⟩ := Kd.at_int (Kd.R_reads' HO_4.out).2.2 1 p665 q665
                  obtain rfl : ad664 = ad665 := (by injection e665)
                  (try simp only [show (1 : Int).toNat = 1 from rfl, Nat.reduceMul, Nat.reduceEqDiff, Go.Addr.add, ↓reduceIte] at hx665_0)
                  have qi665 : (1 < t660.length) = True := eq_true (by omega)
                  (try rw [show ((1 : Int)).toNat = 1 from rfl] at hx665_0)
                  replace p665 := eq_true p665
                  replace q665 := eq_true q665
                  have p666 : 0 ≤ (2 : Int) := (by omega)
                  have q666 : 2 < (t660.length : Int) := of_decide_eq_true (by first | (with_reducible assumption) | assumption)
                  obtain ⟨ad666, e666, hx666_0⟩ := Kd.at_int (Kd.R_reads' HO_4.out).2.2 2 p666 q666
                  obtain rfl : ad664 = ad666 := (by injection e666)
                  (try simp only [show (2 : Int).toNat = 2 from rfl, Nat.reduceMul, Nat.reduceEqDiff, Go.Addr.add, ↓reduceIte] at hx666_0)
                  have qi666 : (2 < t660.length) = True := eq_true (by omega)
                  (try rw [show ((2 : Int)).toNat = 2 from rfl] at hx666_0)
                  replace p666 := eq_true p666
                  replace q666 := eq_true q666
                  have p667 : 0 ≤ (3 : Int) := (by omega)
                  have q667 : 3 < (t660.length : Int) := of_decide_eq_true (by first | (with_reducible assumption) | assumption)
                  obtain ⟨ad667, e667, hx667_0⟩ := Kd.at_int (Kd.R_reads' HO_4.out).2.2 3 p667 q667
                  obtain rfl : ad664 = ad667 := (by injection e667)
                  (try simp only [show (3 : Int).toNat = 3 from rfl, Nat.reduceMul, Nat.reduceEqDiff, Go.Addr.add, ↓reduceIte] at hx667_0)
                  have qi667 : (3 < t660.length) = True := eq_true (by omega)
                  (try rw [show ((3 : Int)).toNat = 3 from rfl] at hx667_0)
                  replace p667 := eq_true p667
                  replace q667 := eq_true q667
                  refine start_ (n := 15) (S := fun w' => w'.cell? ad664 = some (.int .i64 (rd t660 0)) ∧ w'.cell? ⟨ad664.block, ad664.off + 1, none⟩ = some (.int .i64 (rd t660 1)) ∧ w'.cell? ⟨ad664.block, ad664.off + 2, none⟩ = some (.int .i64 (rd t660 2)) ∧ w'.cell? ⟨ad664.block, ad664.off + 3, none⟩ = some (.int .i64 (rd t660 3))) (ds := []) #[false, false, false, false, false, false, false, false, false, false, false, false, false, false, false] (by kernel_rfl) rfl rfl ⟨hx664_0, hx665_0, hx666_0, hx667_0⟩ (fun hHeld => ?_); refine with_tabW spec_l05Decode.tab4 spec_l05Decode.bits4 (fun HT_ HW_ => ?_)
                  generalize wc.drew = w16 at HO_4 BK659 HB hx664_0 hx665_0 hx666_0 hx667_0 hHeld ⊢
                  refine pure_ (i := 0) (N := some 20) (v := ?_) (a' := ?_) #[true, false, false, false, false, false, false, false, false, false, false, false, false, false, false] rfl rfl (any_of HT_.out (by kernel_rfl)) (fun _ _ _ h => h) (Or.inl ⟨by rfl, ?_⟩) ?_ ?_
                  rotate_left
                  · intro w'
                    go_simp
                    with_reducible rfl
                  rotate_left
                  · simp only [Act.put, List.setIfInBounds_toArray, List.set_cons_zero, List.set_cons_succ, i64_w, i32_w]
                    rfl
                  refine pure_ (i := 1) (N := some 21) (v := ?_) (a' := ?_) #[true, true, false, false, false, false, false, false, false, false, false, false, false, false, false] rfl rfl (any_of HT_.out (by kernel_rfl)) (fun _ _ _ h => h) (Or.inl ⟨by rfl, ?_⟩) ?_ ?_
                  rotate_left
                  · intro w'
                    go_simp
                    with_reducible rfl
                  rotate_left
                  · simp only [Act.put, List.setIfInBounds_toArray, List.set_cons_zero, List.set_cons_succ, i64_w, i32_w]
                    rfl
                  refine pure_ (i := 3) (N := some 23) (v := ?_) (a' := ?_) #[true, true, false, true, false, false, false, false, false, false, false, false, false, false, false] rfl rfl (any_of HT_.out (by kernel_rfl)) (fun _ _ _ h => h) (Or.inl ⟨by rfl, ?_⟩) ?_ ?_
                  rotate_left
                  · intro w'
                    go_simp
                    with_reducible rfl
                  rotate_left
                  · simp only [Act.put, List.setIfInBounds_toArray, List.set_cons_zero, List.set_cons_succ, i64_w, i32_w]
                    rfl
                  refine pure_ (i := 4) (N := some 24) (v := ?_) (a' := ?_) #[true, true, false, true, true, false, false, false, false, false, false, false, false, false, false] rfl rfl (any_of HT_.out (by kernel_rfl)) (fun _ _ _ h => h) (Or.inl ⟨by rfl, ?_⟩) ?_ ?_
                  rotate_left
                  · intro w'
                    go_simp
                    with_reducible rfl
                  rotate_left
                  · simp only [Act.put, List.setIfInBounds_toArray, List.set_cons_zero, List.set_cons_succ, i64_w, i32_w]
                    rfl
                  refine pure_ (i := 6) (N := some 26) (v := ?_) (a' := ?_) #[true, true, false, true, true, false, true, false, false, false, false, false, false, false, false] rfl rfl (any_of HT_.out (by kernel_rfl)) (fun _ _ _ h => h) (Or.inl ⟨by rfl, ?_⟩) ?_ ?_
                  rotate_left
                  · intro w'
                    go_simp
                    with_reducible rfl
                  rotate_left
                  · simp only [Act.put, List.setIfInBounds_toArray, List.set_cons_zero, List.set_cons_succ, i64_w, i32_w]
                    rfl
                  refine pure_ (i := 7) (N := some 27) (v := ?_) (a' := ?_) #[true, true, false, true, true, false, true, true, false, false, false, false, false, false, false] rfl rfl (any_of HT_.out (by kernel_rfl)) (fun _ _ _ h => h) (Or.inl ⟨by rfl, ?_⟩) ?_ ?_
                  rotate_left
                  · intro w'
                    go_simp
                    with_reducible rfl
                  rotate_left
                  · simp only [Act.put, List.setIfInBounds_toArray, List.set_cons_zero, List.set_cons_succ, i64_w, i32_w]
                    rfl
                  refine pure_ (i := 9) (N := some 29) (v := ?_) (a' := ?_) #[true, true, false, true, true, false, true, true, false, true, false, false, false, false, false] rfl rfl (any_of HT_.out (by kernel_rfl)) (fun _ _ _ h => h) (Or.inl ⟨by rfl, ?_⟩) ?_ ?_
                  rotate_left
                  · intro w'
                    go_simp
                    with_reducible rfl
                  rotate_left
                  · simp only [Act.put, List.setIfInBounds_toArray, List.set_cons_zero, List.set_cons_succ, i64_w, i32_w]
                    rfl
                  refine pure_ (i := 10) (N := some 30) (v := ?_) (a' := ?_) #[true, true, false, true, true, false, true, true, false, true, true, false, false, false, false] rfl rfl (any_of HT_.out (by kernel_rfl)) (fun _ _ _ h => h) (Or.inl ⟨by rfl, ?_⟩) ?_ ?_
                  rotate_left
                  · intro w'
                    go_simp
                    with_reducible rfl
                  rotate_left
                  · simp only [Act.put, List.setIfInBounds_toArray, List.set_cons_zero, List.set_cons_succ, i64_w, i32_w]
                    rfl
                  refine take_ (i := 2) (N := some 22) (v := ?_) (a' := ?_) #[true, true, true, true, true, false, true, true, false, true, true, false, false, false, false] rfl rfl (take_ofW HT_.out HW_.out (by kernel_rfl)) (fun _ _ _ h => h) (Or.inl ⟨by rfl, ?_⟩) hHeld ?_ ?_
                  rotate_left
                  · rintro w' ⟨s0, s1, s2, s3⟩
                    go_simp
                    with_reducible rfl
                  rotate_left
                  · simp only [Act.put, List.setIfInBounds_toArray, List.set_cons_zero, List.set_cons_succ, i64_w, i32_w]
                    rfl
                  refine take_ (i := 5) (N := some 25) (v := ?_) (a' := ?_) #[true, true, true, true, true, true, true, true, false, true, true, false, false, false, false] rfl rfl (take_ofW HT_.out HW_.out (by kernel_rfl)) (fun _ _ _ h => h) (Or.inl ⟨by rfl, ?_⟩) hHeld ?_ ?_
                  rotate_left
                  · rintro w' ⟨s0, s1, s2, s3⟩
                    go_simp
                    with_reducible rfl
                  rotate_left
                  · simp only [Act.put, List.setIfInBounds_toArray, List.set_cons_zero, List.set_cons_succ, i64_w, i32_w]
                    rfl
                  refine take_ (i := 8) (N := some 28) (v := ?_) (a' := ?_) #[true, true, true, true, true, true, true, true, true, true, true, false, false, false, false] rfl rfl (take_ofW HT_.out HW_.out (by kernel_rfl)) (fun _ _ _ h => h) (Or.inl ⟨by rfl, ?_⟩) hHeld ?_ ?_
                  rotate_left
                  · rintro w' ⟨s0, s1, s2, s3⟩
                    go_simp
                    with_reducible rfl
                  rotate_left
                  · simp only [Act.put, List.setIfInBounds_toArray, List.set_cons_zero, List.set_cons_succ, i64_w, i32_w]
                    rfl
                  refine take_ (i := 11) (N := some 31) (v := ?_) (a' := ?_) #[true, true, true, true, true, true, true, true, true, true, true, true, false, false, false] rfl rfl (take_ofW HT_.out HW_.out (by kernel_rfl)) (fun _ _ _ h => h) (Or.inl ⟨by rfl, ?_⟩) hHeld ?_ ?_
                  rotate_left
                  · rintro w' ⟨s0, s1, s2, s3⟩
                    go_simp
                    with_reducible rfl
                  rotate_left
                  · simp only [Act.put, List.setIfInBounds_toArray, List.set_cons_zero, List.set_cons_succ, i64_w, i32_w]
                    rfl
                  refine pure_ (i := 12) (N := some 32) (v := ?_) (a' := ?_) #[true, true, true, true, true, true, true, true, true, true, true, true, true, false, false] rfl rfl (any_of HT_.out (by kernel_rfl)) (fun _ _ _ h => h) (Or.inl ⟨by rfl, ?_⟩) ?_ ?_
                  rotate_left
                  · intro w'
                    go_simp
                    with_reducible rfl
                  rotate_left
                  · simp only [Act.put, List.setIfInBounds_toArray, List.set_cons_zero, List.set_cons_succ, i64_w, i32_w]
                    rfl
                  refine one_ (i := 13) (N := some 6) #[true, true, true, true, true, true, true, true, true, true, true, true, true, true, false] rfl rfl (one_of HT_.out (by kernel_rfl)) (by decide) (fun K hK => ?_)
                  refine box_step ?hg (N := 6) ?hd (cs := #[.int .i64 0, .int .i64 0, .int .i64 0, .int .i64 0]) (t := 42) ?hr ?_; (case hd => rfl); (case hg => rfl); (case hr => first | (go_simp; done) | (go_simp; rfl))
                  intro gb668 hg w18 hbox hb
                  have HS0_ := (hb.cell (World.block_lt_of_cell? _ _ (hHeld.1))).trans (hHeld.1)
                  have HS1_ := (hb.cell (World.block_lt_of_cell? _ _ (hHeld.2.1))).trans (hHeld.2.1)
                  have HS2_ := (hb.cell (World.block_lt_of_cell? _ _ (hHeld.2.2.1))).trans (hHeld.2.2.1)
                  have HS3_ := (hb.cell (World.block_lt_of_cell? _ _ (hHeld.2.2.2))).trans (hHeld.2.2.2)
                  have n0_ := Aside0.mk (Kd.R_below (by (with_reducible repeat (first | apply Kd.R_alloc | apply Kd.R_drewN | apply Kd.R_drew)); exact HO_4.out) hb)
                  have n1_ := Aside0.mk (blk_below (g := gb659) (o := .cells #[.int .i64 0, .int .i64 0, .int .i64 0, .int .i64 0] 42 (0, 0)) (by (with_reducible repeat (first | refine blk_drewN ?_ _ | refine blk_drew ?_ | refine blk_alloc ?_ _)); exact BK659.out) hb)
                  have n2_ := Aside0.mk (below_step (by repeat (first | (with_reducible first | exact HB.out | apply below_alloc | apply pw_below_drewN | apply below_drew1 | refine below_set ?_ GE659.out) | exact HB.out)) hb)
                  have n3_ := Aside0.mk (hbox)
                  have n4_ := Aside0.mk ((by rw [hg]; exact (below_size (by repeat (first | (with_reducible first | exact HB.out | apply below_alloc | apply pw_below_drewN | apply below_drew1 | refine below_set ?_ GE659.out) | exact HB.out))) : w.heap.size ≤ gb668))
                  have n5_ := Aside0.mk ((by rw [hg]; exact (below_size (by repeat (first | (with_reducible first | exact HB.out | apply below_alloc | apply pw_below_drewN | apply below_drew1 | refine below_set ?_ GE659.out) | exact HB.out))) : w.heap.size ≤ gb668))
                  have n6_ := Aside0.mk ((by rw [hg]; exact Nat.ne_of_lt (blk_lt (g := gb659) (o := .cells #[.int .i64 0, .int .i64 0, .int .i64 0, .int .i64 0] 42 (0, 0)) (by (with_reducible repeat (first | refine blk_drewN ?_ _ | refine blk_drew ?_ | refine blk_alloc ?_ _)); exact BK659.out)) : gb659 ≠ gb668))
                  have n7_ := Aside0.mk ((by rw [hg]; exact Nat.ne_of_gt (blk_lt (g := gb659) (o := .cells #[.int .i64 0, .int .i64 0, .int .i64 0, .int .i64 0] 42 (0, 0)) (by (with_reducible repeat (first | refine blk_drewN ?_ _ | refine blk_drew ?_ | refine blk_alloc ?_ _)); exact BK659.out)) : gb668 ≠ gb659))
                  clear HO_4
                  clear BK659
                  clear HB
                  have HO_4 := n0_
                  have BK659 := n1_
                  have HB := n2_
                  have BK668 := n3_
                  have GW668 := n4_
                  have GE668 := n5_
                  have NB659_668 := n6_
                  have NB668_659 := n7_
                  clear n0_ n1_ n2_ n3_ n4_ n5_ n6_ n7_
                  clear hb hbox hg
                  refine hK.out _ _ ⟨HS0_, HS1_, HS2_, HS3_⟩ (fun hHeld => ?_)
                  clear hK K
                  refine norm_ (a' := ?_) ?_ ?_
                  rotate_left
                  · show Act.put _ (some 6) _ = _
                    simp only [Act.put, List.setIfInBounds_toArray, List.set_cons_zero, List.set_cons_succ, i64_w, i32_w]
                    rfl
                  refine one_ (i := 14) (N := none) #[true, true, true, true, true, true, true, true, true, true, true, true, true, true, true] rfl rfl (one_of HT_.out (by kernel_rfl)) (by decide) (fun K hK => ?_)
                  have hs19 : w18.cell? ⟨gb668, 0, none⟩ = some (.int .i64 0) := (blk_cell BK668.out 0).trans rfl
                  have hfs19 := blk_frozen BK668.out 0
                  have hns19_0 := NB659_668.out
                  have hms19_0 := NB668_659.out
                  have hs20 : w18.cell? ⟨gb668, 1, none⟩ = some (.int .i64 0) := (blk_cell BK668.out 1).trans rfl
                  have hfs20 := blk_frozen BK668.out 1
                  have hns20_0 := NB659_668.out
                  have hms20_0 := NB668_659.out
                  have hs21 : w18.cell? ⟨gb668, 2, none⟩ = some (.int .i64 0) := (blk_cell BK668.out 2).trans rfl
                  have hfs21 := blk_frozen BK668.out 2
                  have hns21_0 := NB659_668.out
                  have hms21_0 := NB668_659.out
                  have hs22 : w18.cell? ⟨gb668, 3, none⟩ = some (.int .i64 0) := (blk_cell BK668.out 3).trans rfl
                  have hfs22 := blk_frozen BK668.out 3
                  have hns22_0 := NB659_668.out
                  have hms22_0 := NB668_659.out
                  refine skip_ (w1 := ?_) (by rfl) rfl ?_ ?_
                  rotate_left
                  · go_simp
                    rfl
                  refine hK.out _ _ ⟨((cell_far (p := ⟨gb668, _, none⟩) (by first | exact Kd.own_blk (Kd.R_ne HO_4.out BK668.out (by decide)) | (rw [add_block]; exact Kd.own_blk (Kd.R_ne HO_4.out BK668.out (by decide))) | (show (Addr.add _ _).block ≠ _; rw [add_block]; exact Kd.own_blk (Kd.R_ne HO_4.out BK668.out (by decide))) | (dsimp only; exact Kd.own_blk (Kd.R_ne HO_4.out BK668.out (by decide)))) _).trans (((cell_far (p := ⟨gb668, _, none⟩) (by first | exact Kd.own_blk (Kd.R_ne HO_4.out BK668.out (by decide)) | (rw [add_block]; exact Kd.own_blk (Kd.R_ne HO_4.out BK668.out (by decide))) | (show (Addr.add _ _).block ≠ _; rw [add_block]; exact Kd.own_blk (Kd.R_ne HO_4.out BK668.out (by decide))) | (dsimp only; exact Kd.own_blk (Kd.R_ne HO_4.out BK668.out (by decide)))) _).trans (((cell_far (p := ⟨gb668, _, none⟩) (by first | exact Kd.own_blk (Kd.R_ne HO_4.out BK668.out (by decide)) | (rw [add_block]; exact Kd.own_blk (Kd.R_ne HO_4.out BK668.out (by decide))) | (show (Addr.add _ _).block ≠ _; rw [add_block]; exact Kd.own_blk (Kd.R_ne HO_4.out BK668.out (by decide))) | (dsimp only; exact Kd.own_blk (Kd.R_ne HO_4.out BK668.out (by decide)))) _).trans (((cell_far (p := ⟨gb668, _, none⟩) (by first | exact Kd.own_blk (Kd.R_ne HO_4.out BK668.out (by decide)) | (rw [add_block]; exact Kd.own_blk (Kd.R_ne HO_4.out BK668.out (by decide))) | (show (Addr.add _ _).block ≠ _; rw [add_block]; exact Kd.own_blk (Kd.R_ne HO_4.out BK668.out (by decide))) | (dsimp only; exact Kd.own_blk (Kd.R_ne HO_4.out BK668.out (by decide)))) _).trans (hHeld.1)))))))), ((cell_far (p := ⟨gb668, _, none⟩) (by first | exact Kd.own_blk (Kd.R_ne HO_4.out BK668.out (by decide)) | (rw [add_block]; exact Kd.own_blk (Kd.R_ne HO_4.out BK668.out (by decide))) | (show (Addr.add _ _).block ≠ _; rw [add_block]; exact Kd.own_blk (Kd.R_ne HO_4.out BK668.out (by decide))) | (dsimp only; exact Kd.own_blk (Kd.R_ne HO_4.out BK668.out (by decide)))) _).trans (((cell_far (p := ⟨gb668, _, none⟩) (by first | exact Kd.own_blk (Kd.R_ne HO_4.out BK668.out (by decide)) | (rw [add_block]; exact Kd.own_blk (Kd.R_ne HO_4.out BK668.out (by decide))) | (show (Addr.add _ _).block ≠ _; rw [add_block]; exact Kd.own_blk (Kd.R_ne HO_4.out BK668.out (by decide))) | (dsimp only; exact Kd.own_blk (Kd.R_ne HO_4.out BK668.out (by decide)))) _).trans (((cell_far (p := ⟨gb668, _, none⟩) (by first | exact Kd.own_blk (Kd.R_ne HO_4.out BK668.out (by decide)) | (rw [add_block]; exact Kd.own_blk (Kd.R_ne HO_4.out BK668.out (by decide))) | (show (Addr.add _ _).block ≠ _; rw [add_block]; exact Kd.own_blk (Kd.R_ne HO_4.out BK668.out (by decide))) | (dsimp only; exact Kd.own_blk (Kd.R_ne HO_4.out BK668.out (by decide)))) _).trans (((cell_far (p := ⟨gb668, _, none⟩) (by first | exact Kd.own_blk (Kd.R_ne HO_4.out BK668.out (by decide)) | (rw [add_block]; exact Kd.own_blk (Kd.R_ne HO_4.out BK668.out (by decide))) | (show (Addr.add _ _).block ≠ _; rw [add_block]; exact Kd.own_blk (Kd.R_ne HO_4.out BK668.out (by decide))) | (dsimp only; exact Kd.own_blk (Kd.R_ne HO_4.out BK668.out (by decide)))) _).trans (hHeld.2.1)))))))), ((cell_far (p := ⟨gb668, _, none⟩) (by first | exact Kd.own_blk (Kd.R_ne HO_4.out BK668.out (by decide)) | (rw [add_block]; exact Kd.own_blk (Kd.R_ne HO_4.out BK668.out (by decide))) | (show (Addr.add _ _).block ≠ _; rw [add_block]; exact Kd.own_blk (Kd.R_ne HO_4.out BK668.out (by decide))) | (dsimp only; exact Kd.own_blk (Kd.R_ne HO_4.out BK668.out (by decide)))) _).trans (((cell_far (p := ⟨gb668, _, none⟩) (by first | exact Kd.own_blk (Kd.R_ne HO_4.out BK668.out (by decide)) | (rw [add_block]; exact Kd.own_blk (Kd.R_ne HO_4.out BK668.out (by decide))) | (show (Addr.add _ _).block ≠ _; rw [add_block]; exact Kd.own_blk (Kd.R_ne HO_4.out BK668.out (by decide))) | (dsimp only; exact Kd.own_blk (Kd.R_ne HO_4.out BK668.out (by decide)))) _).trans (((cell_far (p := ⟨gb668, _, none⟩) (by first | exact Kd.own_blk (Kd.R_ne HO_4.out BK668.out (by decide)) | (rw [add_block]; exact Kd.own_blk (Kd.R_ne HO_4.out BK668.out (by decide))) | (show (Addr.add _ _).block ≠ _; rw [add_block]; exact Kd.own_blk (Kd.R_ne HO_4.out BK668.out (by decide))) | (dsimp only; exact Kd.own_blk (Kd.R_ne HO_4.out BK668.out (by decide)))) _).trans (((cell_far (p := ⟨gb668, _, none⟩) (by first | exact Kd.own_blk (Kd.R_ne HO_4.out BK668.out (by decide)) | (rw [add_block]; exact Kd.own_blk (Kd.R_ne HO_4.out BK668.out (by decide))) | (show (Addr.add _ _).block ≠ _; rw [add_block]; exact Kd.own_blk (Kd.R_ne HO_4.out BK668.out (by decide))) | (dsimp only; exact Kd.own_blk (Kd.R_ne HO_4.out BK668.out (by decide)))) _).trans (hHeld.2.2.1)))))))), ((cell_far (p := ⟨gb668, _, none⟩) (by first | exact Kd.own_blk (Kd.R_ne HO_4.out BK668.out (by decide)) | (rw [add_block]; exact Kd.own_blk (Kd.R_ne HO_4.out BK668.out (by decide))) | (show (Addr.add _ _).block ≠ _; rw [add_block]; exact Kd.own_blk (Kd.R_ne HO_4.out BK668.out (by decide))) | (dsimp only; exact Kd.own_blk (Kd.R_ne HO_4.out BK668.out (by decide)))) _).trans (((cell_far (p := ⟨gb668, _, none⟩) (by first | exact Kd.own_blk (Kd.R_ne HO_4.out BK668.out (by decide)) | (rw [add_block]; exact Kd.own_blk (Kd.R_ne HO_4.out BK668.out (by decide))) | (show (Addr.add _ _).block ≠ _; rw [add_block]; exact Kd.own_blk (Kd.R_ne HO_4.out BK668.out (by decide))) | (dsimp only; exact Kd.own_blk (Kd.R_ne HO_4.out BK668.out (by decide)))) _).trans (((cell_far (p := ⟨gb668, _, none⟩) (by first | exact Kd.own_blk (Kd.R_ne HO_4.out BK668.out (by decide)) | (rw [add_block]; exact Kd.own_blk (Kd.R_ne HO_4.out BK668.out (by decide))) | (show (Addr.add _ _).block ≠ _; rw [add_block]; exact Kd.own_blk (Kd.R_ne HO_4.out BK668.out (by decide))) | (dsimp only; exact Kd.own_blk (Kd.R_ne HO_4.out BK668.out (by decide)))) _).trans (((cell_far (p := ⟨gb668, _, none⟩) (by first | exact Kd.own_blk (Kd.R_ne HO_4.out BK668.out (by decide)) | (rw [add_block]; exact Kd.own_blk (Kd.R_ne HO_4.out BK668.out (by decide))) | (show (Addr.add _ _).block ≠ _; rw [add_block]; exact Kd.own_blk (Kd.R_ne HO_4.out BK668.out (by decide))) | (dsimp only; exact Kd.own_blk (Kd.R_ne HO_4.out BK668.out (by decide)))) _).trans (hHeld.2.2.2))))))))⟩ (fun hHeld => ?_)
                  clear hK K
                  refine done_ (done_of HT_.out (by kernel_rfl)) ?_
                  have hnb23 := NB668_659.out
                  have hnc23 := NB659_668.out
                  have hcz24_0 : w18.cell? ⟨gb668, 0, none⟩ = some (.int .i64 0) := (blk_cell BK668.out 0).trans rfl
                  have hcz24_1 : w18.cell? ⟨gb668, 1, none⟩ = some (.int .i64 0) := (blk_cell BK668.out 1).trans rfl
                  have hcz24_2 : w18.cell? ⟨gb668, 2, none⟩ = some (.int .i64 0) := (blk_cell BK668.out 2).trans rfl
                  have hcz24_3 : w18.cell? ⟨gb668, 3, none⟩ = some (.int .i64 0) := (blk_cell BK668.out 3).trans rfl
                  have hfz24_0 := blk_frozen BK668.out 0
                  have hfz24_1 := blk_frozen BK668.out 1
                  have hfz24_2 := blk_frozen BK668.out 2
                  have hfz24_3 := blk_frozen BK668.out 3
                  try go_wp2_with (first | ((with_reducible refine gate_callee (f := 70) rfl ?_); refine goesL_ (some 34) rfl rfl Try.func70 (by kernel_rfl) rfl #[.agg #[.int .i64 (rd t660 0), .int .i64 (rd t660 1), .int .i64 (rd t660 2), .int .i64 (rd t660 3)]] rfl (by (try simp only [List.map_toArray, List.map_cons, List.map_nil]); first | done | rfl | (simp only [List.length_drop, List.length_take]; rfl)) ?_; (with_reducible refine (spec_BlockOK.calls (rd t660 0) (rd t660 1) (rd t660 2) (rd t660 3) true _ A14.out).mono ?_); rintro e w25 ⟨rfl, hb⟩; refine ⟨_, rfl, ?_⟩; have n0_ := Aside0.mk (Kd.R_below (by (with_reducible repeat (first | apply Kd.R_alloc | apply Kd.R_drewN | apply Kd.R_drew)); exact (Kd.R_mono (Kd.R_far (p := ⟨gb668, 3, none⟩) (Kd.R_far (p := ⟨gb668, 2, none⟩) (Kd.R_far (p := ⟨gb668, 1, none⟩) (Kd.R_far (p := ⟨gb668, 0, none⟩) (Kd.R_types HO_4.out BK668.out (by decide)) (fun _ hk => hk.2) (.int .i64 (rd t660 0))) (fun _ hk => hk.2) (.int .i64 (rd t660 1))) (fun _ hk => hk.2) (.int .i64 (rd t660 2))) (fun _ hk => hk.2) (.int .i64 (rd t660 3))) (fun _ h_ => h_.1))) hb); have n1_ := Aside0.mk (blk_below (g := gb659) (o := .cells #[.int .i64 0, .int .i64 0, .int .i64 0, .int .i64 0] 42 (0, 0)) (by (with_reducible repeat (first | refine blk_drewN ?_ _ | refine blk_drew ?_ | refine blk_alloc ?_ _)); refine blk_far ?_ NB659_668.out _; (with_reducible repeat (first | refine blk_drewN ?_ _ | refine blk_drew ?_ | refine blk_alloc ?_ _)); refine blk_far ?_ NB659_668.out _; (with_reducible repeat (first | refine blk_drewN ?_ _ | refine blk_drew ?_ | refine blk_alloc ?_ _)); refine blk_far ?_ NB659_668.out _; (with_reducible repeat (first | refine blk_drewN ?_ _ | refine blk_drew ?_ | refine blk_alloc ?_ _)); refine blk_far ?_ NB659_668.out _; (with_reducible repeat (first | refine blk_drewN ?_ _ | refine blk_drew ?_ | refine blk_alloc ?_ _)); exact BK659.out) hb); have n2_ := Aside0.mk (blk_below (g := gb668) (o := .cells #[.int .i64 (rd t660 0), .int .i64 (rd t660 1), .int .i64 (rd t660 2), .int .i64 (rd t660 3)] 42 (0, 0)) (by (with_reducible repeat (first | refine blk_drewN ?_ _ | refine blk_drew ?_ | refine blk_alloc ?_ _)); refine blk_put (cs := #[.int .i64 (rd t660 0), .int .i64 (rd t660 1), .int .i64 (rd t660 2), .int .i64 0]) ?_ 3 _ rfl; (with_reducible repeat (first | refine blk_drewN ?_ _ | refine blk_drew ?_ | refine blk_alloc ?_ _)); refine blk_put (cs := #[.int .i64 (rd t660 0), .int .i64 (rd t660 1), .int .i64 0, .int .i64 0]) ?_ 2 _ rfl; (with_reducible repeat (first | refine blk_drewN ?_ _ | refine blk_drew ?_ | refine blk_alloc ?_ _)); refine blk_put (cs := #[.int .i64 (rd t660 0), .int .i64 0, .int .i64 0, .int .i64 0]) ?_ 1 _ rfl; (with_reducible repeat (first | refine blk_drewN ?_ _ | refine blk_drew ?_ | refine blk_alloc ?_ _)); refine blk_put (cs := #[.int .i64 0, .int .i64 0, .int .i64 0, .int .i64 0]) ?_ 0 _ rfl; (with_reducible repeat (first | refine blk_drewN ?_ _ | refine blk_drew ?_ | refine blk_alloc ?_ _)); exact BK668.out) hb); have n3_ := Aside0.mk (below_step (by repeat (first | (with_reducible first | exact HB.out | apply below_alloc | apply pw_below_drewN | apply below_drew1 | refine below_set ?_ GE659.out | refine below_set ?_ GE668.out) | exact HB.out)) hb); clear HO_4; clear BK659; clear BK668; clear HB; have HO_4 := n0_; have BK659 := n1_; have BK668 := n2_; have HB := n3_; clear n0_ n1_ n2_ n3_; (try clear hb); (try clear hb2); (try clear hk); (try clear hi); have hcz26_0 : w25.cell? ⟨gb668, 0, none⟩ = some (.int .i64 (rd t660 0)) := (blk_cell BK668.out 0).trans rfl; have hcz26_1 : w25.cell? ⟨gb668, 1, none⟩ = some (.int .i64 (rd t660 1)) := (blk_cell BK668.out 1).trans rfl; have hcz26_2 : w25.cell? ⟨gb668, 2, none⟩ = some (.int .i64 (rd t660 2)) := (blk_cell BK668.out 2).trans rfl; have hcz26_3 : w25.cell? ⟨gb668, 3, none⟩ = some (.int .i64 (rd t660 3)) := (blk_cell BK668.out 3).trans rfl; have hfz26_0 := blk_frozen BK668.out 0; have hfz26_1 := blk_frozen BK668.out 1; have hfz26_2 := blk_frozen BK668.out 2; have hfz26_3 := blk_frozen BK668.out 3; have hcz27_0 : w25.cell? ⟨gb659, 0, none⟩ = some (.int .i64 0) := (blk_cell BK659.out 0).trans rfl; have hcz27_1 : w25.cell? ⟨gb659, 1, none⟩ = some (.int .i64 0) := (blk_cell BK659.out 1).trans rfl; have hcz27_2 : w25.cell? ⟨gb659, 2, none⟩ = some (.int .i64 0) := (blk_cell BK659.out 2).trans rfl; have hcz27_3 : w25.cell? ⟨gb659, 3, none⟩ = some (.int .i64 0) := (blk_cell BK659.out 3).trans rfl; have hfz27_0 := blk_frozen BK659.out 0; have hfz27_1 := blk_frozen BK659.out 1; have hfz27_2 := blk_frozen BK659.out 2; have hfz27_3 := blk_frozen BK659.out 3))
                  refine bodyPost_ret (results_ct rfl _ _ gb659 42 #[.int .i64 (rd t660 0), .int .i64 (rd t660 1), .int .i64 (rd t660 2), .int .i64 (rd t660 3)] (0, 0) _ rfl (by (with_reducible repeat (first | refine blk_drewN ?_ _ | refine blk_drew ?_ | refine blk_alloc ?_ _)); refine blk_put (cs := #[.int .i64 (rd t660 0), .int .i64 (rd t660 1), .int .i64 (rd t660 2), .int .i64 0]) ?_ 3 _ rfl; (with_reducible repeat (first | refine blk_drewN ?_ _ | refine blk_drew ?_ | refine blk_alloc ?_ _)); refine blk_put (cs := #[.int .i64 (rd t660 0), .int .i64 (rd t660 1), .int .i64 0, .int .i64 0]) ?_ 2 _ rfl; (with_reducible repeat (first | refine blk_drewN ?_ _ | refine blk_drew ?_ | refine blk_alloc ?_ _)); refine blk_put (cs := #[.int .i64 (rd t660 0), .int .i64 0, .int .i64 0, .int .i64 0]) ?_ 1 _ rfl; (with_reducible repeat (first | refine blk_drewN ?_ _ | refine blk_drew ?_ | refine blk_alloc ?_ _)); refine blk_put (cs := #[.int .i64 0, .int .i64 0, .int .i64 0, .int .i64 0]) ?_ 0 _ rfl; (with_reducible repeat (first | refine blk_drewN ?_ _ | refine blk_drew ?_ | refine blk_alloc ?_ _)); exact BK659.out) Try.underlying42 rfl (by kernel_rfl)) rfl ?_
                  exact ⟨by first | rfl | (simp [errW_none, errW_some] <;> rfl) | (simp [*, errW_none, errW_some] <;> rfl), by repeat (first | (with_reducible first | exact HB.out | apply below_alloc | apply pw_below_drewN | apply below_drew1 | refine below_set ?_ GE659.out | refine below_set ?_ GE668.out) | exact HB.out)⟩
                · replace c15 := Bool.eq_false_iff.mpr c15
                  subst c15
                  have H1 : (some (0, 0, 0, 0, false)) = some (r1, r2, r3, r4, r5) := by rw [if_neg (show ¬ (false = true) by decide)] at H; exact H
                  clear H
                  have H := H1
                  clear H1
                  simp only [Option.some.injEq, Prod.mk.injEq] at H
                  obtain ⟨rfl, rfl, rfl, rfl, rfl⟩ := H
                  try go_wp2
                  have n0_ := Aside0.mk (Kd.R_drew HO_4.out)
                  have n1_ := Aside0.mk (blk_drew BK659.out)
                  have n2_ := Aside0.mk (below_drew1 HB.out)
                  clear HO_4
                  clear BK659
                  clear HB
                  have HO_4 := n0_
                  have BK659 := n1_
                  have HB := n2_
                  clear n0_ n1_ n2_
                  obtain ⟨Ao29, co29, eo29⟩ := Kd.R_slice HO_4.out
                  (first | subst eo29 | (injection eo29 with f1_ f2_ f3_; have f4_ := f1_.symm; have f5_ := f3_.symm; clear f1_ f2_ f3_; subst f4_; subst f5_))
                  have p664 : 0 ≤ (0 : Int) := (by omega)
                  have q664 : 0 < (t660.length : Int) := of_decide_eq_true (by first | (with_reducible assumption) | assumption)
                  obtain ⟨ad664, e664, hx664_0⟩ := Kd.at_int (Kd.R_reads' HO_4.out).2.2 0 p664 q664
                  cases e664
                  have qi664 : (0 < t660.length) = True := eq_true (by omega)
                  (try rw [show ((0 : Int)).toNat = 0 from rfl] at hx664_0)
                  (try rw [Addr.add_zero'] at hx664_0)
                  replace p664 := eq_true p664
                  replace q664 := eq_true q664
                  have p665 : 0 ≤ (1 : Int) := (by omega)
                  have q665 : 1 < (t660.length : Int) := of_decide_eq_true (by first | (with_reducible assumption) | assumption)
                  obtain ⟨ad665, e665, hx665_0⟩ := Kd.at_int (Kd.R_reads' HO_4.out).2.2 1 p665 q665
                  obtain rfl : ad664 = ad665 := (by injection e665)
                  (try simp only [show (1 : Int).toNat = 1 from rfl, Nat.reduceMul, Nat.reduceEqDiff, Go.Addr.add, ↓reduceIte] at hx665_0)
                  have qi665 : (1 < t660.length) = True := eq_true (by omega)
                  (try rw [show ((1 : Int)).toNat = 1 from rfl] at hx665_0)
                  replace p665 := eq_true p665
                  replace q665 := eq_true q665
                  have p666 : 0 ≤ (2 : Int) := (by omega)
                  have q666 : 2 < (t660.length : Int) := of_decide_eq_true (by first | (with_reducible assumption) | assumption)
                  obtain ⟨ad666, e666, hx666_0⟩ := Kd.at_int (Kd.R_reads' HO_4.out).2.2 2 p666 q666
                  obtain rfl : ad664 = ad666 := (by injection e666)
                  (try simp only [show (2 : Int).toNat = 2 from rfl, Nat.reduceMul, Nat.reduceEqDiff, Go.Addr.add, ↓reduceIte] at hx666_0)
                  have qi666 : (2 < t660.length) = True := eq_true (by omega)
                  (try rw [show ((2 : Int)).toNat = 2 from rfl] at hx666_0)
                  replace p666 := eq_true p666
                  replace q666 := eq_true q666
                  have p667 : 0 ≤ (3 : Int) := (by omega)
                  have q667 : 3 < (t660.length : Int) := of_decide_eq_true (by first | (with_reducible assumption) | assumption)
                  obtain ⟨ad667, e667, hx667_0⟩ := Kd.at_int (Kd.R_reads' HO_4.out).2.2 3 p667 q667
                  obtain rfl : ad664 = ad667 := (by injection e667)
                  (try simp only [show (3 : Int).toNat = 3 from rfl, Nat.reduceMul, Nat.reduceEqDiff, Go.Addr.add, ↓reduceIte] at hx667_0)
                  have qi667 : (3 < t660.length) = True := eq_true (by omega)
                  (try rw [show ((3 : Int)).toNat = 3 from rfl] at hx667_0)
                  replace p667 := eq_true p667
                  replace q667 := eq_true q667
                  refine start_ (n := 15) (S := fun w' => w'.cell? ad664 = some (.int .i64 (rd t660 0)) ∧ w'.cell? ⟨ad664.block, ad664.off + 1, none⟩ = some (.int .i64 (rd t660 1)) ∧ w'.cell? ⟨ad664.block, ad664.off + 2, none⟩ = some (.int .i64 (rd t660 2)) ∧ w'.cell? ⟨ad664.block, ad664.off + 3, none⟩ = some (.int .i64 (rd t660 3))) (ds := []) #[false, false, false, false, false, false, false, false, false, false, false, false, false, false, false] (by kernel_rfl) rfl rfl ⟨hx664_0, hx665_0, hx666_0, hx667_0⟩ (fun hHeld => ?_); refine with_tabW spec_l05Decode.tab4 spec_l05Decode.bits4 (fun HT_ HW_ => ?_)
                  generalize wc.drew = w28 at HO_4 BK659 HB hx664_0 hx665_0 hx666_0 hx667_0 hHeld ⊢
                  refine pure_ (i := 0) (N := some 20) (v := ?_) (a' := ?_) #[true, false, false, false, false, false, false, false, false, false, false, false, false, false, false] rfl rfl (any_of HT_.out (by kernel_rfl)) (fun _ _ _ h => h) (Or.inl ⟨by rfl, ?_⟩) ?_ ?_
                  rotate_left
                  · intro w'
                    go_simp
                    with_reducible rfl
                  rotate_left
                  · simp only [Act.put, List.setIfInBounds_toArray, List.set_cons_zero, List.set_cons_succ, i64_w, i32_w]
                    rfl
                  refine pure_ (i := 1) (N := some 21) (v := ?_) (a' := ?_) #[true, true, false, false, false, false, false, false, false, false, false, false, false, false, false] rfl rfl (any_of HT_.out (by kernel_rfl)) (fun _ _ _ h => h) (Or.inl ⟨by rfl, ?_⟩) ?_ ?_
                  rotate_left
                  · intro w'
                    go_simp
                    with_reducible rfl
                  rotate_left
                  · simp only [Act.put, List.setIfInBounds_toArray, List.set_cons_zero, List.set_cons_succ, i64_w, i32_w]
                    rfl
                  refine pure_ (i := 3) (N := some 23) (v := ?_) (a' := ?_) #[true, true, false, true, false, false, false, false, false, false, false, false, false, false, false] rfl rfl (any_of HT_.out (by kernel_rfl)) (fun _ _ _ h => h) (Or.inl ⟨by rfl, ?_⟩) ?_ ?_
                  rotate_left
                  · intro w'
                    go_simp
                    with_reducible rfl
                  rotate_left
                  · simp only [Act.put, List.setIfInBounds_toArray, List.set_cons_zero, List.set_cons_succ, i64_w, i32_w]
                    rfl
                  refine pure_ (i := 4) (N := some 24) (v := ?_) (a' := ?_) #[true, true, false, true, true, false, false, false, false, false, false, false, false, false, false] rfl rfl (any_of HT_.out (by kernel_rfl)) (fun _ _ _ h => h) (Or.inl ⟨by rfl, ?_⟩) ?_ ?_
                  rotate_left
                  · intro w'
                    go_simp
                    with_reducible rfl
                  rotate_left
                  · simp only [Act.put, List.setIfInBounds_toArray, List.set_cons_zero, List.set_cons_succ, i64_w, i32_w]
                    rfl
                  refine pure_ (i := 6) (N := some 26) (v := ?_) (a' := ?_) #[true, true, false, true, true, false, true, false, false, false, false, false, false, false, false] rfl rfl (any_of HT_.out (by kernel_rfl)) (fun _ _ _ h => h) (Or.inl ⟨by rfl, ?_⟩) ?_ ?_
                  rotate_left
                  · intro w'
                    go_simp
                    with_reducible rfl
                  rotate_left
                  · simp only [Act.put, List.setIfInBounds_toArray, List.set_cons_zero, List.set_cons_succ, i64_w, i32_w]
                    rfl
                  refine pure_ (i := 7) (N := some 27) (v := ?_) (a' := ?_) #[true, true, false, true, true, false, true, true, false, false, false, false, false, false, false] rfl rfl (any_of HT_.out (by kernel_rfl)) (fun _ _ _ h => h) (Or.inl ⟨by rfl, ?_⟩) ?_ ?_
                  rotate_left
                  · intro w'
                    go_simp
                    with_reducible rfl
                  rotate_left
                  · simp only [Act.put, List.setIfInBounds_toArray, List.set_cons_zero, List.set_cons_succ, i64_w, i32_w]
                    rfl
                  refine pure_ (i := 9) (N := some 29) (v := ?_) (a' := ?_) #[true, true, false, true, true, false, true, true, false, true, false, false, false, false, false] rfl rfl (any_of HT_.out (by kernel_rfl)) (fun _ _ _ h => h) (Or.inl ⟨by rfl, ?_⟩) ?_ ?_
                  rotate_left
                  · intro w'
                    go_simp
                    with_reducible rfl
                  rotate_left
                  · simp only [Act.put, List.setIfInBounds_toArray, List.set_cons_zero, List.set_cons_succ, i64_w, i32_w]
                    rfl
                  refine pure_ (i := 10) (N := some 30) (v := ?_) (a' := ?_) #[true, true, false, true, true, false, true, true, false, true, true, false, false, false, false] rfl rfl (any_of HT_.out (by kernel_rfl)) (fun _ _ _ h => h) (Or.inl ⟨by rfl, ?_⟩) ?_ ?_
                  rotate_left
                  · intro w'
                    go_simp
                    with_reducible rfl
                  rotate_left
                  · simp only [Act.put, List.setIfInBounds_toArray, List.set_cons_zero, List.set_cons_succ, i64_w, i32_w]
                    rfl
                  refine take_ (i := 2) (N := some 22) (v := ?_) (a' := ?_) #[true, true, true, true, true, false, true, true, false, true, true, false, false, false, false] rfl rfl (take_ofW HT_.out HW_.out (by kernel_rfl)) (fun _ _ _ h => h) (Or.inl ⟨by rfl, ?_⟩) hHeld ?_ ?_
                  rotate_left
                  · rintro w' ⟨s0, s1, s2, s3⟩
                    go_simp
                    with_reducible rfl
                  rotate_left
                  · simp only [Act.put, List.setIfInBounds_toArray, List.set_cons_zero, List.set_cons_succ, i64_w, i32_w]
                    rfl
                  refine take_ (i := 5) (N := some 25) (v := ?_) (a' := ?_) #[true, true, true, true, true, true, true, true, false, true, true, false, false, false, false] rfl rfl (take_ofW HT_.out HW_.out (by kernel_rfl)) (fun _ _ _ h => h) (Or.inl ⟨by rfl, ?_⟩) hHeld ?_ ?_
                  rotate_left
                  · rintro w' ⟨s0, s1, s2, s3⟩
                    go_simp
                    with_reducible rfl
                  rotate_left
                  · simp only [Act.put, List.setIfInBounds_toArray, List.set_cons_zero, List.set_cons_succ, i64_w, i32_w]
                    rfl
                  refine take_ (i := 8) (N := some 28) (v := ?_) (a' := ?_) #[true, true, true, true, true, true, true, true, true, true, true, false, false, false, false] rfl rfl (take_ofW HT_.out HW_.out (by kernel_rfl)) (fun _ _ _ h => h) (Or.inl ⟨by rfl, ?_⟩) hHeld ?_ ?_
                  rotate_left
                  · rintro w' ⟨s0, s1, s2, s3⟩
                    go_simp
                    with_reducible rfl
                  rotate_left
                  · simp only [Act.put, List.setIfInBounds_toArray, List.set_cons_zero, List.set_cons_succ, i64_w, i32_w]
                    rfl
                  refine take_ (i := 11) (N := some 31) (v := ?_) (a' := ?_) #[true, true, true, true, true, true, true, true, true, true, true, true, false, false, false] rfl rfl (take_ofW HT_.out HW_.out (by kernel_rfl)) (fun _ _ _ h => h) (Or.inl ⟨by rfl, ?_⟩) hHeld ?_ ?_
                  rotate_left
                  · rintro w' ⟨s0, s1, s2, s3⟩
                    go_simp
                    with_reducible rfl
                  rotate_left
                  · simp only [Act.put, List.setIfInBounds_toArray, List.set_cons_zero, List.set_cons_succ, i64_w, i32_w]
                    rfl
                  refine pure_ (i := 12) (N := some 32) (v := ?_) (a' := ?_) #[true, true, true, true, true, true, true, true, true, true, true, true, true, false, false] rfl rfl (any_of HT_.out (by kernel_rfl)) (fun _ _ _ h => h) (Or.inl ⟨by rfl, ?_⟩) ?_ ?_
                  rotate_left
                  · intro w'
                    go_simp
                    with_reducible rfl
                  rotate_left
                  · simp only [Act.put, List.setIfInBounds_toArray, List.set_cons_zero, List.set_cons_succ, i64_w, i32_w]
                    rfl
                  refine one_ (i := 13) (N := some 6) #[true, true, true, true, true, true, true, true, true, true, true, true, true, true, false] rfl rfl (one_of HT_.out (by kernel_rfl)) (by decide) (fun K hK => ?_)
                  refine box_step ?hg (N := 6) ?hd (cs := #[.int .i64 0, .int .i64 0, .int .i64 0, .int .i64 0]) (t := 42) ?hr ?_; (case hd => rfl); (case hg => rfl); (case hr => first | (go_simp; done) | (go_simp; rfl))
                  intro gb668 hg w30 hbox hb
                  have HS0_ := (hb.cell (World.block_lt_of_cell? _ _ (hHeld.1))).trans (hHeld.1)
                  have HS1_ := (hb.cell (World.block_lt_of_cell? _ _ (hHeld.2.1))).trans (hHeld.2.1)
                  have HS2_ := (hb.cell (World.block_lt_of_cell? _ _ (hHeld.2.2.1))).trans (hHeld.2.2.1)
                  have HS3_ := (hb.cell (World.block_lt_of_cell? _ _ (hHeld.2.2.2))).trans (hHeld.2.2.2)
                  have n0_ := Aside0.mk (Kd.R_below (by (with_reducible repeat (first | apply Kd.R_alloc | apply Kd.R_drewN | apply Kd.R_drew)); exact HO_4.out) hb)
                  have n1_ := Aside0.mk (blk_below (g := gb659) (o := .cells #[.int .i64 0, .int .i64 0, .int .i64 0, .int .i64 0] 42 (0, 0)) (by (with_reducible repeat (first | refine blk_drewN ?_ _ | refine blk_drew ?_ | refine blk_alloc ?_ _)); exact BK659.out) hb)
                  have n2_ := Aside0.mk (below_step (by repeat (first | (with_reducible first | exact HB.out | apply below_alloc | apply pw_below_drewN | apply below_drew1 | refine below_set ?_ GE659.out) | exact HB.out)) hb)
                  have n3_ := Aside0.mk (hbox)
                  have n4_ := Aside0.mk ((by rw [hg]; exact (below_size (by repeat (first | (with_reducible first | exact HB.out | apply below_alloc | apply pw_below_drewN | apply below_drew1 | refine below_set ?_ GE659.out) | exact HB.out))) : w.heap.size ≤ gb668))
                  have n5_ := Aside0.mk ((by rw [hg]; exact (below_size (by repeat (first | (with_reducible first | exact HB.out | apply below_alloc | apply pw_below_drewN | apply below_drew1 | refine below_set ?_ GE659.out) | exact HB.out))) : w.heap.size ≤ gb668))
                  have n6_ := Aside0.mk ((by rw [hg]; exact Nat.ne_of_lt (blk_lt (g := gb659) (o := .cells #[.int .i64 0, .int .i64 0, .int .i64 0, .int .i64 0] 42 (0, 0)) (by (with_reducible repeat (first | refine blk_drewN ?_ _ | refine blk_drew ?_ | refine blk_alloc ?_ _)); exact BK659.out)) : gb659 ≠ gb668))
                  have n7_ := Aside0.mk ((by rw [hg]; exact Nat.ne_of_gt (blk_lt (g := gb659) (o := .cells #[.int .i64 0, .int .i64 0, .int .i64 0, .int .i64 0] 42 (0, 0)) (by (with_reducible repeat (first | refine blk_drewN ?_ _ | refine blk_drew ?_ | refine blk_alloc ?_ _)); exact BK659.out)) : gb668 ≠ gb659))
                  clear HO_4
                  clear BK659
                  clear HB
                  have HO_4 := n0_
                  have BK659 := n1_
                  have HB := n2_
                  have BK668 := n3_
                  have GW668 := n4_
                  have GE668 := n5_
                  have NB659_668 := n6_
                  have NB668_659 := n7_
                  clear n0_ n1_ n2_ n3_ n4_ n5_ n6_ n7_
                  clear hb hbox hg
                  refine hK.out _ _ ⟨HS0_, HS1_, HS2_, HS3_⟩ (fun hHeld => ?_)
                  clear hK K
                  refine norm_ (a' := ?_) ?_ ?_
                  rotate_left
                  · show Act.put _ (some 6) _ = _
                    simp only [Act.put, List.setIfInBounds_toArray, List.set_cons_zero, List.set_cons_succ, i64_w, i32_w]
                    rfl
                  refine one_ (i := 14) (N := none) #[true, true, true, true, true, true, true, true, true, true, true, true, true, true, true] rfl rfl (one_of HT_.out (by kernel_rfl)) (by decide) (fun K hK => ?_)
                  have hs31 : w30.cell? ⟨gb668, 0, none⟩ = some (.int .i64 0) := (blk_cell BK668.out 0).trans rfl
                  have hfs31 := blk_frozen BK668.out 0
                  have hns31_0 := NB659_668.out
                  have hms31_0 := NB668_659.out
                  have hs32 : w30.cell? ⟨gb668, 1, none⟩ = some (.int .i64 0) := (blk_cell BK668.out 1).trans rfl
                  have hfs32 := blk_frozen BK668.out 1
                  have hns32_0 := NB659_668.out
                  have hms32_0 := NB668_659.out
                  have hs33 : w30.cell? ⟨gb668, 2, none⟩ = some (.int .i64 0) := (blk_cell BK668.out 2).trans rfl
                  have hfs33 := blk_frozen BK668.out 2
                  have hns33_0 := NB659_668.out
                  have hms33_0 := NB668_659.out
                  have hs34 : w30.cell? ⟨gb668, 3, none⟩ = some (.int .i64 0) := (blk_cell BK668.out 3).trans rfl
                  have hfs34 := blk_frozen BK668.out 3
                  have hns34_0 := NB659_668.out
                  have hms34_0 := NB668_659.out
                  refine skip_ (w1 := ?_) (by rfl) rfl ?_ ?_
                  rotate_left
                  · go_simp
                    rfl
                  refine hK.out _ _ ⟨((cell_far (p := ⟨gb668, _, none⟩) (by first | exact Kd.own_blk (Kd.R_ne HO_4.out BK668.out (by decide)) | (rw [add_block]; exact Kd.own_blk (Kd.R_ne HO_4.out BK668.out (by decide))) | (show (Addr.add _ _).block ≠ _; rw [add_block]; exact Kd.own_blk (Kd.R_ne HO_4.out BK668.out (by decide))) | (dsimp only; exact Kd.own_blk (Kd.R_ne HO_4.out BK668.out (by decide)))) _).trans (((cell_far (p := ⟨gb668, _, none⟩) (by first | exact Kd.own_blk (Kd.R_ne HO_4.out BK668.out (by decide)) | (rw [add_block]; exact Kd.own_blk (Kd.R_ne HO_4.out BK668.out (by decide))) | (show (Addr.add _ _).block ≠ _; rw [add_block]; exact Kd.own_blk (Kd.R_ne HO_4.out BK668.out (by decide))) | (dsimp only; exact Kd.own_blk (Kd.R_ne HO_4.out BK668.out (by decide)))) _).trans (((cell_far (p := ⟨gb668, _, none⟩) (by first | exact Kd.own_blk (Kd.R_ne HO_4.out BK668.out (by decide)) | (rw [add_block]; exact Kd.own_blk (Kd.R_ne HO_4.out BK668.out (by decide))) | (show (Addr.add _ _).block ≠ _; rw [add_block]; exact Kd.own_blk (Kd.R_ne HO_4.out BK668.out (by decide))) | (dsimp only; exact Kd.own_blk (Kd.R_ne HO_4.out BK668.out (by decide)))) _).trans (((cell_far (p := ⟨gb668, _, none⟩) (by first | exact Kd.own_blk (Kd.R_ne HO_4.out BK668.out (by decide)) | (rw [add_block]; exact Kd.own_blk (Kd.R_ne HO_4.out BK668.out (by decide))) | (show (Addr.add _ _).block ≠ _; rw [add_block]; exact Kd.own_blk (Kd.R_ne HO_4.out BK668.out (by decide))) | (dsimp only; exact Kd.own_blk (Kd.R_ne HO_4.out BK668.out (by decide)))) _).trans (hHeld.1)))))))), ((cell_far (p := ⟨gb668, _, none⟩) (by first | exact Kd.own_blk (Kd.R_ne HO_4.out BK668.out (by decide)) | (rw [add_block]; exact Kd.own_blk (Kd.R_ne HO_4.out BK668.out (by decide))) | (show (Addr.add _ _).block ≠ _; rw [add_block]; exact Kd.own_blk (Kd.R_ne HO_4.out BK668.out (by decide))) | (dsimp only; exact Kd.own_blk (Kd.R_ne HO_4.out BK668.out (by decide)))) _).trans (((cell_far (p := ⟨gb668, _, none⟩) (by first | exact Kd.own_blk (Kd.R_ne HO_4.out BK668.out (by decide)) | (rw [add_block]; exact Kd.own_blk (Kd.R_ne HO_4.out BK668.out (by decide))) | (show (Addr.add _ _).block ≠ _; rw [add_block]; exact Kd.own_blk (Kd.R_ne HO_4.out BK668.out (by decide))) | (dsimp only; exact Kd.own_blk (Kd.R_ne HO_4.out BK668.out (by decide)))) _).trans (((cell_far (p := ⟨gb668, _, none⟩) (by first | exact Kd.own_blk (Kd.R_ne HO_4.out BK668.out (by decide)) | (rw [add_block]; exact Kd.own_blk (Kd.R_ne HO_4.out BK668.out (by decide))) | (show (Addr.add _ _).block ≠ _; rw [add_block]; exact Kd.own_blk (Kd.R_ne HO_4.out BK668.out (by decide))) | (dsimp only; exact Kd.own_blk (Kd.R_ne HO_4.out BK668.out (by decide)))) _).trans (((cell_far (p := ⟨gb668, _, none⟩) (by first | exact Kd.own_blk (Kd.R_ne HO_4.out BK668.out (by decide)) | (rw [add_block]; exact Kd.own_blk (Kd.R_ne HO_4.out BK668.out (by decide))) | (show (Addr.add _ _).block ≠ _; rw [add_block]; exact Kd.own_blk (Kd.R_ne HO_4.out BK668.out (by decide))) | (dsimp only; exact Kd.own_blk (Kd.R_ne HO_4.out BK668.out (by decide)))) _).trans (hHeld.2.1)))))))), ((cell_far (p := ⟨gb668, _, none⟩) (by first | exact Kd.own_blk (Kd.R_ne HO_4.out BK668.out (by decide)) | (rw [add_block]; exact Kd.own_blk (Kd.R_ne HO_4.out BK668.out (by decide))) | (show (Addr.add _ _).block ≠ _; rw [add_block]; exact Kd.own_blk (Kd.R_ne HO_4.out BK668.out (by decide))) | (dsimp only; exact Kd.own_blk (Kd.R_ne HO_4.out BK668.out (by decide)))) _).trans (((cell_far (p := ⟨gb668, _, none⟩) (by first | exact Kd.own_blk (Kd.R_ne HO_4.out BK668.out (by decide)) | (rw [add_block]; exact Kd.own_blk (Kd.R_ne HO_4.out BK668.out (by decide))) | (show (Addr.add _ _).block ≠ _; rw [add_block]; exact Kd.own_blk (Kd.R_ne HO_4.out BK668.out (by decide))) | (dsimp only; exact Kd.own_blk (Kd.R_ne HO_4.out BK668.out (by decide)))) _).trans (((cell_far (p := ⟨gb668, _, none⟩) (by first | exact Kd.own_blk (Kd.R_ne HO_4.out BK668.out (by decide)) | (rw [add_block]; exact Kd.own_blk (Kd.R_ne HO_4.out BK668.out (by decide))) | (show (Addr.add _ _).block ≠ _; rw [add_block]; exact Kd.own_blk (Kd.R_ne HO_4.out BK668.out (by decide))) | (dsimp only; exact Kd.own_blk (Kd.R_ne HO_4.out BK668.out (by decide)))) _).trans (((cell_far (p := ⟨gb668, _, none⟩) (by first | exact Kd.own_blk (Kd.R_ne HO_4.out BK668.out (by decide)) | (rw [add_block]; exact Kd.own_blk (Kd.R_ne HO_4.out BK668.out (by decide))) | (show (Addr.add _ _).block ≠ _; rw [add_block]; exact Kd.own_blk (Kd.R_ne HO_4.out BK668.out (by decide))) | (dsimp only; exact Kd.own_blk (Kd.R_ne HO_4.out BK668.out (by decide)))) _).trans (hHeld.2.2.1)))))))), ((cell_far (p := ⟨gb668, _, none⟩) (by first | exact Kd.own_blk (Kd.R_ne HO_4.out BK668.out (by decide)) | (rw [add_block]; exact Kd.own_blk (Kd.R_ne HO_4.out BK668.out (by decide))) | (show (Addr.add _ _).block ≠ _; rw [add_block]; exact Kd.own_blk (Kd.R_ne HO_4.out BK668.out (by decide))) | (dsimp only; exact Kd.own_blk (Kd.R_ne HO_4.out BK668.out (by decide)))) _).trans (((cell_far (p := ⟨gb668, _, none⟩) (by first | exact Kd.own_blk (Kd.R_ne HO_4.out BK668.out (by decide)) | (rw [add_block]; exact Kd.own_blk (Kd.R_ne HO_4.out BK668.out (by decide))) | (show (Addr.add _ _).block ≠ _; rw [add_block]; exact Kd.own_blk (Kd.R_ne HO_4.out BK668.out (by decide))) | (dsimp only; exact Kd.own_blk (Kd.R_ne HO_4.out BK668.out (by decide)))) _).trans (((cell_far (p := ⟨gb668, _, none⟩) (by first | exact Kd.own_blk (Kd.R_ne HO_4.out BK668.out (by decide)) | (rw [add_block]; exact Kd.own_blk (Kd.R_ne HO_4.out BK668.out (by decide))) | (show (Addr.add _ _).block ≠ _; rw [add_block]; exact Kd.own_blk (Kd.R_ne HO_4.out BK668.out (by decide))) | (dsimp only; exact Kd.own_blk (Kd.R_ne HO_4.out BK668.out (by decide)))) _).trans (((cell_far (p := ⟨gb668, _, none⟩) (by first | exact Kd.own_blk (Kd.R_ne HO_4.out BK668.out (by decide)) | (rw [add_block]; exact Kd.own_blk (Kd.R_ne HO_4.out BK668.out (by decide))) | (show (Addr.add _ _).block ≠ _; rw [add_block]; exact Kd.own_blk (Kd.R_ne HO_4.out BK668.out (by decide))) | (dsimp only; exact Kd.own_blk (Kd.R_ne HO_4.out BK668.out (by decide)))) _).trans (hHeld.2.2.2))))))))⟩ (fun hHeld => ?_)
                  clear hK K
                  refine done_ (done_of HT_.out (by kernel_rfl)) ?_
                  have hnb35 := NB668_659.out
                  have hnc35 := NB659_668.out
                  have hcz36_0 : w30.cell? ⟨gb668, 0, none⟩ = some (.int .i64 0) := (blk_cell BK668.out 0).trans rfl
                  have hcz36_1 : w30.cell? ⟨gb668, 1, none⟩ = some (.int .i64 0) := (blk_cell BK668.out 1).trans rfl
                  have hcz36_2 : w30.cell? ⟨gb668, 2, none⟩ = some (.int .i64 0) := (blk_cell BK668.out 2).trans rfl
                  have hcz36_3 : w30.cell? ⟨gb668, 3, none⟩ = some (.int .i64 0) := (blk_cell BK668.out 3).trans rfl
                  have hfz36_0 := blk_frozen BK668.out 0
                  have hfz36_1 := blk_frozen BK668.out 1
                  have hfz36_2 := blk_frozen BK668.out 2
                  have hfz36_3 := blk_frozen BK668.out 3
                  try go_wp2_with (first | ((with_reducible refine gate_callee (f := 70) rfl ?_); refine goesL_ (some 34) rfl rfl Try.func70 (by kernel_rfl) rfl #[.agg #[.int .i64 (rd t660 0), .int .i64 (rd t660 1), .int .i64 (rd t660 2), .int .i64 (rd t660 3)]] rfl (by (try simp only [List.map_toArray, List.map_cons, List.map_nil]); first | done | rfl | (simp only [List.length_drop, List.length_take]; rfl)) ?_; (with_reducible refine (spec_BlockOK.calls (rd t660 0) (rd t660 1) (rd t660 2) (rd t660 3) false _ A14.out).mono ?_); rintro e w37 ⟨rfl, hb⟩; refine ⟨_, rfl, ?_⟩; have n0_ := Aside0.mk (Kd.R_below (by (with_reducible repeat (first | apply Kd.R_alloc | apply Kd.R_drewN | apply Kd.R_drew)); exact (Kd.R_mono (Kd.R_far (p := ⟨gb668, 3, none⟩) (Kd.R_far (p := ⟨gb668, 2, none⟩) (Kd.R_far (p := ⟨gb668, 1, none⟩) (Kd.R_far (p := ⟨gb668, 0, none⟩) (Kd.R_types HO_4.out BK668.out (by decide)) (fun _ hk => hk.2) (.int .i64 (rd t660 0))) (fun _ hk => hk.2) (.int .i64 (rd t660 1))) (fun _ hk => hk.2) (.int .i64 (rd t660 2))) (fun _ hk => hk.2) (.int .i64 (rd t660 3))) (fun _ h_ => h_.1))) hb); have n1_ := Aside0.mk (blk_below (g := gb659) (o := .cells #[.int .i64 0, .int .i64 0, .int .i64 0, .int .i64 0] 42 (0, 0)) (by (with_reducible repeat (first | refine blk_drewN ?_ _ | refine blk_drew ?_ | refine blk_alloc ?_ _)); refine blk_far ?_ NB659_668.out _; (with_reducible repeat (first | refine blk_drewN ?_ _ | refine blk_drew ?_ | refine blk_alloc ?_ _)); refine blk_far ?_ NB659_668.out _; (with_reducible repeat (first | refine blk_drewN ?_ _ | refine blk_drew ?_ | refine blk_alloc ?_ _)); refine blk_far ?_ NB659_668.out _; (with_reducible repeat (first | refine blk_drewN ?_ _ | refine blk_drew ?_ | refine blk_alloc ?_ _)); refine blk_far ?_ NB659_668.out _; (with_reducible repeat (first | refine blk_drewN ?_ _ | refine blk_drew ?_ | refine blk_alloc ?_ _)); exact BK659.out) hb); have n2_ := Aside0.mk (blk_below (g := gb668) (o := .cells #[.int .i64 (rd t660 0), .int .i64 (rd t660 1), .int .i64 (rd t660 2), .int .i64 (rd t660 3)] 42 (0, 0)) (by (with_reducible repeat (first | refine blk_drewN ?_ _ | refine blk_drew ?_ | refine blk_alloc ?_ _)); refine blk_put (cs := #[.int .i64 (rd t660 0), .int .i64 (rd t660 1), .int .i64 (rd t660 2), .int .i64 0]) ?_ 3 _ rfl; (with_reducible repeat (first | refine blk_drewN ?_ _ | refine blk_drew ?_ | refine blk_alloc ?_ _)); refine blk_put (cs := #[.int .i64 (rd t660 0), .int .i64 (rd t660 1), .int .i64 0, .int .i64 0]) ?_ 2 _ rfl; (with_reducible repeat (first | refine blk_drewN ?_ _ | refine blk_drew ?_ | refine blk_alloc ?_ _)); refine blk_put (cs := #[.int .i64 (rd t660 0), .int .i64 0, .int .i64 0, .int .i64 0]) ?_ 1 _ rfl; (with_reducible repeat (first | refine blk_drewN ?_ _ | refine blk_drew ?_ | refine blk_alloc ?_ _)); refine blk_put (cs := #[.int .i64 0, .int .i64 0, .int .i64 0, .int .i64 0]) ?_ 0 _ rfl; (with_reducible repeat (first | refine blk_drewN ?_ _ | refine blk_drew ?_ | refine blk_alloc ?_ _)); exact BK668.out) hb); have n3_ := Aside0.mk (below_step (by repeat (first | (with_reducible first | exact HB.out | apply below_alloc | apply pw_below_drewN | apply below_drew1 | refine below_set ?_ GE659.out | refine below_set ?_ GE668.out) | exact HB.out)) hb); clear HO_4; clear BK659; clear BK668; clear HB; have HO_4 := n0_; have BK659 := n1_; have BK668 := n2_; have HB := n3_; clear n0_ n1_ n2_ n3_; (try clear hb); (try clear hb2); (try clear hk); (try clear hi); have hcz38_0 : w37.cell? ⟨gb659, 0, none⟩ = some (.int .i64 0) := (blk_cell BK659.out 0).trans rfl; have hcz38_1 : w37.cell? ⟨gb659, 1, none⟩ = some (.int .i64 0) := (blk_cell BK659.out 1).trans rfl; have hcz38_2 : w37.cell? ⟨gb659, 2, none⟩ = some (.int .i64 0) := (blk_cell BK659.out 2).trans rfl; have hcz38_3 : w37.cell? ⟨gb659, 3, none⟩ = some (.int .i64 0) := (blk_cell BK659.out 3).trans rfl; have hfz38_0 := blk_frozen BK659.out 0; have hfz38_1 := blk_frozen BK659.out 1; have hfz38_2 := blk_frozen BK659.out 2; have hfz38_3 := blk_frozen BK659.out 3))
                  refine bodyPost_ret (results_ct rfl _ _ gb659 42 #[.int .i64 0, .int .i64 0, .int .i64 0, .int .i64 0] (0, 0) _ rfl (by (with_reducible repeat (first | refine blk_drewN ?_ _ | refine blk_drew ?_ | refine blk_alloc ?_ _)); refine blk_put (cs := #[.int .i64 0, .int .i64 0, .int .i64 0, .int .i64 0]) ?_ 3 _ rfl; (with_reducible repeat (first | refine blk_drewN ?_ _ | refine blk_drew ?_ | refine blk_alloc ?_ _)); refine blk_put (cs := #[.int .i64 0, .int .i64 0, .int .i64 0, .int .i64 0]) ?_ 2 _ rfl; (with_reducible repeat (first | refine blk_drewN ?_ _ | refine blk_drew ?_ | refine blk_alloc ?_ _)); refine blk_put (cs := #[.int .i64 0, .int .i64 0, .int .i64 0, .int .i64 0]) ?_ 1 _ rfl; (with_reducible repeat (first | refine blk_drewN ?_ _ | refine blk_drew ?_ | refine blk_alloc ?_ _)); refine blk_put (cs := #[.int .i64 0, .int .i64 0, .int .i64 0, .int .i64 0]) ?_ 0 _ rfl; (with_reducible repeat (first | refine blk_drewN ?_ _ | refine blk_drew ?_ | refine blk_alloc ?_ _)); exact BK659.out) Try.underlying42 rfl (by kernel_rfl)) rfl ?_
                  exact ⟨by first | rfl | (simp [errW_none, errW_some] <;> rfl) | (simp [*, errW_none, errW_some] <;> rfl), by repeat (first | (with_reducible first | exact HB.out | apply below_alloc | apply pw_below_drewN | apply below_drew1 | refine below_set ?_ GE659.out | refine below_set ?_ GE668.out) | exact HB.out)⟩
              · rw [if_neg c13] at H
                exact absurd H (by simp)
            · rw [if_neg c12] at H
              exact absurd H (by simp)
          · rw [if_neg c11] at H
            exact absurd H (by simp)
        · rw [if_neg c10] at H
          exact absurd H (by simp)
/-! ### spec_DecodeBlock: function 55 -/
def spec_DecodeBlock.f (k : Nat) (a0 : ByteArray) : Option (Int × Int × Int × Int × Int) := if (a0.size : Int) > 65536 then (some (0, 0, 0, 0, 2)) else ((spec_l05Decode.f k a0).bind fun bt671 => (if bt671.2.2.2.2 = true then (some (bt671.1, bt671.2.1, bt671.2.2.1, bt671.2.2.2.1, 0)) else (some (0, 0, 0, 0, 3))))
theorem spec_DecodeBlock.mono : ∀ a0 k, LeO (spec_DecodeBlock.f k a0) (spec_DecodeBlock.f (k + 1) a0) := by
  intro a0 k
  unfold spec_DecodeBlock.f
  repeat' first
      | (with_reducible exact spec_l05Decode.mono _ _)
      | (with_reducible exact LeO.refl _)
      | (with_reducible exact LeO.none _)
      | (with_reducible refine LeO.ite ?_ ?_)
      | (with_reducible refine LeO.bind ?_ (fun _ => ?_))
      | exact spec_l05Decode.mono _ _
      | exact LeO.none _
      | refine LeO.ite ?_ ?_
      | refine LeO.bind ?_ (fun _ => ?_)
set_option maxHeartbeats 8000000 in
set_option maxRecDepth 100000 in
theorem spec_DecodeBlock.calls (k : Nat) (a0 : ByteArray) (r1 : Int) (r2 : Int) (r3 : Int) (r4 : Int) (r5 : Int) (w : World) (h : spec_DecodeBlock.f k a0 = some (r1, r2, r3, r4, r5)) :
    Calls Try.prog 55 #[.string a0] w fun e w' => e = .returned (.tuple #[.agg #[.int .i64 r1, .int .i64 r2, .int .i64 r3, .int .i64 r4], .int .i64 r5]) ∧ Below w.heap.size w w' := by
  have hu42 := Try.underlying42
  have HB := Aside0.mk (Below.refl w.heap.size w)
  have H : (if (a0.size : Int) > 65536 then (some (0, 0, 0, 0, 2)) else ((spec_l05Decode.f k a0).bind fun bt671 => (if bt671.2.2.2.2 = true then (some (bt671.1, bt671.2.1, bt671.2.2.1, bt671.2.2.2.1, 0)) else (some (0, 0, 0, 0, 3))))) = some (r1, r2, r3, r4, r5) := h
  clear h
  by_cases c2 : (a0.size : Int) > 65536
  · rw [if_pos c2] at H
    have c2b0 : decide (65536 < (a0.size : Int)) = true := decide_eq_true c2
    have c2b1 : decide (65536 < a0.size) = true := decide_eq_true (by omega)
    clear c2
    simp only [Option.some.injEq, Prod.mk.injEq] at H
    obtain ⟨rfl, rfl, rfl, rfl, rfl⟩ := H
    go_enter Try.func55, Try.ntmps55
    go_wp2_with (first | ((with_reducible refine gate_dst (N := 2) rfl ?_); refine box_event ?hg (N := 2) ?hd (cs := #[.int .i64 0, .int .i64 0, .int .i64 0, .int .i64 0]) (t := 42) ?hr ?_; (case hd => rfl); (case hg => rfl); (case hr => first | (go_simp; done) | (go_simp; rfl)); intro gb670 hg w3 hbox hb; have n0_ := Aside0.mk (below_step (by repeat (first | (with_reducible first | exact HB.out | apply below_alloc | apply pw_below_drewN | apply below_drew1) | exact HB.out)) hb); have n1_ := Aside0.mk (hbox); have n2_ := Aside0.mk ((by rw [hg]; exact (below_size (by repeat (first | (with_reducible first | exact HB.out | apply below_alloc | apply pw_below_drewN | apply below_drew1) | exact HB.out))) : w.heap.size ≤ gb670)); have n3_ := Aside0.mk ((by rw [hg]; exact (below_size (by repeat (first | (with_reducible first | exact HB.out | apply below_alloc | apply pw_below_drewN | apply below_drew1) | exact HB.out))) : w.heap.size ≤ gb670)); clear HB; have HB := n0_; have BK670 := n1_; have GW670 := n2_; have GE670 := n3_; clear n0_ n1_ n2_ n3_; clear hb hbox hg; have hcz4_0 : w3.cell? ⟨gb670, 0, none⟩ = some (.int .i64 0) := (blk_cell BK670.out 0).trans rfl; have hcz4_1 : w3.cell? ⟨gb670, 1, none⟩ = some (.int .i64 0) := (blk_cell BK670.out 1).trans rfl; have hcz4_2 : w3.cell? ⟨gb670, 2, none⟩ = some (.int .i64 0) := (blk_cell BK670.out 2).trans rfl; have hcz4_3 : w3.cell? ⟨gb670, 3, none⟩ = some (.int .i64 0) := (blk_cell BK670.out 3).trans rfl; have hfz4_0 := blk_frozen BK670.out 0; have hfz4_1 := blk_frozen BK670.out 1; have hfz4_2 := blk_frozen BK670.out 2; have hfz4_3 := blk_frozen BK670.out 3))
    refine bodyPost_ret (results_ct rfl _ _ gb670 42 #[.int .i64 0, .int .i64 0, .int .i64 0, .int .i64 0] (0, 0) _ rfl (by (with_reducible repeat (first | refine blk_drewN ?_ _ | refine blk_drew ?_ | refine blk_alloc ?_ _)); refine blk_put (cs := #[.int .i64 0, .int .i64 0, .int .i64 0, .int .i64 0]) ?_ 3 _ rfl; (with_reducible repeat (first | refine blk_drewN ?_ _ | refine blk_drew ?_ | refine blk_alloc ?_ _)); refine blk_put (cs := #[.int .i64 0, .int .i64 0, .int .i64 0, .int .i64 0]) ?_ 2 _ rfl; (with_reducible repeat (first | refine blk_drewN ?_ _ | refine blk_drew ?_ | refine blk_alloc ?_ _)); refine blk_put (cs := #[.int .i64 0, .int .i64 0, .int .i64 0, .int .i64 0]) ?_ 1 _ rfl; (with_reducible repeat (first | refine blk_drewN ?_ _ | refine blk_drew ?_ | refine blk_alloc ?_ _)); refine blk_put (cs := #[.int .i64 0, .int .i64 0, .int .i64 0, .int .i64 0]) ?_ 0 _ rfl; (with_reducible repeat (first | refine blk_drewN ?_ _ | refine blk_drew ?_ | refine blk_alloc ?_ _)); exact BK670.out) Try.underlying42 rfl (by kernel_rfl)) rfl ?_
    exact ⟨by first | rfl | (simp [errW_none, errW_some] <;> rfl) | (simp [*, errW_none, errW_some] <;> rfl), by repeat (first | (with_reducible first | exact HB.out | apply below_alloc | apply pw_below_drewN | apply below_drew1 | refine below_set ?_ GE670.out) | exact HB.out)⟩
  · rw [if_neg c2] at H
    have c2b0 : decide (65536 < (a0.size : Int)) = false := decide_eq_false c2
    have c2b1 : decide (65536 < a0.size) = false := decide_eq_false (by omega)
    clear c2
    replace H := Option.bind_eq_some_iff.mp H
    obtain ⟨⟨t671, t672, t673, t674, t675⟩, A50, H⟩ := H
    replace H : (if t675 = true then (some (t671, t672, t673, t674, 0)) else (some (0, 0, 0, 0, 3))) = some (r1, r2, r3, r4, r5) := H
    have A5 := Aside0.mk A50
    clear A50
    by_cases c6 : t675 = true
    · subst c6
      have H1 : (some (t671, t672, t673, t674, 0)) = some (r1, r2, r3, r4, r5) := by rw [if_pos rfl] at H; exact H
      clear H
      have H := H1
      clear H1
      simp only [Option.some.injEq, Prod.mk.injEq] at H
      obtain ⟨rfl, rfl, rfl, rfl, rfl⟩ := H
      go_enter Try.func55, Try.ntmps55
      go_wp2_with (first | ((with_reducible refine gate_dst (N := 2) rfl ?_); refine box_event ?hg (N := 2) ?hd (cs := #[.int .i64 0, .int .i64 0, .int .i64 0, .int .i64 0]) (t := 42) ?hr ?_; (case hd => rfl); (case hg => rfl); (case hr => first | (go_simp; done) | (go_simp; rfl)); intro gb670 hg w7 hbox hb; have n0_ := Aside0.mk (below_step (by repeat (first | (with_reducible first | exact HB.out | apply below_alloc | apply pw_below_drewN | apply below_drew1) | exact HB.out)) hb); have n1_ := Aside0.mk (hbox); have n2_ := Aside0.mk ((by rw [hg]; exact (below_size (by repeat (first | (with_reducible first | exact HB.out | apply below_alloc | apply pw_below_drewN | apply below_drew1) | exact HB.out))) : w.heap.size ≤ gb670)); have n3_ := Aside0.mk ((by rw [hg]; exact (below_size (by repeat (first | (with_reducible first | exact HB.out | apply below_alloc | apply pw_below_drewN | apply below_drew1) | exact HB.out))) : w.heap.size ≤ gb670)); clear HB; have HB := n0_; have BK670 := n1_; have GW670 := n2_; have GE670 := n3_; clear n0_ n1_ n2_ n3_; clear hb hbox hg) | ((with_reducible refine gate_callee (f := 104) rfl ?_); refine goesL_ (some 12) rfl rfl Try.func104 (by kernel_rfl) rfl #[.string a0] rfl (by (try simp only [List.map_toArray, List.map_cons, List.map_nil]); first | done | rfl | (simp only [List.length_drop, List.length_take]; rfl)) ?_; (with_reducible refine (spec_l05Decode.calls k a0 t671 t672 t673 t674 true _ A5.out).mono ?_); rintro e w8 ⟨rfl, hb⟩; refine ⟨_, rfl, ?_⟩; have n0_ := Aside0.mk (blk_below (g := gb670) (o := .cells #[.int .i64 0, .int .i64 0, .int .i64 0, .int .i64 0] 42 (0, 0)) (by (with_reducible repeat (first | refine blk_drewN ?_ _ | refine blk_drew ?_ | refine blk_alloc ?_ _)); exact BK670.out) hb); have n1_ := Aside0.mk (below_step (by repeat (first | (with_reducible first | exact HB.out | apply below_alloc | apply pw_below_drewN | apply below_drew1 | refine below_set ?_ GE670.out) | exact HB.out)) hb); clear BK670; clear HB; have BK670 := n0_; have HB := n1_; clear n0_ n1_; (try clear hb); (try clear hb2); (try clear hk); (try clear hi)) | ((with_reducible refine gate_dst (N := 4) rfl ?_); refine box_event ?hg (N := 4) ?hd (cs := #[.int .i64 0, .int .i64 0, .int .i64 0, .int .i64 0]) (t := 42) ?hr ?_; (case hd => rfl); (case hg => rfl); (case hr => first | (go_simp; done) | (go_simp; rfl)); intro gb676 hg w9 hbox hb; have n0_ := Aside0.mk (blk_below (g := gb670) (o := .cells #[.int .i64 0, .int .i64 0, .int .i64 0, .int .i64 0] 42 (0, 0)) (by (with_reducible repeat (first | refine blk_drewN ?_ _ | refine blk_drew ?_ | refine blk_alloc ?_ _)); exact BK670.out) hb); have n1_ := Aside0.mk (below_step (by repeat (first | (with_reducible first | exact HB.out | apply below_alloc | apply pw_below_drewN | apply below_drew1 | refine below_set ?_ GE670.out) | exact HB.out)) hb); have n2_ := Aside0.mk (hbox); have n3_ := Aside0.mk ((by rw [hg]; exact (below_size (by repeat (first | (with_reducible first | exact HB.out | apply below_alloc | apply pw_below_drewN | apply below_drew1 | refine below_set ?_ GE670.out) | exact HB.out))) : w.heap.size ≤ gb676)); have n4_ := Aside0.mk ((by rw [hg]; exact (below_size (by repeat (first | (with_reducible first | exact HB.out | apply below_alloc | apply pw_below_drewN | apply below_drew1 | refine below_set ?_ GE670.out) | exact HB.out))) : w.heap.size ≤ gb676)); have n5_ := Aside0.mk ((by rw [hg]; exact Nat.ne_of_lt (blk_lt (g := gb670) (o := .cells #[.int .i64 0, .int .i64 0, .int .i64 0, .int .i64 0] 42 (0, 0)) (by (with_reducible repeat (first | refine blk_drewN ?_ _ | refine blk_drew ?_ | refine blk_alloc ?_ _)); exact BK670.out)) : gb670 ≠ gb676)); have n6_ := Aside0.mk ((by rw [hg]; exact Nat.ne_of_gt (blk_lt (g := gb670) (o := .cells #[.int .i64 0, .int .i64 0, .int .i64 0, .int .i64 0] 42 (0, 0)) (by (with_reducible repeat (first | refine blk_drewN ?_ _ | refine blk_drew ?_ | refine blk_alloc ?_ _)); exact BK670.out)) : gb676 ≠ gb670)); clear BK670; clear HB; have BK670 := n0_; have HB := n1_; have BK676 := n2_; have GW676 := n3_; have GE676 := n4_; have NB670_676 := n5_; have NB676_670 := n6_; clear n0_ n1_ n2_ n3_ n4_ n5_ n6_; clear hb hbox hg; have hnb10 := NB676_670.out; have hnc10 := NB670_676.out; have hcz11_0 : w9.cell? ⟨gb676, 0, none⟩ = some (.int .i64 0) := (blk_cell BK676.out 0).trans rfl; have hcz11_1 : w9.cell? ⟨gb676, 1, none⟩ = some (.int .i64 0) := (blk_cell BK676.out 1).trans rfl; have hcz11_2 : w9.cell? ⟨gb676, 2, none⟩ = some (.int .i64 0) := (blk_cell BK676.out 2).trans rfl; have hcz11_3 : w9.cell? ⟨gb676, 3, none⟩ = some (.int .i64 0) := (blk_cell BK676.out 3).trans rfl; have hfz11_0 := blk_frozen BK676.out 0; have hfz11_1 := blk_frozen BK676.out 1; have hfz11_2 := blk_frozen BK676.out 2; have hfz11_3 := blk_frozen BK676.out 3; have hcz12_0 : w9.cell? ⟨gb670, 0, none⟩ = some (.int .i64 0) := (blk_cell BK670.out 0).trans rfl; have hcz12_1 : w9.cell? ⟨gb670, 1, none⟩ = some (.int .i64 0) := (blk_cell BK670.out 1).trans rfl; have hcz12_2 : w9.cell? ⟨gb670, 2, none⟩ = some (.int .i64 0) := (blk_cell BK670.out 2).trans rfl; have hcz12_3 : w9.cell? ⟨gb670, 3, none⟩ = some (.int .i64 0) := (blk_cell BK670.out 3).trans rfl; have hfz12_0 := blk_frozen BK670.out 0; have hfz12_1 := blk_frozen BK670.out 1; have hfz12_2 := blk_frozen BK670.out 2; have hfz12_3 := blk_frozen BK670.out 3))
      refine bodyPost_ret (results_ct rfl _ _ gb670 42 #[.int .i64 t671, .int .i64 t672, .int .i64 t673, .int .i64 t674] (0, 0) _ rfl (by (with_reducible repeat (first | refine blk_drewN ?_ _ | refine blk_drew ?_ | refine blk_alloc ?_ _)); refine blk_put (cs := #[.int .i64 t671, .int .i64 t672, .int .i64 t673, .int .i64 0]) ?_ 3 _ rfl; (with_reducible repeat (first | refine blk_drewN ?_ _ | refine blk_drew ?_ | refine blk_alloc ?_ _)); refine blk_put (cs := #[.int .i64 t671, .int .i64 t672, .int .i64 0, .int .i64 0]) ?_ 2 _ rfl; (with_reducible repeat (first | refine blk_drewN ?_ _ | refine blk_drew ?_ | refine blk_alloc ?_ _)); refine blk_put (cs := #[.int .i64 t671, .int .i64 0, .int .i64 0, .int .i64 0]) ?_ 1 _ rfl; (with_reducible repeat (first | refine blk_drewN ?_ _ | refine blk_drew ?_ | refine blk_alloc ?_ _)); refine blk_put (cs := #[.int .i64 0, .int .i64 0, .int .i64 0, .int .i64 0]) ?_ 0 _ rfl; (with_reducible repeat (first | refine blk_drewN ?_ _ | refine blk_drew ?_ | refine blk_alloc ?_ _)); refine blk_far ?_ NB670_676.out _; (with_reducible repeat (first | refine blk_drewN ?_ _ | refine blk_drew ?_ | refine blk_alloc ?_ _)); refine blk_far ?_ NB670_676.out _; (with_reducible repeat (first | refine blk_drewN ?_ _ | refine blk_drew ?_ | refine blk_alloc ?_ _)); refine blk_far ?_ NB670_676.out _; (with_reducible repeat (first | refine blk_drewN ?_ _ | refine blk_drew ?_ | refine blk_alloc ?_ _)); refine blk_far ?_ NB670_676.out _; (with_reducible repeat (first | refine blk_drewN ?_ _ | refine blk_drew ?_ | refine blk_alloc ?_ _)); exact BK670.out) Try.underlying42 rfl (by kernel_rfl)) rfl ?_
      exact ⟨by first | rfl | (simp [errW_none, errW_some] <;> rfl) | (simp [*, errW_none, errW_some] <;> rfl), by repeat (first | (with_reducible first | exact HB.out | apply below_alloc | apply pw_below_drewN | apply below_drew1 | refine below_set ?_ GE670.out | refine below_set ?_ GE676.out) | exact HB.out)⟩
    · replace c6 := Bool.eq_false_iff.mpr c6
      subst c6
      have H1 : (some (0, 0, 0, 0, 3)) = some (r1, r2, r3, r4, r5) := by rw [if_neg (show ¬ (false = true) by decide)] at H; exact H
      clear H
      have H := H1
      clear H1
      simp only [Option.some.injEq, Prod.mk.injEq] at H
      obtain ⟨rfl, rfl, rfl, rfl, rfl⟩ := H
      go_enter Try.func55, Try.ntmps55
      go_wp2_with (first | ((with_reducible refine gate_dst (N := 2) rfl ?_); refine box_event ?hg (N := 2) ?hd (cs := #[.int .i64 0, .int .i64 0, .int .i64 0, .int .i64 0]) (t := 42) ?hr ?_; (case hd => rfl); (case hg => rfl); (case hr => first | (go_simp; done) | (go_simp; rfl)); intro gb670 hg w13 hbox hb; have n0_ := Aside0.mk (below_step (by repeat (first | (with_reducible first | exact HB.out | apply below_alloc | apply pw_below_drewN | apply below_drew1) | exact HB.out)) hb); have n1_ := Aside0.mk (hbox); have n2_ := Aside0.mk ((by rw [hg]; exact (below_size (by repeat (first | (with_reducible first | exact HB.out | apply below_alloc | apply pw_below_drewN | apply below_drew1) | exact HB.out))) : w.heap.size ≤ gb670)); have n3_ := Aside0.mk ((by rw [hg]; exact (below_size (by repeat (first | (with_reducible first | exact HB.out | apply below_alloc | apply pw_below_drewN | apply below_drew1) | exact HB.out))) : w.heap.size ≤ gb670)); clear HB; have HB := n0_; have BK670 := n1_; have GW670 := n2_; have GE670 := n3_; clear n0_ n1_ n2_ n3_; clear hb hbox hg) | ((with_reducible refine gate_callee (f := 104) rfl ?_); refine goesL_ (some 12) rfl rfl Try.func104 (by kernel_rfl) rfl #[.string a0] rfl (by (try simp only [List.map_toArray, List.map_cons, List.map_nil]); first | done | rfl | (simp only [List.length_drop, List.length_take]; rfl)) ?_; (with_reducible refine (spec_l05Decode.calls k a0 t671 t672 t673 t674 false _ A5.out).mono ?_); rintro e w14 ⟨rfl, hb⟩; refine ⟨_, rfl, ?_⟩; have n0_ := Aside0.mk (blk_below (g := gb670) (o := .cells #[.int .i64 0, .int .i64 0, .int .i64 0, .int .i64 0] 42 (0, 0)) (by (with_reducible repeat (first | refine blk_drewN ?_ _ | refine blk_drew ?_ | refine blk_alloc ?_ _)); exact BK670.out) hb); have n1_ := Aside0.mk (below_step (by repeat (first | (with_reducible first | exact HB.out | apply below_alloc | apply pw_below_drewN | apply below_drew1 | refine below_set ?_ GE670.out) | exact HB.out)) hb); clear BK670; clear HB; have BK670 := n0_; have HB := n1_; clear n0_ n1_; (try clear hb); (try clear hb2); (try clear hk); (try clear hi)) | ((with_reducible refine gate_dst (N := 4) rfl ?_); refine box_event ?hg (N := 4) ?hd (cs := #[.int .i64 0, .int .i64 0, .int .i64 0, .int .i64 0]) (t := 42) ?hr ?_; (case hd => rfl); (case hg => rfl); (case hr => first | (go_simp; done) | (go_simp; rfl)); intro gb676 hg w15 hbox hb; have n0_ := Aside0.mk (blk_below (g := gb670) (o := .cells #[.int .i64 0, .int .i64 0, .int .i64 0, .int .i64 0] 42 (0, 0)) (by (with_reducible repeat (first | refine blk_drewN ?_ _ | refine blk_drew ?_ | refine blk_alloc ?_ _)); exact BK670.out) hb); have n1_ := Aside0.mk (below_step (by repeat (first | (with_reducible first | exact HB.out | apply below_alloc | apply pw_below_drewN | apply below_drew1 | refine below_set ?_ GE670.out) | exact HB.out)) hb); have n2_ := Aside0.mk (hbox); have n3_ := Aside0.mk ((by rw [hg]; exact (below_size (by repeat (first | (with_reducible first | exact HB.out | apply below_alloc | apply pw_below_drewN | apply below_drew1 | refine below_set ?_ GE670.out) | exact HB.out))) : w.heap.size ≤ gb676)); have n4_ := Aside0.mk ((by rw [hg]; exact (below_size (by repeat (first | (with_reducible first | exact HB.out | apply below_alloc | apply pw_below_drewN | apply below_drew1 | refine below_set ?_ GE670.out) | exact HB.out))) : w.heap.size ≤ gb676)); have n5_ := Aside0.mk ((by rw [hg]; exact Nat.ne_of_lt (blk_lt (g := gb670) (o := .cells #[.int .i64 0, .int .i64 0, .int .i64 0, .int .i64 0] 42 (0, 0)) (by (with_reducible repeat (first | refine blk_drewN ?_ _ | refine blk_drew ?_ | refine blk_alloc ?_ _)); exact BK670.out)) : gb670 ≠ gb676)); have n6_ := Aside0.mk ((by rw [hg]; exact Nat.ne_of_gt (blk_lt (g := gb670) (o := .cells #[.int .i64 0, .int .i64 0, .int .i64 0, .int .i64 0] 42 (0, 0)) (by (with_reducible repeat (first | refine blk_drewN ?_ _ | refine blk_drew ?_ | refine blk_alloc ?_ _)); exact BK670.out)) : gb676 ≠ gb670)); clear BK670; clear HB; have BK670 := n0_; have HB := n1_; have BK676 := n2_; have GW676 := n3_; have GE676 := n4_; have NB670_676 := n5_; have NB676_670 := n6_; clear n0_ n1_ n2_ n3_ n4_ n5_ n6_; clear hb hbox hg; have hnb16 := NB676_670.out; have hnc16 := NB670_676.out; have hcz17_0 : w15.cell? ⟨gb676, 0, none⟩ = some (.int .i64 0) := (blk_cell BK676.out 0).trans rfl; have hcz17_1 : w15.cell? ⟨gb676, 1, none⟩ = some (.int .i64 0) := (blk_cell BK676.out 1).trans rfl; have hcz17_2 : w15.cell? ⟨gb676, 2, none⟩ = some (.int .i64 0) := (blk_cell BK676.out 2).trans rfl; have hcz17_3 : w15.cell? ⟨gb676, 3, none⟩ = some (.int .i64 0) := (blk_cell BK676.out 3).trans rfl; have hfz17_0 := blk_frozen BK676.out 0; have hfz17_1 := blk_frozen BK676.out 1; have hfz17_2 := blk_frozen BK676.out 2; have hfz17_3 := blk_frozen BK676.out 3; have hcz18_0 : w15.cell? ⟨gb670, 0, none⟩ = some (.int .i64 0) := (blk_cell BK670.out 0).trans rfl; have hcz18_1 : w15.cell? ⟨gb670, 1, none⟩ = some (.int .i64 0) := (blk_cell BK670.out 1).trans rfl; have hcz18_2 : w15.cell? ⟨gb670, 2, none⟩ = some (.int .i64 0) := (blk_cell BK670.out 2).trans rfl; have hcz18_3 : w15.cell? ⟨gb670, 3, none⟩ = some (.int .i64 0) := (blk_cell BK670.out 3).trans rfl; have hfz18_0 := blk_frozen BK670.out 0; have hfz18_1 := blk_frozen BK670.out 1; have hfz18_2 := blk_frozen BK670.out 2; have hfz18_3 := blk_frozen BK670.out 3))
      refine bodyPost_ret (results_ct rfl _ _ gb670 42 #[.int .i64 0, .int .i64 0, .int .i64 0, .int .i64 0] (0, 0) _ rfl (by (with_reducible repeat (first | refine blk_drewN ?_ _ | refine blk_drew ?_ | refine blk_alloc ?_ _)); refine blk_put (cs := #[.int .i64 0, .int .i64 0, .int .i64 0, .int .i64 0]) ?_ 3 _ rfl; (with_reducible repeat (first | refine blk_drewN ?_ _ | refine blk_drew ?_ | refine blk_alloc ?_ _)); refine blk_put (cs := #[.int .i64 0, .int .i64 0, .int .i64 0, .int .i64 0]) ?_ 2 _ rfl; (with_reducible repeat (first | refine blk_drewN ?_ _ | refine blk_drew ?_ | refine blk_alloc ?_ _)); refine blk_put (cs := #[.int .i64 0, .int .i64 0, .int .i64 0, .int .i64 0]) ?_ 1 _ rfl; (with_reducible repeat (first | refine blk_drewN ?_ _ | refine blk_drew ?_ | refine blk_alloc ?_ _)); refine blk_put (cs := #[.int .i64 0, .int .i64 0, .int .i64 0, .int .i64 0]) ?_ 0 _ rfl; (with_reducible repeat (first | refine blk_drewN ?_ _ | refine blk_drew ?_ | refine blk_alloc ?_ _)); refine blk_far ?_ NB670_676.out _; (with_reducible repeat (first | refine blk_drewN ?_ _ | refine blk_drew ?_ | refine blk_alloc ?_ _)); refine blk_far ?_ NB670_676.out _; (with_reducible repeat (first | refine blk_drewN ?_ _ | refine blk_drew ?_ | refine blk_alloc ?_ _)); refine blk_far ?_ NB670_676.out _; (with_reducible repeat (first | refine blk_drewN ?_ _ | refine blk_drew ?_ | refine blk_alloc ?_ _)); refine blk_far ?_ NB670_676.out _; (with_reducible repeat (first | refine blk_drewN ?_ _ | refine blk_drew ?_ | refine blk_alloc ?_ _)); exact BK670.out) Try.underlying42 rfl (by kernel_rfl)) rfl ?_
      exact ⟨by first | rfl | (simp [errW_none, errW_some] <;> rfl) | (simp [*, errW_none, errW_some] <;> rfl), by repeat (first | (with_reducible first | exact HB.out | apply below_alloc | apply pw_below_drewN | apply below_drew1 | refine below_set ?_ GE670.out | refine below_set ?_ GE676.out) | exact HB.out)⟩
/-! ### laws_FnExactDecodeBlock: function 14 -/
def laws_FnExactDecodeBlock.f (k : Nat) (a0 : ByteArray) : Option (Bool) := if (a0.size : Int) > 1048576 then (some true) else ((spec_DecodeBlock.f k a0).bind fun bt679 => ((impl_DecodeBlock.f k a0).bind fun bt685 => ((laws_eqBlock.f bt685.1 bt685.2.1 bt685.2.2.1 bt685.2.2.2.1 bt679.1 bt679.2.1 bt679.2.2.1 bt679.2.2.2.1).bind fun t691 => (if t691 = true then (if bt685.2.2.2.2 = bt679.2.2.2.2 then (some true) else (some false)) else (some false)))))
theorem laws_FnExactDecodeBlock.mono : ∀ a0 k, LeO (laws_FnExactDecodeBlock.f k a0) (laws_FnExactDecodeBlock.f (k + 1) a0) := by
  intro a0 k
  unfold laws_FnExactDecodeBlock.f
  repeat' first
      | (with_reducible exact impl_DecodeBlock.mono _ _)
      | (with_reducible exact spec_DecodeBlock.mono _ _)
      | (with_reducible exact LeO.refl _)
      | (with_reducible exact LeO.none _)
      | (with_reducible refine LeO.ite ?_ ?_)
      | (with_reducible refine LeO.bind ?_ (fun _ => ?_))
      | exact impl_DecodeBlock.mono _ _
      | exact spec_DecodeBlock.mono _ _
      | exact LeO.none _
      | refine LeO.ite ?_ ?_
      | refine LeO.bind ?_ (fun _ => ?_)
set_option maxHeartbeats 8000000 in
set_option maxRecDepth 100000 in
theorem laws_FnExactDecodeBlock.calls (k : Nat) (a0 : ByteArray) (r : Bool) (w : World) (h : laws_FnExactDecodeBlock.f k a0 = some r) :
    Calls Try.prog 14 #[.string a0] w fun e w' => e = .returned (.bool r) ∧ Below w.heap.size w w' := by
  have hu42 := Try.underlying42
  have HB := Aside0.mk (Below.refl w.heap.size w)
  have H : (if (a0.size : Int) > 1048576 then (some true) else ((spec_DecodeBlock.f k a0).bind fun bt679 => ((impl_DecodeBlock.f k a0).bind fun bt685 => ((laws_eqBlock.f bt685.1 bt685.2.1 bt685.2.2.1 bt685.2.2.2.1 bt679.1 bt679.2.1 bt679.2.2.1 bt679.2.2.2.1).bind fun t691 => (if t691 = true then (if bt685.2.2.2.2 = bt679.2.2.2.2 then (some true) else (some false)) else (some false)))))) = some r := h
  clear h
  by_cases c2 : (a0.size : Int) > 1048576
  · rw [if_pos c2] at H
    have c2b0 : decide (1048576 < (a0.size : Int)) = true := decide_eq_true c2
    have c2b1 : decide (1048576 < a0.size) = true := decide_eq_true (by omega)
    clear c2
    obtain rfl := Option.some.inj H
    go_enter Try.func14, Try.ntmps14
    go_wp2
    go_ret
    exact ⟨by first | rfl | (simp [errW_none, errW_some] <;> rfl) | (simp [*, errW_none, errW_some] <;> rfl), by repeat (first | (with_reducible first | exact HB.out | apply below_alloc | apply pw_below_drewN | apply below_drew1) | exact HB.out)⟩
  · rw [if_neg c2] at H
    have c2b0 : decide (1048576 < (a0.size : Int)) = false := decide_eq_false c2
    have c2b1 : decide (1048576 < a0.size) = false := decide_eq_false (by omega)
    clear c2
    replace H := Option.bind_eq_some_iff.mp H
    obtain ⟨⟨t679, t680, t681, t682, t683⟩, A30, H⟩ := H
    replace H : ((impl_DecodeBlock.f k a0).bind fun bt685 => ((laws_eqBlock.f bt685.1 bt685.2.1 bt685.2.2.1 bt685.2.2.2.1 t679 t680 t681 t682).bind fun t691 => (if t691 = true then (if bt685.2.2.2.2 = t683 then (some true) else (some false)) else (some false)))) = some r := H
    have A3 := Aside0.mk A30
    clear A30
    replace H := Option.bind_eq_some_iff.mp H
    obtain ⟨⟨t685, t686, t687, t688, t689⟩, A40, H⟩ := H
    replace H : ((laws_eqBlock.f t685 t686 t687 t688 t679 t680 t681 t682).bind fun t691 => (if t691 = true then (if t689 = t683 then (some true) else (some false)) else (some false))) = some r := H
    have A4 := Aside0.mk A40
    clear A40
    replace H := Option.bind_eq_some_iff.mp H
    obtain ⟨t691, A50, H⟩ := H
    replace H : (if t691 = true then (if t689 = t683 then (some true) else (some false)) else (some false)) = some r := H
    have A5 := Aside0.mk A50
    clear A50
    by_cases c6 : t691 = true
    · subst c6
      have H1 : (if t689 = t683 then (some true) else (some false)) = some r := by rw [if_pos rfl] at H; exact H
      clear H
      have H := H1
      clear H1
      by_cases c7 : t689 = t683
      · rw [if_pos c7] at H
        have c7b0 : (t689 == t683) = true := beq_iff_eq.mpr c7
        have c7b1 : (t689 != t683) = false := bne_eq_false_iff_eq.mpr c7
        clear c7
        obtain rfl := Option.some.inj H
        go_enter Try.func14, Try.ntmps14
        go_wp2_with (first | ((with_reducible refine gate_callee (f := 55) rfl ?_); refine goesL_ (some 12) rfl rfl Try.func55 (by kernel_rfl) rfl #[.string a0] rfl (by (try simp only [List.map_toArray, List.map_cons, List.map_nil]); first | done | rfl | (simp only [List.length_drop, List.length_take]; rfl)) ?_; (with_reducible refine (spec_DecodeBlock.calls k a0 t679 t680 t681 t682 t683 _ A3.out).mono ?_); rintro e w8 ⟨rfl, hb⟩; refine ⟨_, rfl, ?_⟩; have n0_ := Aside0.mk (below_step (by repeat (first | (with_reducible first | exact HB.out | apply below_alloc | apply pw_below_drewN | apply below_drew1) | exact HB.out)) hb); clear HB; have HB := n0_; clear n0_; (try clear hb); (try clear hb2); (try clear hk); (try clear hi)) | ((with_reducible refine gate_dst (N := 3) rfl ?_); refine box_event ?hg (N := 3) ?hd (cs := #[.int .i64 0, .int .i64 0, .int .i64 0, .int .i64 0]) (t := 42) ?hr ?_; (case hd => rfl); (case hg => rfl); (case hr => first | (go_simp; done) | (go_simp; rfl)); intro gb684 hg w9 hbox hb; have n0_ := Aside0.mk (below_step (by repeat (first | (with_reducible first | exact HB.out | apply below_alloc | apply pw_below_drewN | apply below_drew1) | exact HB.out)) hb); have n1_ := Aside0.mk (hbox); have n2_ := Aside0.mk ((by rw [hg]; exact (below_size (by repeat (first | (with_reducible first | exact HB.out | apply below_alloc | apply pw_below_drewN | apply below_drew1) | exact HB.out))) : w.heap.size ≤ gb684)); have n3_ := Aside0.mk ((by rw [hg]; exact (below_size (by repeat (first | (with_reducible first | exact HB.out | apply below_alloc | apply pw_below_drewN | apply below_drew1) | exact HB.out))) : w.heap.size ≤ gb684)); clear HB; have HB := n0_; have BK684 := n1_; have GW684 := n2_; have GE684 := n3_; clear n0_ n1_ n2_ n3_; clear hb hbox hg; have hcz10_0 : w9.cell? ⟨gb684, 0, none⟩ = some (.int .i64 0) := (blk_cell BK684.out 0).trans rfl; have hcz10_1 : w9.cell? ⟨gb684, 1, none⟩ = some (.int .i64 0) := (blk_cell BK684.out 1).trans rfl; have hcz10_2 : w9.cell? ⟨gb684, 2, none⟩ = some (.int .i64 0) := (blk_cell BK684.out 2).trans rfl; have hcz10_3 : w9.cell? ⟨gb684, 3, none⟩ = some (.int .i64 0) := (blk_cell BK684.out 3).trans rfl; have hfz10_0 := blk_frozen BK684.out 0; have hfz10_1 := blk_frozen BK684.out 1; have hfz10_2 := blk_frozen BK684.out 2; have hfz10_3 := blk_frozen BK684.out 3) | ((with_reducible refine gate_callee (f := 49) rfl ?_); refine goesL_ (some 17) rfl rfl Try.func49 (by kernel_rfl) rfl #[.string a0] rfl (by (try simp only [List.map_toArray, List.map_cons, List.map_nil]); first | done | rfl | (simp only [List.length_drop, List.length_take]; rfl)) ?_; (with_reducible refine (impl_DecodeBlock.calls k a0 t685 t686 t687 t688 t689 _ A4.out).mono ?_); rintro e w11 ⟨rfl, hb⟩; refine ⟨_, rfl, ?_⟩; have n0_ := Aside0.mk (blk_below (g := gb684) (o := .cells #[.int .i64 t679, .int .i64 t680, .int .i64 t681, .int .i64 t682] 42 (0, 0)) (by (with_reducible repeat (first | refine blk_drewN ?_ _ | refine blk_drew ?_ | refine blk_alloc ?_ _)); refine blk_put (cs := #[.int .i64 t679, .int .i64 t680, .int .i64 t681, .int .i64 0]) ?_ 3 _ rfl; (with_reducible repeat (first | refine blk_drewN ?_ _ | refine blk_drew ?_ | refine blk_alloc ?_ _)); refine blk_put (cs := #[.int .i64 t679, .int .i64 t680, .int .i64 0, .int .i64 0]) ?_ 2 _ rfl; (with_reducible repeat (first | refine blk_drewN ?_ _ | refine blk_drew ?_ | refine blk_alloc ?_ _)); refine blk_put (cs := #[.int .i64 t679, .int .i64 0, .int .i64 0, .int .i64 0]) ?_ 1 _ rfl; (with_reducible repeat (first | refine blk_drewN ?_ _ | refine blk_drew ?_ | refine blk_alloc ?_ _)); refine blk_put (cs := #[.int .i64 0, .int .i64 0, .int .i64 0, .int .i64 0]) ?_ 0 _ rfl; (with_reducible repeat (first | refine blk_drewN ?_ _ | refine blk_drew ?_ | refine blk_alloc ?_ _)); exact BK684.out) hb); have n1_ := Aside0.mk (below_step (by repeat (first | (with_reducible first | exact HB.out | apply below_alloc | apply pw_below_drewN | apply below_drew1 | refine below_set ?_ GE684.out) | exact HB.out)) hb); clear BK684; clear HB; have BK684 := n0_; have HB := n1_; clear n0_ n1_; (try clear hb); (try clear hb2); (try clear hk); (try clear hi)) | ((with_reducible refine gate_dst (N := 5) rfl ?_); refine box_event ?hg (N := 5) ?hd (cs := #[.int .i64 0, .int .i64 0, .int .i64 0, .int .i64 0]) (t := 42) ?hr ?_; (case hd => rfl); (case hg => rfl); (case hr => first | (go_simp; done) | (go_simp; rfl)); intro gb690 hg w12 hbox hb; have n0_ := Aside0.mk (blk_below (g := gb684) (o := .cells #[.int .i64 t679, .int .i64 t680, .int .i64 t681, .int .i64 t682] 42 (0, 0)) (by (with_reducible repeat (first | refine blk_drewN ?_ _ | refine blk_drew ?_ | refine blk_alloc ?_ _)); exact BK684.out) hb); have n1_ := Aside0.mk (below_step (by repeat (first | (with_reducible first | exact HB.out | apply below_alloc | apply pw_below_drewN | apply below_drew1 | refine below_set ?_ GE684.out) | exact HB.out)) hb); have n2_ := Aside0.mk (hbox); have n3_ := Aside0.mk ((by rw [hg]; exact (below_size (by repeat (first | (with_reducible first | exact HB.out | apply below_alloc | apply pw_below_drewN | apply below_drew1 | refine below_set ?_ GE684.out) | exact HB.out))) : w.heap.size ≤ gb690)); have n4_ := Aside0.mk ((by rw [hg]; exact (below_size (by repeat (first | (with_reducible first | exact HB.out | apply below_alloc | apply pw_below_drewN | apply below_drew1 | refine below_set ?_ GE684.out) | exact HB.out))) : w.heap.size ≤ gb690)); have n5_ := Aside0.mk ((by rw [hg]; exact Nat.ne_of_lt (blk_lt (g := gb684) (o := .cells #[.int .i64 t679, .int .i64 t680, .int .i64 t681, .int .i64 t682] 42 (0, 0)) (by (with_reducible repeat (first | refine blk_drewN ?_ _ | refine blk_drew ?_ | refine blk_alloc ?_ _)); exact BK684.out)) : gb684 ≠ gb690)); have n6_ := Aside0.mk ((by rw [hg]; exact Nat.ne_of_gt (blk_lt (g := gb684) (o := .cells #[.int .i64 t679, .int .i64 t680, .int .i64 t681, .int .i64 t682] 42 (0, 0)) (by (with_reducible repeat (first | refine blk_drewN ?_ _ | refine blk_drew ?_ | refine blk_alloc ?_ _)); exact BK684.out)) : gb690 ≠ gb684)); clear BK684; clear HB; have BK684 := n0_; have HB := n1_; have BK690 := n2_; have GW690 := n3_; have GE690 := n4_; have NB684_690 := n5_; have NB690_684 := n6_; clear n0_ n1_ n2_ n3_ n4_ n5_ n6_; clear hb hbox hg; have hnb13 := NB690_684.out; have hnc13 := NB684_690.out; have hcz14_0 : w12.cell? ⟨gb690, 0, none⟩ = some (.int .i64 0) := (blk_cell BK690.out 0).trans rfl; have hcz14_1 : w12.cell? ⟨gb690, 1, none⟩ = some (.int .i64 0) := (blk_cell BK690.out 1).trans rfl; have hcz14_2 : w12.cell? ⟨gb690, 2, none⟩ = some (.int .i64 0) := (blk_cell BK690.out 2).trans rfl; have hcz14_3 : w12.cell? ⟨gb690, 3, none⟩ = some (.int .i64 0) := (blk_cell BK690.out 3).trans rfl; have hfz14_0 := blk_frozen BK690.out 0; have hfz14_1 := blk_frozen BK690.out 1; have hfz14_2 := blk_frozen BK690.out 2; have hfz14_3 := blk_frozen BK690.out 3; have hcz15_0 : w12.cell? ⟨gb684, 0, none⟩ = some (.int .i64 t679) := (blk_cell BK684.out 0).trans rfl; have hcz15_1 : w12.cell? ⟨gb684, 1, none⟩ = some (.int .i64 t680) := (blk_cell BK684.out 1).trans rfl; have hcz15_2 : w12.cell? ⟨gb684, 2, none⟩ = some (.int .i64 t681) := (blk_cell BK684.out 2).trans rfl; have hcz15_3 : w12.cell? ⟨gb684, 3, none⟩ = some (.int .i64 t682) := (blk_cell BK684.out 3).trans rfl; have hfz15_0 := blk_frozen BK684.out 0; have hfz15_1 := blk_frozen BK684.out 1; have hfz15_2 := blk_frozen BK684.out 2; have hfz15_3 := blk_frozen BK684.out 3) | ((with_reducible refine gate_callee (f := 56) rfl ?_); refine goesL_ (some 22) rfl rfl Try.func56 (by kernel_rfl) rfl #[.agg #[.int .i64 t685, .int .i64 t686, .int .i64 t687, .int .i64 t688], .agg #[.int .i64 t679, .int .i64 t680, .int .i64 t681, .int .i64 t682]] rfl (by (try simp only [List.map_toArray, List.map_cons, List.map_nil]); first | done | rfl | (simp only [List.length_drop, List.length_take]; rfl)) ?_; (with_reducible refine (laws_eqBlock.calls t685 t686 t687 t688 t679 t680 t681 t682 true _ A5.out).mono ?_); rintro e w16 ⟨rfl, hb⟩; refine ⟨_, rfl, ?_⟩; have n0_ := Aside0.mk (blk_below (g := gb684) (o := .cells #[.int .i64 t679, .int .i64 t680, .int .i64 t681, .int .i64 t682] 42 (0, 0)) (by (with_reducible repeat (first | refine blk_drewN ?_ _ | refine blk_drew ?_ | refine blk_alloc ?_ _)); refine blk_far ?_ NB684_690.out _; (with_reducible repeat (first | refine blk_drewN ?_ _ | refine blk_drew ?_ | refine blk_alloc ?_ _)); refine blk_far ?_ NB684_690.out _; (with_reducible repeat (first | refine blk_drewN ?_ _ | refine blk_drew ?_ | refine blk_alloc ?_ _)); refine blk_far ?_ NB684_690.out _; (with_reducible repeat (first | refine blk_drewN ?_ _ | refine blk_drew ?_ | refine blk_alloc ?_ _)); refine blk_far ?_ NB684_690.out _; (with_reducible repeat (first | refine blk_drewN ?_ _ | refine blk_drew ?_ | refine blk_alloc ?_ _)); exact BK684.out) hb); have n1_ := Aside0.mk (blk_below (g := gb690) (o := .cells #[.int .i64 t685, .int .i64 t686, .int .i64 t687, .int .i64 t688] 42 (0, 0)) (by (with_reducible repeat (first | refine blk_drewN ?_ _ | refine blk_drew ?_ | refine blk_alloc ?_ _)); refine blk_put (cs := #[.int .i64 t685, .int .i64 t686, .int .i64 t687, .int .i64 0]) ?_ 3 _ rfl; (with_reducible repeat (first | refine blk_drewN ?_ _ | refine blk_drew ?_ | refine blk_alloc ?_ _)); refine blk_put (cs := #[.int .i64 t685, .int .i64 t686, .int .i64 0, .int .i64 0]) ?_ 2 _ rfl; (with_reducible repeat (first | refine blk_drewN ?_ _ | refine blk_drew ?_ | refine blk_alloc ?_ _)); refine blk_put (cs := #[.int .i64 t685, .int .i64 0, .int .i64 0, .int .i64 0]) ?_ 1 _ rfl; (with_reducible repeat (first | refine blk_drewN ?_ _ | refine blk_drew ?_ | refine blk_alloc ?_ _)); refine blk_put (cs := #[.int .i64 0, .int .i64 0, .int .i64 0, .int .i64 0]) ?_ 0 _ rfl; (with_reducible repeat (first | refine blk_drewN ?_ _ | refine blk_drew ?_ | refine blk_alloc ?_ _)); exact BK690.out) hb); have n2_ := Aside0.mk (below_step (by repeat (first | (with_reducible first | exact HB.out | apply below_alloc | apply pw_below_drewN | apply below_drew1 | refine below_set ?_ GE684.out | refine below_set ?_ GE690.out) | exact HB.out)) hb); clear BK684; clear BK690; clear HB; have BK684 := n0_; have BK690 := n1_; have HB := n2_; clear n0_ n1_ n2_; (try clear hb); (try clear hb2); (try clear hk); (try clear hi)))
        go_ret
        exact ⟨by first | rfl | (simp [errW_none, errW_some] <;> rfl) | (simp [*, errW_none, errW_some] <;> rfl), by repeat (first | (with_reducible first | exact HB.out | apply below_alloc | apply pw_below_drewN | apply below_drew1 | refine below_set ?_ GE684.out | refine below_set ?_ GE690.out) | exact HB.out)⟩
      · rw [if_neg c7] at H
        have c7b0 : (t689 == t683) = false := beq_eq_false_iff_ne.mpr c7
        have c7b1 : (t689 != t683) = true := bne_iff_ne.mpr c7
        obtain rfl := Option.some.inj H
        go_enter Try.func14, Try.ntmps14
        go_wp2_with (first | ((with_reducible refine gate_callee (f := 55) rfl ?_); refine goesL_ (some 12) rfl rfl Try.func55 (by kernel_rfl) rfl #[.string a0] rfl (by (try simp only [List.map_toArray, List.map_cons, List.map_nil]); first | done | rfl | (simp only [List.length_drop, List.length_take]; rfl)) ?_; (with_reducible refine (spec_DecodeBlock.calls k a0 t679 t680 t681 t682 t683 _ A3.out).mono ?_); rintro e w17 ⟨rfl, hb⟩; refine ⟨_, rfl, ?_⟩; have n0_ := Aside0.mk (below_step (by repeat (first | (with_reducible first | exact HB.out | apply below_alloc | apply pw_below_drewN | apply below_drew1) | exact HB.out)) hb); clear HB; have HB := n0_; clear n0_; (try clear hb); (try clear hb2); (try clear hk); (try clear hi)) | ((with_reducible refine gate_dst (N := 3) rfl ?_); refine box_event ?hg (N := 3) ?hd (cs := #[.int .i64 0, .int .i64 0, .int .i64 0, .int .i64 0]) (t := 42) ?hr ?_; (case hd => rfl); (case hg => rfl); (case hr => first | (go_simp; done) | (go_simp; rfl)); intro gb684 hg w18 hbox hb; have n0_ := Aside0.mk (below_step (by repeat (first | (with_reducible first | exact HB.out | apply below_alloc | apply pw_below_drewN | apply below_drew1) | exact HB.out)) hb); have n1_ := Aside0.mk (hbox); have n2_ := Aside0.mk ((by rw [hg]; exact (below_size (by repeat (first | (with_reducible first | exact HB.out | apply below_alloc | apply pw_below_drewN | apply below_drew1) | exact HB.out))) : w.heap.size ≤ gb684)); have n3_ := Aside0.mk ((by rw [hg]; exact (below_size (by repeat (first | (with_reducible first | exact HB.out | apply below_alloc | apply pw_below_drewN | apply below_drew1) | exact HB.out))) : w.heap.size ≤ gb684)); clear HB; have HB := n0_; have BK684 := n1_; have GW684 := n2_; have GE684 := n3_; clear n0_ n1_ n2_ n3_; clear hb hbox hg; have hcz19_0 : w18.cell? ⟨gb684, 0, none⟩ = some (.int .i64 0) := (blk_cell BK684.out 0).trans rfl; have hcz19_1 : w18.cell? ⟨gb684, 1, none⟩ = some (.int .i64 0) := (blk_cell BK684.out 1).trans rfl; have hcz19_2 : w18.cell? ⟨gb684, 2, none⟩ = some (.int .i64 0) := (blk_cell BK684.out 2).trans rfl; have hcz19_3 : w18.cell? ⟨gb684, 3, none⟩ = some (.int .i64 0) := (blk_cell BK684.out 3).trans rfl; have hfz19_0 := blk_frozen BK684.out 0; have hfz19_1 := blk_frozen BK684.out 1; have hfz19_2 := blk_frozen BK684.out 2; have hfz19_3 := blk_frozen BK684.out 3) | ((with_reducible refine gate_callee (f := 49) rfl ?_); refine goesL_ (some 17) rfl rfl Try.func49 (by kernel_rfl) rfl #[.string a0] rfl (by (try simp only [List.map_toArray, List.map_cons, List.map_nil]); first | done | rfl | (simp only [List.length_drop, List.length_take]; rfl)) ?_; (with_reducible refine (impl_DecodeBlock.calls k a0 t685 t686 t687 t688 t689 _ A4.out).mono ?_); rintro e w20 ⟨rfl, hb⟩; refine ⟨_, rfl, ?_⟩; have n0_ := Aside0.mk (blk_below (g := gb684) (o := .cells #[.int .i64 t679, .int .i64 t680, .int .i64 t681, .int .i64 t682] 42 (0, 0)) (by (with_reducible repeat (first | refine blk_drewN ?_ _ | refine blk_drew ?_ | refine blk_alloc ?_ _)); refine blk_put (cs := #[.int .i64 t679, .int .i64 t680, .int .i64 t681, .int .i64 0]) ?_ 3 _ rfl; (with_reducible repeat (first | refine blk_drewN ?_ _ | refine blk_drew ?_ | refine blk_alloc ?_ _)); refine blk_put (cs := #[.int .i64 t679, .int .i64 t680, .int .i64 0, .int .i64 0]) ?_ 2 _ rfl; (with_reducible repeat (first | refine blk_drewN ?_ _ | refine blk_drew ?_ | refine blk_alloc ?_ _)); refine blk_put (cs := #[.int .i64 t679, .int .i64 0, .int .i64 0, .int .i64 0]) ?_ 1 _ rfl; (with_reducible repeat (first | refine blk_drewN ?_ _ | refine blk_drew ?_ | refine blk_alloc ?_ _)); refine blk_put (cs := #[.int .i64 0, .int .i64 0, .int .i64 0, .int .i64 0]) ?_ 0 _ rfl; (with_reducible repeat (first | refine blk_drewN ?_ _ | refine blk_drew ?_ | refine blk_alloc ?_ _)); exact BK684.out) hb); have n1_ := Aside0.mk (below_step (by repeat (first | (with_reducible first | exact HB.out | apply below_alloc | apply pw_below_drewN | apply below_drew1 | refine below_set ?_ GE684.out) | exact HB.out)) hb); clear BK684; clear HB; have BK684 := n0_; have HB := n1_; clear n0_ n1_; (try clear hb); (try clear hb2); (try clear hk); (try clear hi)) | ((with_reducible refine gate_dst (N := 5) rfl ?_); refine box_event ?hg (N := 5) ?hd (cs := #[.int .i64 0, .int .i64 0, .int .i64 0, .int .i64 0]) (t := 42) ?hr ?_; (case hd => rfl); (case hg => rfl); (case hr => first | (go_simp; done) | (go_simp; rfl)); intro gb690 hg w21 hbox hb; have n0_ := Aside0.mk (blk_below (g := gb684) (o := .cells #[.int .i64 t679, .int .i64 t680, .int .i64 t681, .int .i64 t682] 42 (0, 0)) (by (with_reducible repeat (first | refine blk_drewN ?_ _ | refine blk_drew ?_ | refine blk_alloc ?_ _)); exact BK684.out) hb); have n1_ := Aside0.mk (below_step (by repeat (first | (with_reducible first | exact HB.out | apply below_alloc | apply pw_below_drewN | apply below_drew1 | refine below_set ?_ GE684.out) | exact HB.out)) hb); have n2_ := Aside0.mk (hbox); have n3_ := Aside0.mk ((by rw [hg]; exact (below_size (by repeat (first | (with_reducible first | exact HB.out | apply below_alloc | apply pw_below_drewN | apply below_drew1 | refine below_set ?_ GE684.out) | exact HB.out))) : w.heap.size ≤ gb690)); have n4_ := Aside0.mk ((by rw [hg]; exact (below_size (by repeat (first | (with_reducible first | exact HB.out | apply below_alloc | apply pw_below_drewN | apply below_drew1 | refine below_set ?_ GE684.out) | exact HB.out))) : w.heap.size ≤ gb690)); have n5_ := Aside0.mk ((by rw [hg]; exact Nat.ne_of_lt (blk_lt (g := gb684) (o := .cells #[.int .i64 t679, .int .i64 t680, .int .i64 t681, .int .i64 t682] 42 (0, 0)) (by (with_reducible repeat (first | refine blk_drewN ?_ _ | refine blk_drew ?_ | refine blk_alloc ?_ _)); exact BK684.out)) : gb684 ≠ gb690)); have n6_ := Aside0.mk ((by rw [hg]; exact Nat.ne_of_gt (blk_lt (g := gb684) (o := .cells #[.int .i64 t679, .int .i64 t680, .int .i64 t681, .int .i64 t682] 42 (0, 0)) (by (with_reducible repeat (first | refine blk_drewN ?_ _ | refine blk_drew ?_ | refine blk_alloc ?_ _)); exact BK684.out)) : gb690 ≠ gb684)); clear BK684; clear HB; have BK684 := n0_; have HB := n1_; have BK690 := n2_; have GW690 := n3_; have GE690 := n4_; have NB684_690 := n5_; have NB690_684 := n6_; clear n0_ n1_ n2_ n3_ n4_ n5_ n6_; clear hb hbox hg; have hnb22 := NB690_684.out; have hnc22 := NB684_690.out; have hcz23_0 : w21.cell? ⟨gb690, 0, none⟩ = some (.int .i64 0) := (blk_cell BK690.out 0).trans rfl; have hcz23_1 : w21.cell? ⟨gb690, 1, none⟩ = some (.int .i64 0) := (blk_cell BK690.out 1).trans rfl; have hcz23_2 : w21.cell? ⟨gb690, 2, none⟩ = some (.int .i64 0) := (blk_cell BK690.out 2).trans rfl; have hcz23_3 : w21.cell? ⟨gb690, 3, none⟩ = some (.int .i64 0) := (blk_cell BK690.out 3).trans rfl; have hfz23_0 := blk_frozen BK690.out 0; have hfz23_1 := blk_frozen BK690.out 1; have hfz23_2 := blk_frozen BK690.out 2; have hfz23_3 := blk_frozen BK690.out 3; have hcz24_0 : w21.cell? ⟨gb684, 0, none⟩ = some (.int .i64 t679) := (blk_cell BK684.out 0).trans rfl; have hcz24_1 : w21.cell? ⟨gb684, 1, none⟩ = some (.int .i64 t680) := (blk_cell BK684.out 1).trans rfl; have hcz24_2 : w21.cell? ⟨gb684, 2, none⟩ = some (.int .i64 t681) := (blk_cell BK684.out 2).trans rfl; have hcz24_3 : w21.cell? ⟨gb684, 3, none⟩ = some (.int .i64 t682) := (blk_cell BK684.out 3).trans rfl; have hfz24_0 := blk_frozen BK684.out 0; have hfz24_1 := blk_frozen BK684.out 1; have hfz24_2 := blk_frozen BK684.out 2; have hfz24_3 := blk_frozen BK684.out 3) | ((with_reducible refine gate_callee (f := 56) rfl ?_); refine goesL_ (some 22) rfl rfl Try.func56 (by kernel_rfl) rfl #[.agg #[.int .i64 t685, .int .i64 t686, .int .i64 t687, .int .i64 t688], .agg #[.int .i64 t679, .int .i64 t680, .int .i64 t681, .int .i64 t682]] rfl (by (try simp only [List.map_toArray, List.map_cons, List.map_nil]); first | done | rfl | (simp only [List.length_drop, List.length_take]; rfl)) ?_; (with_reducible refine (laws_eqBlock.calls t685 t686 t687 t688 t679 t680 t681 t682 true _ A5.out).mono ?_); rintro e w25 ⟨rfl, hb⟩; refine ⟨_, rfl, ?_⟩; have n0_ := Aside0.mk (blk_below (g := gb684) (o := .cells #[.int .i64 t679, .int .i64 t680, .int .i64 t681, .int .i64 t682] 42 (0, 0)) (by (with_reducible repeat (first | refine blk_drewN ?_ _ | refine blk_drew ?_ | refine blk_alloc ?_ _)); refine blk_far ?_ NB684_690.out _; (with_reducible repeat (first | refine blk_drewN ?_ _ | refine blk_drew ?_ | refine blk_alloc ?_ _)); refine blk_far ?_ NB684_690.out _; (with_reducible repeat (first | refine blk_drewN ?_ _ | refine blk_drew ?_ | refine blk_alloc ?_ _)); refine blk_far ?_ NB684_690.out _; (with_reducible repeat (first | refine blk_drewN ?_ _ | refine blk_drew ?_ | refine blk_alloc ?_ _)); refine blk_far ?_ NB684_690.out _; (with_reducible repeat (first | refine blk_drewN ?_ _ | refine blk_drew ?_ | refine blk_alloc ?_ _)); exact BK684.out) hb); have n1_ := Aside0.mk (blk_below (g := gb690) (o := .cells #[.int .i64 t685, .int .i64 t686, .int .i64 t687, .int .i64 t688] 42 (0, 0)) (by (with_reducible repeat (first | refine blk_drewN ?_ _ | refine blk_drew ?_ | refine blk_alloc ?_ _)); refine blk_put (cs := #[.int .i64 t685, .int .i64 t686, .int .i64 t687, .int .i64 0]) ?_ 3 _ rfl; (with_reducible repeat (first | refine blk_drewN ?_ _ | refine blk_drew ?_ | refine blk_alloc ?_ _)); refine blk_put (cs := #[.int .i64 t685, .int .i64 t686, .int .i64 0, .int .i64 0]) ?_ 2 _ rfl; (with_reducible repeat (first | refine blk_drewN ?_ _ | refine blk_drew ?_ | refine blk_alloc ?_ _)); refine blk_put (cs := #[.int .i64 t685, .int .i64 0, .int .i64 0, .int .i64 0]) ?_ 1 _ rfl; (with_reducible repeat (first | refine blk_drewN ?_ _ | refine blk_drew ?_ | refine blk_alloc ?_ _)); refine blk_put (cs := #[.int .i64 0, .int .i64 0, .int .i64 0, .int .i64 0]) ?_ 0 _ rfl; (with_reducible repeat (first | refine blk_drewN ?_ _ | refine blk_drew ?_ | refine blk_alloc ?_ _)); exact BK690.out) hb); have n2_ := Aside0.mk (below_step (by repeat (first | (with_reducible first | exact HB.out | apply below_alloc | apply pw_below_drewN | apply below_drew1 | refine below_set ?_ GE684.out | refine below_set ?_ GE690.out) | exact HB.out)) hb); clear BK684; clear BK690; clear HB; have BK684 := n0_; have BK690 := n1_; have HB := n2_; clear n0_ n1_ n2_; (try clear hb); (try clear hb2); (try clear hk); (try clear hi)))
        go_ret
        exact ⟨by first | rfl | (simp [errW_none, errW_some] <;> rfl) | (simp [*, errW_none, errW_some] <;> rfl), by repeat (first | (with_reducible first | exact HB.out | apply below_alloc | apply pw_below_drewN | apply below_drew1 | refine below_set ?_ GE684.out | refine below_set ?_ GE690.out) | exact HB.out)⟩
    · replace c6 := Bool.eq_false_iff.mpr c6
      subst c6
      have H1 : (some false) = some r := by rw [if_neg (show ¬ (false = true) by decide)] at H; exact H
      clear H
      have H := H1
      clear H1
      obtain rfl := Option.some.inj H
      go_enter Try.func14, Try.ntmps14
      go_wp2_with (first | ((with_reducible refine gate_callee (f := 55) rfl ?_); refine goesL_ (some 12) rfl rfl Try.func55 (by kernel_rfl) rfl #[.string a0] rfl (by (try simp only [List.map_toArray, List.map_cons, List.map_nil]); first | done | rfl | (simp only [List.length_drop, List.length_take]; rfl)) ?_; (with_reducible refine (spec_DecodeBlock.calls k a0 t679 t680 t681 t682 t683 _ A3.out).mono ?_); rintro e w26 ⟨rfl, hb⟩; refine ⟨_, rfl, ?_⟩; have n0_ := Aside0.mk (below_step (by repeat (first | (with_reducible first | exact HB.out | apply below_alloc | apply pw_below_drewN | apply below_drew1) | exact HB.out)) hb); clear HB; have HB := n0_; clear n0_; (try clear hb); (try clear hb2); (try clear hk); (try clear hi)) | ((with_reducible refine gate_dst (N := 3) rfl ?_); refine box_event ?hg (N := 3) ?hd (cs := #[.int .i64 0, .int .i64 0, .int .i64 0, .int .i64 0]) (t := 42) ?hr ?_; (case hd => rfl); (case hg => rfl); (case hr => first | (go_simp; done) | (go_simp; rfl)); intro gb684 hg w27 hbox hb; have n0_ := Aside0.mk (below_step (by repeat (first | (with_reducible first | exact HB.out | apply below_alloc | apply pw_below_drewN | apply below_drew1) | exact HB.out)) hb); have n1_ := Aside0.mk (hbox); have n2_ := Aside0.mk ((by rw [hg]; exact (below_size (by repeat (first | (with_reducible first | exact HB.out | apply below_alloc | apply pw_below_drewN | apply below_drew1) | exact HB.out))) : w.heap.size ≤ gb684)); have n3_ := Aside0.mk ((by rw [hg]; exact (below_size (by repeat (first | (with_reducible first | exact HB.out | apply below_alloc | apply pw_below_drewN | apply below_drew1) | exact HB.out))) : w.heap.size ≤ gb684)); clear HB; have HB := n0_; have BK684 := n1_; have GW684 := n2_; have GE684 := n3_; clear n0_ n1_ n2_ n3_; clear hb hbox hg; have hcz28_0 : w27.cell? ⟨gb684, 0, none⟩ = some (.int .i64 0) := (blk_cell BK684.out 0).trans rfl; have hcz28_1 : w27.cell? ⟨gb684, 1, none⟩ = some (.int .i64 0) := (blk_cell BK684.out 1).trans rfl; have hcz28_2 : w27.cell? ⟨gb684, 2, none⟩ = some (.int .i64 0) := (blk_cell BK684.out 2).trans rfl; have hcz28_3 : w27.cell? ⟨gb684, 3, none⟩ = some (.int .i64 0) := (blk_cell BK684.out 3).trans rfl; have hfz28_0 := blk_frozen BK684.out 0; have hfz28_1 := blk_frozen BK684.out 1; have hfz28_2 := blk_frozen BK684.out 2; have hfz28_3 := blk_frozen BK684.out 3) | ((with_reducible refine gate_callee (f := 49) rfl ?_); refine goesL_ (some 17) rfl rfl Try.func49 (by kernel_rfl) rfl #[.string a0] rfl (by (try simp only [List.map_toArray, List.map_cons, List.map_nil]); first | done | rfl | (simp only [List.length_drop, List.length_take]; rfl)) ?_; (with_reducible refine (impl_DecodeBlock.calls k a0 t685 t686 t687 t688 t689 _ A4.out).mono ?_); rintro e w29 ⟨rfl, hb⟩; refine ⟨_, rfl, ?_⟩; have n0_ := Aside0.mk (blk_below (g := gb684) (o := .cells #[.int .i64 t679, .int .i64 t680, .int .i64 t681, .int .i64 t682] 42 (0, 0)) (by (with_reducible repeat (first | refine blk_drewN ?_ _ | refine blk_drew ?_ | refine blk_alloc ?_ _)); refine blk_put (cs := #[.int .i64 t679, .int .i64 t680, .int .i64 t681, .int .i64 0]) ?_ 3 _ rfl; (with_reducible repeat (first | refine blk_drewN ?_ _ | refine blk_drew ?_ | refine blk_alloc ?_ _)); refine blk_put (cs := #[.int .i64 t679, .int .i64 t680, .int .i64 0, .int .i64 0]) ?_ 2 _ rfl; (with_reducible repeat (first | refine blk_drewN ?_ _ | refine blk_drew ?_ | refine blk_alloc ?_ _)); refine blk_put (cs := #[.int .i64 t679, .int .i64 0, .int .i64 0, .int .i64 0]) ?_ 1 _ rfl; (with_reducible repeat (first | refine blk_drewN ?_ _ | refine blk_drew ?_ | refine blk_alloc ?_ _)); refine blk_put (cs := #[.int .i64 0, .int .i64 0, .int .i64 0, .int .i64 0]) ?_ 0 _ rfl; (with_reducible repeat (first | refine blk_drewN ?_ _ | refine blk_drew ?_ | refine blk_alloc ?_ _)); exact BK684.out) hb); have n1_ := Aside0.mk (below_step (by repeat (first | (with_reducible first | exact HB.out | apply below_alloc | apply pw_below_drewN | apply below_drew1 | refine below_set ?_ GE684.out) | exact HB.out)) hb); clear BK684; clear HB; have BK684 := n0_; have HB := n1_; clear n0_ n1_; (try clear hb); (try clear hb2); (try clear hk); (try clear hi)) | ((with_reducible refine gate_dst (N := 5) rfl ?_); refine box_event ?hg (N := 5) ?hd (cs := #[.int .i64 0, .int .i64 0, .int .i64 0, .int .i64 0]) (t := 42) ?hr ?_; (case hd => rfl); (case hg => rfl); (case hr => first | (go_simp; done) | (go_simp; rfl)); intro gb690 hg w30 hbox hb; have n0_ := Aside0.mk (blk_below (g := gb684) (o := .cells #[.int .i64 t679, .int .i64 t680, .int .i64 t681, .int .i64 t682] 42 (0, 0)) (by (with_reducible repeat (first | refine blk_drewN ?_ _ | refine blk_drew ?_ | refine blk_alloc ?_ _)); exact BK684.out) hb); have n1_ := Aside0.mk (below_step (by repeat (first | (with_reducible first | exact HB.out | apply below_alloc | apply pw_below_drewN | apply below_drew1 | refine below_set ?_ GE684.out) | exact HB.out)) hb); have n2_ := Aside0.mk (hbox); have n3_ := Aside0.mk ((by rw [hg]; exact (below_size (by repeat (first | (with_reducible first | exact HB.out | apply below_alloc | apply pw_below_drewN | apply below_drew1 | refine below_set ?_ GE684.out) | exact HB.out))) : w.heap.size ≤ gb690)); have n4_ := Aside0.mk ((by rw [hg]; exact (below_size (by repeat (first | (with_reducible first | exact HB.out | apply below_alloc | apply pw_below_drewN | apply below_drew1 | refine below_set ?_ GE684.out) | exact HB.out))) : w.heap.size ≤ gb690)); have n5_ := Aside0.mk ((by rw [hg]; exact Nat.ne_of_lt (blk_lt (g := gb684) (o := .cells #[.int .i64 t679, .int .i64 t680, .int .i64 t681, .int .i64 t682] 42 (0, 0)) (by (with_reducible repeat (first | refine blk_drewN ?_ _ | refine blk_drew ?_ | refine blk_alloc ?_ _)); exact BK684.out)) : gb684 ≠ gb690)); have n6_ := Aside0.mk ((by rw [hg]; exact Nat.ne_of_gt (blk_lt (g := gb684) (o := .cells #[.int .i64 t679, .int .i64 t680, .int .i64 t681, .int .i64 t682] 42 (0, 0)) (by (with_reducible repeat (first | refine blk_drewN ?_ _ | refine blk_drew ?_ | refine blk_alloc ?_ _)); exact BK684.out)) : gb690 ≠ gb684)); clear BK684; clear HB; have BK684 := n0_; have HB := n1_; have BK690 := n2_; have GW690 := n3_; have GE690 := n4_; have NB684_690 := n5_; have NB690_684 := n6_; clear n0_ n1_ n2_ n3_ n4_ n5_ n6_; clear hb hbox hg; have hnb31 := NB690_684.out; have hnc31 := NB684_690.out; have hcz32_0 : w30.cell? ⟨gb690, 0, none⟩ = some (.int .i64 0) := (blk_cell BK690.out 0).trans rfl; have hcz32_1 : w30.cell? ⟨gb690, 1, none⟩ = some (.int .i64 0) := (blk_cell BK690.out 1).trans rfl; have hcz32_2 : w30.cell? ⟨gb690, 2, none⟩ = some (.int .i64 0) := (blk_cell BK690.out 2).trans rfl; have hcz32_3 : w30.cell? ⟨gb690, 3, none⟩ = some (.int .i64 0) := (blk_cell BK690.out 3).trans rfl; have hfz32_0 := blk_frozen BK690.out 0; have hfz32_1 := blk_frozen BK690.out 1; have hfz32_2 := blk_frozen BK690.out 2; have hfz32_3 := blk_frozen BK690.out 3; have hcz33_0 : w30.cell? ⟨gb684, 0, none⟩ = some (.int .i64 t679) := (blk_cell BK684.out 0).trans rfl; have hcz33_1 : w30.cell? ⟨gb684, 1, none⟩ = some (.int .i64 t680) := (blk_cell BK684.out 1).trans rfl; have hcz33_2 : w30.cell? ⟨gb684, 2, none⟩ = some (.int .i64 t681) := (blk_cell BK684.out 2).trans rfl; have hcz33_3 : w30.cell? ⟨gb684, 3, none⟩ = some (.int .i64 t682) := (blk_cell BK684.out 3).trans rfl; have hfz33_0 := blk_frozen BK684.out 0; have hfz33_1 := blk_frozen BK684.out 1; have hfz33_2 := blk_frozen BK684.out 2; have hfz33_3 := blk_frozen BK684.out 3) | ((with_reducible refine gate_callee (f := 56) rfl ?_); refine goesL_ (some 22) rfl rfl Try.func56 (by kernel_rfl) rfl #[.agg #[.int .i64 t685, .int .i64 t686, .int .i64 t687, .int .i64 t688], .agg #[.int .i64 t679, .int .i64 t680, .int .i64 t681, .int .i64 t682]] rfl (by (try simp only [List.map_toArray, List.map_cons, List.map_nil]); first | done | rfl | (simp only [List.length_drop, List.length_take]; rfl)) ?_; (with_reducible refine (laws_eqBlock.calls t685 t686 t687 t688 t679 t680 t681 t682 false _ A5.out).mono ?_); rintro e w34 ⟨rfl, hb⟩; refine ⟨_, rfl, ?_⟩; have n0_ := Aside0.mk (blk_below (g := gb684) (o := .cells #[.int .i64 t679, .int .i64 t680, .int .i64 t681, .int .i64 t682] 42 (0, 0)) (by (with_reducible repeat (first | refine blk_drewN ?_ _ | refine blk_drew ?_ | refine blk_alloc ?_ _)); refine blk_far ?_ NB684_690.out _; (with_reducible repeat (first | refine blk_drewN ?_ _ | refine blk_drew ?_ | refine blk_alloc ?_ _)); refine blk_far ?_ NB684_690.out _; (with_reducible repeat (first | refine blk_drewN ?_ _ | refine blk_drew ?_ | refine blk_alloc ?_ _)); refine blk_far ?_ NB684_690.out _; (with_reducible repeat (first | refine blk_drewN ?_ _ | refine blk_drew ?_ | refine blk_alloc ?_ _)); refine blk_far ?_ NB684_690.out _; (with_reducible repeat (first | refine blk_drewN ?_ _ | refine blk_drew ?_ | refine blk_alloc ?_ _)); exact BK684.out) hb); have n1_ := Aside0.mk (blk_below (g := gb690) (o := .cells #[.int .i64 t685, .int .i64 t686, .int .i64 t687, .int .i64 t688] 42 (0, 0)) (by (with_reducible repeat (first | refine blk_drewN ?_ _ | refine blk_drew ?_ | refine blk_alloc ?_ _)); refine blk_put (cs := #[.int .i64 t685, .int .i64 t686, .int .i64 t687, .int .i64 0]) ?_ 3 _ rfl; (with_reducible repeat (first | refine blk_drewN ?_ _ | refine blk_drew ?_ | refine blk_alloc ?_ _)); refine blk_put (cs := #[.int .i64 t685, .int .i64 t686, .int .i64 0, .int .i64 0]) ?_ 2 _ rfl; (with_reducible repeat (first | refine blk_drewN ?_ _ | refine blk_drew ?_ | refine blk_alloc ?_ _)); refine blk_put (cs := #[.int .i64 t685, .int .i64 0, .int .i64 0, .int .i64 0]) ?_ 1 _ rfl; (with_reducible repeat (first | refine blk_drewN ?_ _ | refine blk_drew ?_ | refine blk_alloc ?_ _)); refine blk_put (cs := #[.int .i64 0, .int .i64 0, .int .i64 0, .int .i64 0]) ?_ 0 _ rfl; (with_reducible repeat (first | refine blk_drewN ?_ _ | refine blk_drew ?_ | refine blk_alloc ?_ _)); exact BK690.out) hb); have n2_ := Aside0.mk (below_step (by repeat (first | (with_reducible first | exact HB.out | apply below_alloc | apply pw_below_drewN | apply below_drew1 | refine below_set ?_ GE684.out | refine below_set ?_ GE690.out) | exact HB.out)) hb); clear BK684; clear BK690; clear HB; have BK684 := n0_; have BK690 := n1_; have HB := n2_; clear n0_ n1_ n2_; (try clear hb); (try clear hb2); (try clear hk); (try clear hi)))
      go_ret
      exact ⟨by first | rfl | (simp [errW_none, errW_some] <;> rfl) | (simp [*, errW_none, errW_some] <;> rfl), by repeat (first | (with_reducible first | exact HB.out | apply below_alloc | apply pw_below_drewN | apply below_drew1 | refine below_set ?_ GE684.out | refine below_set ?_ GE690.out) | exact HB.out)⟩

/-- THE ONE PURE STATEMENT of laws_FnExactDecodeBlock: yours. -/
def laws_FnExactDecodeBlock.Pure : Prop := ∀ (a0 : ByteArray), a0.size ≤ 140737488351232 → ∃ k, laws_FnExactDecodeBlock.f k a0 = some true
theorem laws_FnExactDecodeBlock.walk (P : laws_FnExactDecodeBlock.Pure) (a0 : ByteArray) (w : World) (w0 : a0.size ≤ 140737488351232) :
    Calls Try.prog 14 #[.string a0] w fun e w' => e = .returned (.bool true) ∧ Below w.heap.size w w' := by
  obtain ⟨k, h⟩ := P a0 w0
  refine (laws_FnExactDecodeBlock.calls k a0 true w h).mono ?_
  rintro e w' ⟨rfl, hd⟩
  exact ⟨rfl, hd⟩
/-! ### Base -/
def okI (x : Int) : Prop := (Lit.int .i64 x).wf = true
def okB (_ : Bool) : Prop := True
def okS (x : ByteArray) : Prop := x.size ≤ maxLen
theorem w64 {n : Int} (h0 : -9223372036854775808 ≤ n) (h1 : n ≤ 9223372036854775807) : wrap64 n = n := by unfold wrap64; omega
theorem okI_iff {n : Int} (h : (Lit.int .i64 n).wf = true) : -9223372036854775808 ≤ n ∧ n ≤ 9223372036854775807 := by
  simp [Lit.wf, IntKind.min, IntKind.max, IntKind.signed, IntKind.bits] at h
  omega
theorem Ev.k {α : Type} {g : Nat → Option α} {r : α} (K : Nat) (h : ∀ k, K ≤ k → g k = some r) : Ev g r := ⟨K, h⟩
theorem ev_some {α : Type} (r : α) : Ev (fun _ => some r) r := ⟨0, fun _ _ => rfl⟩
theorem ev_of_eq {α : Type} {g : Nat → Option α} {r : α} (h : ∀ k, g k = some r) : Ev g r := ⟨0, fun k _ => h k⟩
theorem ev_bind {α β : Type} {g : Nat → Option α} {f : Nat → α → Option β} {a : α} {r : β} (h : Ev g a) (k : Ev (fun n => f n a) r) : Ev (fun n => (g n).bind (f n)) r := Ev.bind h k
theorem ev_if {α : Type} {c : Prop} [Decidable c] {g f : Nat → Option α} {r : α} (h : c → Ev g r) (h' : ¬ c → Ev f r) : Ev (fun n => if c then g n else f n) r := by
  by_cases hc : c
  · simp only [if_pos hc]; exact h hc
  · simp only [if_neg hc]; exact h' hc
theorem ev_pos {α : Type} {c : Prop} [Decidable c] {g f : Nat → Option α} {r : α} (hc : c) (h : Ev g r) : Ev (fun n => if c then g n else f n) r := by
  simp only [if_pos hc]; exact h
theorem ev_neg {α : Type} {c : Prop} [Decidable c] {g f : Nat → Option α} {r : α} (hc : ¬ c) (h : Ev f r) : Ev (fun n => if c then g n else f n) r := by
  simp only [if_neg hc]; exact h
theorem strOfNums_size (l : List Int) : (strOfNums l).size = l.length := by show (List.map _ l).toArray.size = _; simp
theorem ba_size_append (a b : ByteArray) : (a ++ b).size = a.size + b.size := by simp
theorem toList_inj {a b : ByteArray} : a.toList = b.toList ↔ a = b := by
  constructor
  · intro h
    have h1 : a.data.toList = b.data.toList := by simpa [ByteArray.toList_eq] using h
    have : a.data = b.data := Array.toList_inj.1 h1
    cases a; cases b; simp_all
  · rintro rfl; rfl
/-! ### In -/
def inB (n a b : Int) : Bool := decide (a ≤ n) && decide (n ≤ b)
theorem inB_iff {n a b : Int} : inB n a b = true ↔ a ≤ n ∧ n ≤ b := by simp [inB]
theorem inB_no {n a b : Int} : inB n a b = false ↔ ¬ (a ≤ n ∧ n ≤ b) := by rw [← inB_iff]; simp
theorem l01In_eq (n a b : Int) : spec_l01In.f n a b = some (inB n a b) := by
  unfold spec_l01In.f inB; by_cases h : a ≤ n <;> simp [h]
theorem within_eq (n a b : Int) : impl_within.f n a b = some (inB n a b) := by
  unfold impl_within.f inB; by_cases h : a ≤ n <;> simp [h]
theorem and_opt {b : Bool} {c : Option Bool} {c' : Bool} (h : c = some c') : (if b = true then c else some false) = some (b && c') := by
  cases b <;> simp [h]
/-! ### First -/
theorem first1 (b : Bool) (c : Int) : impl_first.f [Any.b b, Any.n c] = some (if b = true then c else 0) := by
  unfold impl_first.f; cases b <;> simp [firstO]
theorem first2 (b b' : Bool) (c c' : Int) : impl_first.f [Any.b b, Any.n c, Any.b b', Any.n c'] = some (if b = true then c else if b' = true then c' else 0) := by
  unfold impl_first.f; cases b <;> cases b' <;> simp [firstO]
theorem first3 (b b' b'' : Bool) (c c' c'' : Int) : impl_first.f [Any.b b, Any.n c, Any.b b', Any.n c', Any.b b'', Any.n c''] = some (if b = true then c else if b' = true then c' else if b'' = true then c'' else 0) := by
  unfold impl_first.f; cases b <;> cases b' <;> cases b'' <;> simp [firstO]
theorem first4 (b b' b'' b3 : Bool) (c c' c'' c3 : Int) : impl_first.f [Any.b b, Any.n c, Any.b b', Any.n c', Any.b b'', Any.n c'', Any.b b3, Any.n c3] = some (if b = true then c else if b' = true then c' else if b'' = true then c'' else if b3 = true then c3 else 0) := by
  unfold impl_first.f; cases b <;> cases b' <;> cases b'' <;> cases b3 <;> simp [firstO]
theorem isLongText_eq (t : ByteArray) : impl_isLongText.f t = some (decide ((t.size : Int) > 65536)) := by unfold impl_isLongText.f; rfl
/-! ### Codec -/
/-- The bytes of a number. -/
def quad (n : Int) : List Int := [n % 256, n / 256 % 256, n / 65536 % 256, n / 16777216 % 256]
def packP (l : List Int) : List Int := l.flatMap quad
theorem packP_length (l : List Int) : (packP l).length = 4 * l.length := by
  induction l with
  | nil => rfl
  | cons x xs ih => simp only [packP, List.flatMap_cons, List.length_append] at ih ⊢; rw [ih]; simp [quad]; omega
theorem packP_snoc (l : List Int) (x : Int) : packP (l ++ [x]) = packP l ++ quad x := by simp [packP]
theorem rd_eq (l : List Int) (i : Nat) (h : i < l.length) : rd l (i : Int) = l[i] := by simp [rd, h]
theorem take_next {α : Type} (l : List α) (i : Nat) (h : i < l.length) : l.take (i + 1) = l.take i ++ [l[i]] := by
  rw [List.take_succ_eq_append_getElem h]
theorem spec_pack_in (l out : List Int) (i : Nat) (n : Int) (h : out.length + 4 < 140737488355328) (k : Nat) (hk : 5 ≤ k) :
    spec_l02Pack.l1 k l out i n 0 = spec_l02Pack.l0 (k - 5) l (out ++ quad n) (wrap64 ((i : Int) + 1)) := by
  obtain ⟨k, rfl⟩ : ∃ m, k = m + 5 := ⟨k - 5, by omega⟩
  have e1 : wrap64 (0 + 1) = 1 := by rw [w64 (by omega) (by omega)]; omega
  have e2 : wrap64 (1 + 1) = 2 := by rw [w64 (by omega) (by omega)]; omega
  have e3 : wrap64 (2 + 1) = 3 := by rw [w64 (by omega) (by omega)]; omega
  have e4 : wrap64 (3 + 1) = 4 := by rw [w64 (by omega) (by omega)]; omega
  simp only [spec_l02Pack.l1, e1, e2, e3, e4, List.length_append, List.length_cons, List.length_nil]
  rw [if_pos (by omega), if_pos (by omega), if_pos (by omega), if_pos (by omega), if_pos (by omega), if_pos (by omega), if_pos (by omega), if_pos (by omega), if_neg (by omega)]
  simp only [quad, Nat.add_sub_cancel, List.append_assoc, List.cons_append, List.nil_append]
  rw [Int.ediv_ediv_of_nonneg (by omega), Int.ediv_ediv_of_nonneg (by omega)]
  rfl
theorem spec_pack_from (l : List Int) (hl : l.length ≤ 1000000000) (d : Nat) : ∀ (k i : Nat), i ≤ l.length → l.length - i = d → 6 * d < k →
    spec_l02Pack.l0 k l (packP (l.take i)) i = some (strOfNums (packP l)) := by
  induction d with
  | zero =>
    intro k i hi hd hk
    obtain ⟨k, rfl⟩ : ∃ m, k = m + 1 := ⟨k - 1, by omega⟩
    simp only [spec_l02Pack.l0]
    rw [if_neg (by omega), List.take_of_length_le (by omega)]
  | succ d ih =>
    intro k i hi hd hk
    obtain ⟨k, rfl⟩ : ∃ m, k = m + 1 := ⟨k - 1, by omega⟩
    have hlt : i < l.length := by omega
    have hp := packP_length (l.take i)
    have hl2 : (l.take i).length ≤ i := List.length_take_le _ _
    simp only [spec_l02Pack.l0]
    rw [if_pos (by omega), if_pos (by omega), spec_pack_in _ _ _ _ (by omega) _ (by omega), rd_eq l i hlt, ← packP_snoc, ← take_next l i hlt, w64 (by omega) (by omega)]
    exact ih (k - 5) (i + 1) (by omega) (by omega) (by omega)
theorem spec_pack_ev (l : List Int) (hl : l.length ≤ 1000000000) : Ev (fun k => spec_l02Pack.f k l) (strOfNums (packP l)) :=
  ⟨6 * l.length + 1, fun k hk => by have := spec_pack_from l hl l.length k 0 (by omega) (by omega) (by omega); simpa [spec_l02Pack.f, packP] using this⟩
theorem impl_pack_from (l : List Int) (hl : l.length ≤ 1000000000) (d : Nat) : ∀ (k i : Nat), i ≤ l.length → l.length - i = d → d < k →
    impl_pack.l0 k (packP (l.take i)) l (l.length : Int) i = some (strOfNums (packP l)) := by
  induction d with
  | zero =>
    intro k i hi hd hk
    obtain ⟨k, rfl⟩ : ∃ m, k = m + 1 := ⟨k - 1, by omega⟩
    simp only [impl_pack.l0]
    rw [if_neg (by omega), List.take_of_length_le (by omega)]
  | succ d ih =>
    intro k i hi hd hk
    obtain ⟨k, rfl⟩ : ∃ m, k = m + 1 := ⟨k - 1, by omega⟩
    have hlt : i < l.length := by omega
    have hp := packP_length (l.take i)
    have hl2 : (l.take i).length ≤ i := List.length_take_le _ _
    simp only [impl_pack.l0]
    rw [if_pos (by omega), if_pos (by omega), if_pos (by omega)]
    simp only [Option.bind_some, List.length_cons, List.length_nil]
    rw [if_pos (by omega), rd_eq l i hlt]
    have : packP (l.take i) ++ [l[i] % 256, l[i] / 256 % 256, l[i] / 65536 % 256, l[i] / 16777216 % 256] = packP (l.take (i + 1)) := by
      rw [take_next l i hlt, packP_snoc]; rfl
    rw [this, w64 (by omega) (by omega)]
    exact ih k (i + 1) (by omega) (by omega) (by omega)
theorem impl_pack_ev (l : List Int) (hl : l.length ≤ 1000000000) : Ev (fun k => impl_pack.f k l) (strOfNums (packP l)) :=
  ⟨l.length + 1, fun k hk => by have := impl_pack_from l hl l.length k 0 (by omega) (by omega) (by omega); simpa [impl_pack.f, packP] using this⟩
/-- One step of the sum. -/
def sumStep (t : ByteArray) (n : Int) (i : Nat) : Int := Int.tmod (wrap64 (n + (wrap64 ((wrap64 ((i : Int) + 1)) * (wrap64 ((wrap64 (bt t i)) + 1)))))) 251
def sumP (t : ByteArray) : Int := (List.range t.size).foldl (sumStep t) 0
theorem range_split (i n : Nat) (h : i < n) : List.range' i (n - i) = i :: List.range' (i + 1) (n - (i + 1)) := by
  obtain ⟨d, rfl⟩ : ∃ d, n = i + 1 + d := ⟨n - (i + 1), by omega⟩
  rw [show i + 1 + d - i = d + 1 by omega, show i + 1 + d - (i + 1) = d by omega, List.range'_succ]
theorem spec_sum_from (t : ByteArray) (ht : t.size ≤ 1000000000000) (d : Nat) : ∀ (k i : Nat) (n : Int), i ≤ t.size → t.size - i = d → d < k →
    spec_l02Sum.l0 k t n i = some ((List.range' i (t.size - i)).foldl (sumStep t) n) := by
  induction d with
  | zero =>
    intro k i n hi hd hk
    obtain ⟨k, rfl⟩ : ∃ m, k = m + 1 := ⟨k - 1, by omega⟩
    simp only [spec_l02Sum.l0]
    rw [if_neg (by omega), hd]; rfl
  | succ d ih =>
    intro k i n hi hd hk
    obtain ⟨k, rfl⟩ : ∃ m, k = m + 1 := ⟨k - 1, by omega⟩
    simp only [spec_l02Sum.l0]
    rw [if_pos (by omega), if_pos (by omega), range_split i t.size (by omega)]
    have e : wrap64 ((i : Int) + 1) = ((i + 1 : Nat) : Int) := by rw [w64 (by omega) (by omega)]; rfl
    have := ih k (i + 1) (sumStep t n i) (by omega) (by omega) (by omega)
    rw [List.foldl_cons, ← this]
    simp only [sumStep, e]
theorem spec_sum_ev (t : ByteArray) (ht : t.size ≤ 1000000000000) : Ev (fun k => spec_l02Sum.f k t) (sumP t) :=
  ⟨t.size + 1, fun k hk => by have := spec_sum_from t ht t.size k 0 0 (by omega) (by omega) (by omega); simpa [spec_l02Sum.f, sumP, List.range_eq_range'] using this⟩
theorem impl_sum_from (t : ByteArray) (ht : t.size ≤ 1000000000000) (d : Nat) : ∀ (k i : Nat) (n : Int), i ≤ t.size → t.size - i = d → d < k →
    impl_sumOf.l0 k t n (t.size : Int) i = some ((List.range' i (t.size - i)).foldl (sumStep t) n) := by
  induction d with
  | zero =>
    intro k i n hi hd hk
    obtain ⟨k, rfl⟩ : ∃ m, k = m + 1 := ⟨k - 1, by omega⟩
    simp only [impl_sumOf.l0]
    rw [if_neg (by omega), hd]; rfl
  | succ d ih =>
    intro k i n hi hd hk
    obtain ⟨k, rfl⟩ : ∃ m, k = m + 1 := ⟨k - 1, by omega⟩
    simp only [impl_sumOf.l0]
    rw [if_pos (by omega), if_pos (by omega), if_pos (by omega), range_split i t.size (by omega)]
    have e : wrap64 ((i : Int) + 1) = ((i + 1 : Nat) : Int) := by rw [w64 (by omega) (by omega)]; rfl
    have := ih k (i + 1) (sumStep t n i) (by omega) (by omega) (by omega)
    rw [List.foldl_cons, ← this]
    simp only [sumStep, e]
theorem impl_sum_ev (t : ByteArray) (ht : t.size ≤ 1000000000000) : Ev (fun k => impl_sumOf.f k t) (sumP t) :=
  ⟨t.size + 1, fun k hk => by have := impl_sum_from t ht t.size k 0 0 (by omega) (by omega) (by omega); simpa [impl_sumOf.f, sumP, List.range_eq_range'] using this⟩
/-- A record. -/
def headP (kind : Int) (l : List Int) : ByteArray := strOfNums [kind % 256, (l.length : Int) % 256]
def sealP (kind : Int) (l : List Int) : ByteArray := headP kind l ++ strOfNums [sumP (headP kind l ++ strOfNums (packP l)) % 256, 0] ++ strOfNums (packP l)
theorem headP_size (kind : Int) (l : List Int) : (headP kind l).size = 2 := by simp [headP, strOfNums_size]
theorem sealP_size (kind : Int) (l : List Int) : (sealP kind l).size = 4 + 4 * l.length := by simp [sealP, headP_size, strOfNums_size, packP_length]
theorem spec_seal_ev (kind : Int) (l : List Int) (hl : l.length ≤ 1000000000) : Ev (fun k => spec_l02Seal.f k kind l) (sealP kind l) := by
  have hp : (strOfNums (packP l)).size = 4 * l.length := by rw [strOfNums_size, packP_length]
  have hh := headP_size kind l
  unfold spec_l02Seal.f
  refine ev_bind (spec_pack_ev l hl) ?_
  simp only [Option.bind_some]
  refine ev_pos (by rw [strOfNums_size, hp]; simp; omega) ?_
  refine ev_bind (spec_sum_ev _ (by rw [ba_size_append, strOfNums_size, hp]; simp; omega)) ?_
  refine ev_pos (by simp [strOfNums_size]) ?_
  refine ev_pos (by rw [ba_size_append, hp]; simp [strOfNums_size]; omega) ?_
  exact ev_some _
theorem impl_seal_ev (kind : Int) (l : List Int) (hl : l.length ≤ 1000000000) : Ev (fun k => impl_seal.f k kind l) (sealP kind l) := by
  have hp : (strOfNums (packP l)).size = 4 * l.length := by rw [strOfNums_size, packP_length]
  have hh := headP_size kind l
  unfold impl_seal.f
  simp only [Option.bind_some]
  refine ev_bind (impl_pack_ev l hl) ?_
  refine ev_pos (by rw [strOfNums_size, hp]; simp; omega) ?_
  refine ev_bind (impl_sum_ev _ (by rw [ba_size_append, strOfNums_size, hp]; simp; omega)) ?_
  refine ev_pos (by simp [strOfNums_size]) ?_
  refine ev_pos (by rw [ba_size_append, hp]; simp [strOfNums_size]; omega) ?_
  exact ev_some _
/-! ### Open -/
theorem bt_nn (t : ByteArray) (i : Int) : 0 ≤ bt t i := by unfold bt; split <;> omega
theorem bt_lt (t : ByteArray) (i : Int) : bt t i < 256 := by
  unfold bt; split
  · have := (t[i.toNat]).toNat_lt; omega
  · omega
theorem wraps_i64 (n : Int) (h0 : 0 ≤ n) (h1 : n < 2 ^ 63) : IntKind.i64.wrap n = n := by rw [IntKind.wrap_i64]; omega
theorem or64 (i : Nat) {x y : Int} (hx₀ : 0 ≤ x) (hx : x % 2 ^ i = 0) (hx₁ : x < 2 ^ 63) (h₀ : 0 ≤ y) (h₁ : y < 2 ^ i) (hy : y < 2 ^ 63) : Go.bits .or .i64 x y = x + y :=
  bits_join .i64 63 (by decide) wraps_i64 i x y hx₀ hx hx₁ h₀ h₁ hy
theorem or64' (i : Nat) {x y : Int} (hx₀ : 0 ≤ x) (hx : x % 2 ^ i = 0) (hx₁ : x < 2 ^ 63) (h₀ : 0 ≤ y) (h₁ : y < 2 ^ i) (hy : y < 2 ^ 63) : Go.bits .or .i64 y x = y + x := by
  obtain ⟨a, rfl⟩ := Int.eq_ofNat_of_zero_le hx₀
  obtain ⟨b, rfl⟩ := Int.eq_ofNat_of_zero_le h₀
  have ha : a < 2 ^ 63 := by exact_mod_cast hx₁
  have hb : b < 2 ^ 63 := by exact_mod_cast hy
  have h := or64 i (x := (a : Int)) (y := (b : Int)) hx₀ hx hx₁ h₀ h₁ hy
  rw [(bits_nat .i64 63 (by decide) wraps_i64 a b ha hb).2] at h
  rw [(bits_nat .i64 63 (by decide) wraps_i64 b a hb ha).2, Nat.or_comm, h]; omega
def numAt (t : ByteArray) (i : Nat) : Int := bt t (i : Int) + 256 * bt t ((i + 1 : Nat) : Int) + 65536 * bt t ((i + 2 : Nat) : Int) + 16777216 * bt t ((i + 3 : Nat) : Int)
def numsP (t : ByteArray) : List Int := (List.range (t.size / 4)).map (fun j => numAt t (4 * j))
theorem numsP_length (t : ByteArray) : (numsP t).length = t.size / 4 := by simp [numsP]
theorem numsP_take (t : ByteArray) (j : Nat) (h : j < t.size / 4) : (numsP t).take (j + 1) = (numsP t).take j ++ [numAt t (4 * j)] := by
  rw [take_next _ j (by rw [numsP_length]; exact h)]; simp [numsP]
def intsOK (l : List Int) : Bool := l.all (fun n => inB n 0 2147483647) && decide ((l.length : Int) ≤ 16)
theorem spec_ints_from (l : List Int) (hl : l.length ≤ 1000000000) (d : Nat) : ∀ (k i : Nat), i ≤ l.length → l.length - i = d → d < k →
    spec_l02Ints.l0 k l i = some ((l.drop i).all (fun n => inB n 0 2147483647) && decide ((l.length : Int) ≤ 16)) := by
  induction d with
  | zero =>
    intro k i hi hd hk
    obtain ⟨k, rfl⟩ : ∃ m, k = m + 1 := ⟨k - 1, by omega⟩
    simp only [spec_l02Ints.l0]
    rw [if_neg (by omega), List.drop_of_length_le (by omega)]; simp
  | succ d ih =>
    intro k i hi hd hk
    obtain ⟨k, rfl⟩ : ∃ m, k = m + 1 := ⟨k - 1, by omega⟩
    have hlt : i < l.length := by omega
    simp only [spec_l02Ints.l0, spec_l02Int.f, l01In_eq, Option.bind_some]
    rw [if_pos (by omega), if_pos (by omega), rd_eq l i hlt, List.drop_eq_getElem_cons hlt, List.all_cons, w64 (by omega) (by omega)]
    have := ih k (i + 1) (by omega) (by omega) (by omega)
    cases h : inB l[i] 0 2147483647
    · simp
    · simp only [if_true, Bool.true_and]; exact this
theorem spec_ints_ev (l : List Int) (hl : l.length ≤ 1000000000) : Ev (fun k => spec_l02Ints.f k l) (intsOK l) :=
  ⟨l.length + 1, fun k hk => by have := spec_ints_from l hl l.length k 0 (by omega) (by omega) (by omega); simpa [spec_l02Ints.f, intsOK] using this⟩
theorem mul_wrap {a b c : Int} (h0 : 0 ≤ a) (h1 : a < c) (hb : 0 < b) (h : c * b ≤ 9223372036854775807) : wrap64 (a * b) = a * b := by
  have h2 : a * b ≤ c * b := Int.mul_le_mul_of_nonneg_right (by omega) (by omega)
  have h3 : 0 ≤ a * b := Int.mul_nonneg h0 (by omega)
  exact w64 (by omega) (by omega)
theorem four_up {a b c d : Int} (a0 : 0 ≤ a) (a1 : a < 256) (b0 : 0 ≤ b) (b1 : b < 256) (c0 : 0 ≤ c) (c1 : c < 256) (d0 : 0 ≤ d) (d1 : d < 256) :
    Go.bits .or .i64 (wrap64 (Go.bits .or .i64 (wrap64 (Go.bits .or .i64 (wrap64 (Go.bits .or .i64 (wrap64 (0 * 256)) (wrap64 d) * 256)) (wrap64 c) * 256)) (wrap64 b) * 256)) (wrap64 a) = a + 256 * b + 65536 * c + 16777216 * d := by
  rw [w64 (n := a) (by omega) (by omega), w64 (n := b) (by omega) (by omega), w64 (n := c) (by omega) (by omega), w64 (n := d) (by omega) (by omega)]
  rw [w64 (n := 0 * 256) (by omega) (by omega), or64 8 (x := 0 * 256) (by omega) (by omega) (by omega) d0 (by omega) (by omega)]
  obtain ⟨u, hu⟩ : ∃ u, u = 0 * 256 + d := ⟨_, rfl⟩
  rw [← hu, w64 (n := u * 256) (by omega) (by omega), or64 8 (x := u * 256) (by omega) (by omega) (by omega) c0 (by omega) (by omega)]
  obtain ⟨v, hv⟩ : ∃ v, v = u * 256 + c := ⟨_, rfl⟩
  rw [← hv, w64 (n := v * 256) (by omega) (by omega), or64 8 (x := v * 256) (by omega) (by omega) (by omega) b0 (by omega) (by omega)]
  obtain ⟨x, hx⟩ : ∃ x, x = v * 256 + b := ⟨_, rfl⟩
  rw [← hx, w64 (n := x * 256) (by omega) (by omega), or64 8 (x := x * 256) (by omega) (by omega) (by omega) a0 (by omega) (by omega)]
  omega
theorem four_down {a b c d : Int} (a0 : 0 ≤ a) (a1 : a < 256) (b0 : 0 ≤ b) (b1 : b < 256) (c0 : 0 ≤ c) (c1 : c < 256) (d0 : 0 ≤ d) (d1 : d < 256) :
    Go.bits .or .i64 (Go.bits .or .i64 (Go.bits .or .i64 (wrap64 a) (wrap64 (wrap64 b * 256))) (wrap64 (wrap64 c * 65536))) (wrap64 (wrap64 d * 16777216)) = a + 256 * b + 65536 * c + 16777216 * d := by
  rw [w64 (n := a) (by omega) (by omega), w64 (n := b) (by omega) (by omega), w64 (n := c) (by omega) (by omega), w64 (n := d) (by omega) (by omega)]
  rw [w64 (n := b * 256) (by omega) (by omega), w64 (n := c * 65536) (by omega) (by omega), w64 (n := d * 16777216) (by omega) (by omega)]
  rw [or64' 8 (x := b * 256) (by omega) (by omega) (by omega) a0 (by omega) (by omega)]
  obtain ⟨u, hu⟩ : ∃ u, u = a + b * 256 := ⟨_, rfl⟩
  rw [← hu, or64' 16 (x := c * 65536) (by omega) (by omega) (by omega) (y := u) (by omega) (by omega) (by omega)]
  obtain ⟨v, hv⟩ : ∃ v, v = u + c * 65536 := ⟨_, rfl⟩
  rw [← hv, or64' 24 (x := d * 16777216) (by omega) (by omega) (by omega) (y := v) (by omega) (by omega) (by omega)]
  omega
theorem up_to (i : Nat) (h : i < 1000000000000) (c : Nat) (hc : c ≤ 10) : wrap64 ((i : Int) + (c : Int)) = ((i + c : Nat) : Int) := by rw [w64 (by omega) (by omega)]; omega
theorem spec_unpack_in (t : ByteArray) (ht : t.size ≤ 1000000000000) (out : List Int) (hout : out.length < 1000000000000) (i : Nat) (h : i + 3 < t.size) (k : Nat) (hk : 5 ≤ k) :
    spec_l02Unpack.l1 k t out i 0 3 = spec_l02Unpack.l0 (k - 5) t (out ++ [numAt t i]) ((i + 4 : Nat) : Int) := by
  obtain ⟨k, rfl⟩ : ∃ m, k = m + 5 := ⟨k - 5, by omega⟩
  have hi : i < 1000000000000 := by omega
  have e3 : wrap64 ((i : Int) + 3) = ((i + 3 : Nat) : Int) := up_to i hi 3 (by omega)
  have e2 : wrap64 ((i : Int) + 2) = ((i + 2 : Nat) : Int) := up_to i hi 2 (by omega)
  have e1 : wrap64 ((i : Int) + 1) = ((i + 1 : Nat) : Int) := up_to i hi 1 (by omega)
  have e0 : wrap64 ((i : Int) + 0) = ((i : Nat) : Int) := up_to i hi 0 (by omega)
  have e4 : wrap64 ((i : Int) + 4) = ((i + 4 : Nat) : Int) := up_to i hi 4 (by omega)
  have d3 : wrap64 (3 - 1) = 2 := by rw [w64 (by omega) (by omega)]; omega
  have d2 : wrap64 (2 - 1) = 1 := by rw [w64 (by omega) (by omega)]; omega
  have d1 : wrap64 (1 - 1) = 0 := by rw [w64 (by omega) (by omega)]; omega
  have d0 : wrap64 (0 - 1) = -1 := by rw [w64 (by omega) (by omega)]; omega
  simp only [spec_l02Unpack.l1]
  rw [if_pos (by omega), e3, if_pos (by omega), if_pos (by omega), d3, if_pos (by omega), e2, if_pos (by omega), if_pos (by omega), d2, if_pos (by omega), e1, if_pos (by omega), if_pos (by omega), d1, if_pos (by omega), e0, if_pos (by omega), if_pos (by omega), d0, if_neg (by omega), if_pos (by omega), e4]
  rw [four_up (bt_nn _ _) (bt_lt _ _) (bt_nn _ _) (bt_lt _ _) (bt_nn _ _) (bt_lt _ _) (bt_nn _ _) (bt_lt _ _)]
  rfl
theorem spec_unpack_from (t : ByteArray) (ht : t.size ≤ 1000000000) (h4 : t.size % 4 = 0) (d : Nat) : ∀ (j : Nat), j ≤ t.size / 4 → t.size / 4 - j = d →
    Ev (fun k => spec_l02Unpack.l0 k t ((numsP t).take j) ((4 * j : Nat) : Int)) (numsP t, intsOK (numsP t)) := by
  induction d with
  | zero =>
    intro j hj hd
    refine Ev.step (f := fun k => (spec_l02Ints.f k ((numsP t).take j)).bind fun b => some ((numsP t).take j, b)) (fun k => ?_) ?_
    · simp only [spec_l02Unpack.l0]; rw [if_neg (by omega)]
    · have e : (numsP t).take j = numsP t := List.take_of_length_le (by rw [numsP_length]; omega)
      simp only [e]
      exact ev_bind (spec_ints_ev _ (by rw [numsP_length]; omega)) (ev_some _)
  | succ d ih =>
    intro j hj hd
    obtain ⟨K, hK⟩ := ih (j + 1) (by omega) (by omega)
    have hlen : ((numsP t).take j).length ≤ t.size / 4 := by rw [List.length_take, numsP_length]; omega
    refine ⟨K + 6, fun k hk => ?_⟩
    obtain ⟨k, rfl⟩ : ∃ m, k = m + 1 := ⟨k - 1, by omega⟩
    simp only [spec_l02Unpack.l0]
    rw [if_pos (by omega), spec_unpack_in t (by omega) _ (by omega) (4 * j) (by omega) k (by omega), ← numsP_take t j (by omega)]
    have := hK (k - 5) (by omega)
    rw [show 4 * (j + 1) = 4 * j + 4 by omega] at this
    exact this
theorem spec_unpack_ev (t : ByteArray) (ht : t.size ≤ 1000000000) : Ev (fun k => spec_l02Unpack.f k t) (if t.size % 4 = 0 then (numsP t, intsOK (numsP t)) else ([], false)) := by
  unfold spec_l02Unpack.f
  simp only [Option.bind_some]
  by_cases h : t.size % 4 = 0
  · rw [if_pos h]
    refine ev_pos (by omega) ?_
    have := spec_unpack_from t ht h (t.size / 4) 0 (by omega) (by omega)
    simpa using this
  · rw [if_neg h]
    exact ev_neg (by omega) (ev_some _)
/-- What a record of a kind says, and whether a text is one. -/
def recNums (t : ByteArray) : List Int := numsP (t.extract 4 t.size)
def bodyOK (t : ByteArray) (kind : Int) : Bool := decide ((t.extract 4 t.size).size % 4 = 0 ∧ intsOK (recNums t) = true ∧ sealP kind (recNums t) = t)
theorem bodyOK_iff {t : ByteArray} {kind : Int} : bodyOK t kind = true ↔ (t.extract 4 t.size).size % 4 = 0 ∧ intsOK (recNums t) = true ∧ sealP kind (recNums t) = t := by simp only [bodyOK, decide_eq_true_eq]
def recOK (t : ByteArray) (kind : Int) : Bool := decide (4 ≤ t.size) && (bt t 0 == kind && (inB kind 1 9 && bodyOK t kind))
theorem recOK_iff {t : ByteArray} {kind : Int} : recOK t kind = true ↔ 4 ≤ t.size ∧ bt t 0 = kind ∧ inB kind 1 9 = true ∧ (t.extract 4 t.size).size % 4 = 0 ∧ intsOK (recNums t) = true ∧ sealP kind (recNums t) = t := by
  simp only [recOK, Bool.and_eq_true, decide_eq_true_eq, beq_iff_eq, bodyOK_iff]
theorem recOK_no {t : ByteArray} {kind : Int} (h : ¬ (4 ≤ t.size ∧ bt t 0 = kind ∧ inB kind 1 9 = true ∧ (t.extract 4 t.size).size % 4 = 0 ∧ intsOK (recNums t) = true ∧ sealP kind (recNums t) = t)) : recOK t kind = false := by
  cases hr : recOK t kind with
  | false => rfl
  | true => exact absurd (recOK_iff.1 hr) h
theorem ext_size (t : ByteArray) : (t.extract 4 t.size).size = t.size - 4 := by simp
theorem bt0 (t : ByteArray) : wrap64 (bt t 0) = bt t 0 := by have := bt_nn t 0; have := bt_lt t 0; exact w64 (by omega) (by omega)
theorem spec_open_ev (t : ByteArray) (kind : Int) (ht : t.size ≤ 1000000000) : Ev (fun k => spec_l02Open.f k t kind) (if recOK t kind = true then (recNums t, true) else ([], false)) := by
  unfold spec_l02Open.f
  by_cases h1 : t.size < 4
  · rw [recOK_no (by omega)]
    refine ev_pos (by omega) (Ev.step (f := fun _ => some ([], false)) (fun k => ?_) (ev_some _))
    simp [spec_l02Open.j0]
  · refine ev_neg (by omega) (ev_pos (by omega) ?_)
    rw [bt0]
    by_cases h2 : bt t 0 = kind
    · refine ev_pos h2 ?_
      simp only [spec_l02Kind.f, l01In_eq, Option.bind_some]
      by_cases h3 : inB kind 1 9 = true
      · simp only [h3, Bool.not_true]
        refine Ev.step (f := fun k => (spec_l02Unpack.f k (t.extract 4 t.size)).bind fun bt496 => (if bt496.2 = true then ((spec_l02Seal.f k kind bt496.1).bind fun t500 => (if t500.toList = t.toList then (some (bt496.1, true)) else (some ((([] : List Int)), false)))) else (some ((([] : List Int)), false)))) (fun k => ?_) ?_
        · simp only [spec_l02Open.j0, Bool.false_eq_true, if_false]; rw [if_pos (by omega)]
        · refine ev_bind (spec_unpack_ev _ (by rw [ext_size]; omega)) ?_
          by_cases h4 : (t.extract 4 t.size).size % 4 = 0
          · rw [if_pos h4]
            by_cases h5 : intsOK (recNums t) = true
            · refine ev_pos h5 ?_
              refine ev_bind (spec_seal_ev kind _ (by show (numsP _).length ≤ _; rw [numsP_length, ext_size]; omega)) ?_
              by_cases h6 : sealP kind (recNums t) = t
              · rw [recOK_iff.2 ⟨by omega, h2, h3, h4, h5, h6⟩]
                exact ev_pos (by show (sealP kind (recNums t)).toList = _; rw [h6]) (ev_some _)
              · rw [recOK_no (fun h => h6 h.2.2.2.2.2)]
                exact ev_neg (by rw [toList_inj]; exact h6) (ev_some _)
            · rw [recOK_no (fun h => h5 h.2.2.2.2.1)]
              exact ev_neg h5 (ev_some _)
          · rw [if_neg h4, recOK_no (fun h => h4 h.2.2.2.1)]
            exact ev_neg (by simp) (ev_some _)
      · have h3' : inB kind 1 9 = false := by simpa using h3
        rw [recOK_no (fun h => h3 h.2.2.1)]
        simp only [h3', Bool.not_false]
        refine Ev.step (f := fun _ => some ([], false)) (fun k => ?_) (ev_some _)
        simp [spec_l02Open.j0]
    · rw [recOK_no (fun h => h2 h.2.1)]
      refine ev_neg h2 (Ev.step (f := fun _ => some ([], false)) (fun k => ?_) (ev_some _))
      simp [spec_l02Open.j0]
/-! ### OpenI -/
theorem isNumber_eq (n : Int) : impl_isNumber.f n = some (inB n 0 2147483647) := by simp only [impl_isNumber.f, within_eq, Option.bind_some]
theorem all_number (l : List Int) : all128_impl_isNumber.f l () = some (l.all (fun n => inB n 0 2147483647)) := by
  unfold all128_impl_isNumber.f; exact allO_some _ _ (fun x _ => isNumber_eq x)
theorem impl_areInts_eq (l : List Int) : impl_areInts.f l = some (intsOK l) := by
  unfold impl_areInts.f intsOK
  by_cases h : (l.length : Int) ≤ 16
  · rw [if_pos h, all_number]; simp [h]
  · rw [if_neg h]; simp [h]
theorem intsOK_take (l : List Int) : intsOK (l.take 17) = intsOK l := by
  by_cases h : l.length ≤ 16
  · rw [List.take_of_length_le (by omega)]
  · have h1 : intsOK l = false := by simp [intsOK]; intro _; omega
    have h2 : intsOK (l.take 17) = false := by simp [intsOK]; intro _; omega
    rw [h1, h2]
theorem impl_unpack_end (t : ByteArray) (l : List Int) : (if ((t.size : Int) % 4) = 0 then ((impl_areInts.f l).bind fun t529 => (some (l, t529))) else (some (l, false))) = some (l, decide (t.size % 4 = 0) && intsOK l) := by
  by_cases h : t.size % 4 = 0
  · rw [if_pos (by omega), impl_areInts_eq]; simp [h]
  · rw [if_neg (by omega)]; simp [h]
theorem impl_unpack_from (t : ByteArray) (ht : t.size ≤ 1000000000) (d : Nat) : ∀ (k j : Nat), j ≤ 17 → j ≤ t.size / 4 → 17 - j = d → d < k →
    impl_unpack.l0 k t ((numsP t).take j) ((4 * j : Nat) : Int) = some ((numsP t).take 17, decide (t.size % 4 = 0) && intsOK ((numsP t).take 17)) := by
  induction d with
  | zero =>
    intro k j hj hj2 hd hk
    obtain ⟨k, rfl⟩ : ∃ m, k = m + 1 := ⟨k - 1, by omega⟩
    obtain rfl : j = 17 := by omega
    simp only [impl_unpack.l0]
    by_cases h : wrap64 (((4 * 17 : Nat) : Int) + 4) ≤ (t.size : Int)
    · rw [if_pos h, if_neg (by omega)]; exact impl_unpack_end t _
    · rw [if_neg h]; exact impl_unpack_end t _
  | succ d ih =>
    intro k j hj hj2 hd hk
    obtain ⟨k, rfl⟩ : ∃ m, k = m + 1 := ⟨k - 1, by omega⟩
    have hi : 4 * j < 1000000000000 := by omega
    have hlen : ((numsP t).take j).length ≤ t.size / 4 := by rw [List.length_take, numsP_length]; omega
    have e4 : wrap64 (((4 * j : Nat) : Int) + 4) = ((4 * j + 4 : Nat) : Int) := up_to _ hi 4 (by omega)
    have e3 : wrap64 (((4 * j : Nat) : Int) + 3) = ((4 * j + 3 : Nat) : Int) := up_to _ hi 3 (by omega)
    have e2 : wrap64 (((4 * j : Nat) : Int) + 2) = ((4 * j + 2 : Nat) : Int) := up_to _ hi 2 (by omega)
    have e1 : wrap64 (((4 * j : Nat) : Int) + 1) = ((4 * j + 1 : Nat) : Int) := up_to _ hi 1 (by omega)
    simp only [impl_unpack.l0]
    rw [e4, e3, e2, e1]
    by_cases h : 4 * j + 4 ≤ t.size
    · rw [if_pos (by omega), if_pos (by omega), if_pos (by omega), if_pos (by omega), if_pos (by omega), if_pos (by omega), if_pos (by omega), if_pos (by omega), if_pos (by omega), if_pos (by omega), if_pos (by omega)]
      rw [four_down (bt_nn _ _) (bt_lt _ _) (bt_nn _ _) (bt_lt _ _) (bt_nn _ _) (bt_lt _ _) (bt_nn _ _) (bt_lt _ _)]
      have := ih k (j + 1) (by omega) (by omega) (by omega) (by omega)
      rw [numsP_take t j (by omega)] at this
      exact this
    · rw [if_neg (by omega)]
      have e : (numsP t).take j = (numsP t).take 17 := by
        rw [List.take_of_length_le (by rw [numsP_length]; omega), List.take_of_length_le (by rw [numsP_length]; omega)]
      rw [e]; exact impl_unpack_end t _
theorem impl_unpack_ev (t : ByteArray) (ht : t.size ≤ 1000000000) : Ev (fun k => impl_unpack.f k t) ((numsP t).take 17, decide (t.size % 4 = 0) && intsOK (numsP t)) :=
  ⟨18, fun k hk => by have := impl_unpack_from t ht 17 k 0 (by omega) (by omega) (by omega) (by omega); rw [intsOK_take] at this; simpa [impl_unpack.f] using this⟩
def openL (t : ByteArray) : List Int := if t.size < 4 ∨ t.size > 80 ∨ inB (bt t 0) 1 9 = false then [] else (recNums t).take 17
theorem recOK_openL {t : ByteArray} {kind : Int} (h : recOK t kind = true) : openL t = recNums t := by
  obtain ⟨h1, h2, h3, h4, h5, h6⟩ := recOK_iff.1 h
  have hl : (recNums t).length ≤ 16 := by
    simp only [intsOK, Bool.and_eq_true, decide_eq_true_eq] at h5
    omega
  have hs : t.size ≤ 80 := by
    unfold recNums at hl; rw [numsP_length] at hl; rw [ext_size] at hl h4; omega
  unfold openL
  rw [if_neg (by rw [h2]; simp [h3]; omega), List.take_of_length_le (by omega)]
theorem recOK_long {t : ByteArray} {kind : Int} (h : t.size > 80) : recOK t kind = false := by
  refine recOK_no (fun hr => ?_)
  obtain ⟨h1, h2, h3, h4, h5, h6⟩ := hr
  simp only [intsOK, Bool.and_eq_true, decide_eq_true_eq] at h5
  have := h5.2
  unfold recNums at this
  rw [numsP_length] at this; rw [ext_size] at this h4; omega
theorem impl_open_ev (t : ByteArray) (kind : Int) (ht : t.size ≤ 1000000000) : Ev (fun k => impl_open.f k t kind) (openL t, recOK t kind) := by
  unfold impl_open.f impl_opened.f
  have hbad : ∀ (g : Nat → Option (Int × List Int × Bool)), openL t = [] → recOK t kind = false → Ev g (0, [], false) → Ev (fun k => (g k).bind fun bt537 => (if bt537.2.2 = true then (some (bt537.2.1, (bt537.1 == kind))) else (some (bt537.2.1, false)))) (openL t, recOK t kind) := by
    intro g h1 h2 hg
    rw [h1, h2]
    exact ev_bind hg (ev_neg (by simp) (ev_some _))
  by_cases h1 : t.size < 4
  · refine hbad _ (by simp [openL, h1]) (recOK_no (by omega)) (ev_pos (by omega) (Ev.step (f := fun _ => some (0, [], false)) (fun k => by simp [impl_opened.j0]) (ev_some _)))
  · by_cases h2 : t.size > 80
    · refine hbad _ (by simp [openL, h2]) (recOK_long h2) (ev_neg (by omega) (ev_pos (by omega) (Ev.step (f := fun _ => some (0, [], false)) (fun k => by simp [impl_opened.j0]) (ev_some _))))
    · by_cases h3 : inB (bt t 0) 1 9 = true
      · have hL : openL t = (recNums t).take 17 := by unfold openL; rw [if_neg (by simp [h3]; omega)]
        have hO : Ev (fun k => if (t.size : Int) < 4 then impl_opened.j0 k t true else (if (t.size : Int) > 80 then impl_opened.j0 k t true else (if 0 < (t.size : Int) then ((impl_isKind.f (wrap64 (bt t 0))).bind fun t531 => (impl_opened.j0 k t (!t531))) else none))) (bt t 0, openL t, bodyOK t (bt t 0)) := by
          refine ev_neg (by omega) (ev_neg (by omega) (ev_pos (by omega) ?_))
          rw [bt0]
          simp only [impl_isKind.f, within_eq, Option.bind_some, h3, Bool.not_true]
          refine Ev.step (f := fun k => (impl_unpack.f k (t.extract 4 t.size)).bind fun bt532 => (if bt532.2 = true then ((impl_seal.f k (bt t 0) bt532.1).bind fun t536 => (some (bt t 0, bt532.1, (t536.toList == t.toList)))) else (some (bt t 0, bt532.1, false)))) (fun k => ?_) ?_
          · simp only [impl_opened.j0, Bool.false_eq_true, if_false, bt0]; rw [if_pos (by omega)]
            congr 1; funext b; rw [if_pos (by omega)]
          · refine ev_bind (impl_unpack_ev _ (by rw [ext_size]; omega)) ?_
            show Ev (fun n => if (decide ((t.extract 4 t.size).size % 4 = 0) && intsOK (recNums t)) = true then ((impl_seal.f n (bt t 0) ((recNums t).take 17)).bind fun t536 => (some (bt t 0, (recNums t).take 17, (t536.toList == t.toList)))) else some (bt t 0, (recNums t).take 17, false)) _
            rw [hL]
            by_cases h4 : (t.extract 4 t.size).size % 4 = 0 ∧ intsOK (recNums t) = true
            · have hl : (recNums t).length ≤ 16 := by
                have := h4.2
                simp only [intsOK, Bool.and_eq_true, decide_eq_true_eq] at this
                omega
              have ht17 : (recNums t).take 17 = recNums t := List.take_of_length_le (by omega)
              refine ev_pos (by simp only [h4.1, h4.2, decide_true, Bool.and_self]) ?_
              rw [ht17]
              refine ev_bind (impl_seal_ev (bt t 0) _ (by omega)) ?_
              have e : (((sealP (bt t 0) (recNums t)).toList == t.toList) : Bool) = bodyOK t (bt t 0) := by
                rw [Bool.eq_iff_iff, bodyOK_iff]; simp only [beq_iff_eq, toList_inj]
                exact ⟨fun h => ⟨h4.1, h4.2, h⟩, fun h => h.2.2⟩
              rw [e]
              exact ev_some _
            · refine ev_neg (by simp only [Bool.and_eq_true, decide_eq_true_eq]; exact h4) ?_
              have : bodyOK t (bt t 0) = false := by
                cases hb : bodyOK t (bt t 0) with
                | false => rfl
                | true => have := bodyOK_iff.1 hb; exact absurd ⟨this.1, this.2.1⟩ h4
              rw [this]
              exact ev_some _
        refine ev_bind hO ?_
        show Ev (fun n => if bodyOK t (bt t 0) = true then some (openL t, bt t 0 == kind) else some (openL t, false)) _
        by_cases h5 : bodyOK t (bt t 0) = true
        · refine ev_pos h5 ?_
          by_cases h6 : bt t 0 = kind
          · have hr : recOK t kind = true := recOK_iff.2 ⟨by omega, h6, by rw [← h6]; exact h3, by rw [← h6]; exact bodyOK_iff.1 h5⟩
            rw [hr]
            simp only [h6, beq_self_eq_true]
            exact ev_some _
          · rw [recOK_no (fun h => h6 h.2.1)]
            have : (bt t 0 == kind) = false := by simp [h6]
            rw [this]
            exact ev_some _
        · refine ev_neg h5 ?_
          rw [recOK_no (fun h => h5 (bodyOK_iff.2 (by have := h.2.2.2; rw [← h.2.1] at this; exact this)))]
          exact ev_some _
      · have h3' : inB (bt t 0) 1 9 = false := by simpa using h3
        refine hbad _ (by simp [openL, h3']) (recOK_no (fun h => h3 (by have := h.2.2.1; rw [← h.2.1] at this; exact this))) (ev_neg (by omega) (ev_neg (by omega) (ev_pos (by omega) ?_)))
        rw [bt0]
        simp only [impl_isKind.f, within_eq, Option.bind_some, h3', Bool.not_false]
        exact Ev.step (f := fun _ => some (0, [], false)) (fun k => by simp [impl_opened.j0]) (ev_some _)
/-! ### impl_Block_text: function 72 -/
def impl_Block_text.f (k : Nat) (a0_0 : Int) (a0_1 : Int) (a0_2 : Int) (a0_3 : Int) : Option (ByteArray) := (impl_seal.f k 5 (([a0_0, a0_1, a0_2, a0_3] : List Int))).bind fun t245 => (some t245)
theorem impl_Block_text.mono : ∀ a0 a1 a2 a3 k, LeO (impl_Block_text.f k a0 a1 a2 a3) (impl_Block_text.f (k + 1) a0 a1 a2 a3) := by
  intro a0 a1 a2 a3 k
  unfold impl_Block_text.f
  repeat' first
      | (with_reducible exact impl_seal.mono _ _ _)
      | (with_reducible exact LeO.refl _)
      | (with_reducible exact LeO.none _)
      | (with_reducible refine LeO.ite ?_ ?_)
      | (with_reducible refine LeO.bind ?_ (fun _ => ?_))
      | exact impl_seal.mono _ _ _
      | exact LeO.none _
      | refine LeO.ite ?_ ?_
      | refine LeO.bind ?_ (fun _ => ?_)
set_option maxHeartbeats 8000000 in
set_option maxRecDepth 100000 in
theorem impl_Block_text.calls (k : Nat) (a0_0 : Int) (a0_1 : Int) (a0_2 : Int) (a0_3 : Int) (r : ByteArray) (w : World) (h : impl_Block_text.f k a0_0 a0_1 a0_2 a0_3 = some r) :
    Calls Try.prog 72 #[.agg #[.int .i64 a0_0, .int .i64 a0_1, .int .i64 a0_2, .int .i64 a0_3]] w fun e w' => e = .returned (.string r) ∧ Below w.heap.size w w' := by
  have hu42 := Try.underlying42
  have HB := Aside0.mk (Below.refl w.heap.size w)
  have H : ((impl_seal.f k 5 (([a0_0, a0_1, a0_2, a0_3] : List Int))).bind fun t245 => (some t245)) = some r := h
  clear h
  obtain ⟨y242, hy242⟩ : ∃ y_ : List Int, y_ = (([a0_0, a0_1, a0_2, a0_3] : List Int)) := ⟨_, rfl⟩
  replace H : ((impl_seal.f k 5 y242).bind fun t245 => (some t245)) = some r := by first | (rw [hy242]; with_reducible exact H) | (have H2_ := (Option.bind_some _ _).symm.trans H; rw [hy242]; with_reducible exact H2_) | (have H2_ := (Option.bind_some _ _).symm.trans H; with_reducible exact H2_) | with_reducible exact H | (rw [hy242]; exact H) | exact H
  have Ny242 := Aside0.mk hy242
  clear hy242
  replace H := Option.bind_eq_some_iff.mp H
  obtain ⟨t245, A20, H⟩ := H
  replace H : (some t245) = some r := H
  have A2 := Aside0.mk A20
  clear A20
  obtain rfl := Option.some.inj H
  go_enter Try.func72, Try.ntmps72
  go_wp2_with (first | ((with_reducible refine gate_dst (N := 1) rfl ?_); refine box_event ?hg (N := 1) ?hd (cs := #[.int .i64 a0_0, .int .i64 a0_1, .int .i64 a0_2, .int .i64 a0_3]) (t := 42) ?hr ?_; (case hd => rfl); (case hg => rfl); (case hr => first | (go_simp; done) | (go_simp; rfl)); intro gb241 hg w3 hbox hb; have n0_ := Aside0.mk (below_step (by repeat (first | (with_reducible first | exact HB.out | apply below_alloc | apply pw_below_drewN | apply below_drew1) | exact HB.out)) hb); have n1_ := Aside0.mk (hbox); have n2_ := Aside0.mk ((by rw [hg]; exact (below_size (by repeat (first | (with_reducible first | exact HB.out | apply below_alloc | apply pw_below_drewN | apply below_drew1) | exact HB.out))) : w.heap.size ≤ gb241)); have n3_ := Aside0.mk ((by rw [hg]; exact (below_size (by repeat (first | (with_reducible first | exact HB.out | apply below_alloc | apply pw_below_drewN | apply below_drew1) | exact HB.out))) : w.heap.size ≤ gb241)); clear HB; have HB := n0_; have BK241 := n1_; have GW241 := n2_; have GE241 := n3_; clear n0_ n1_ n2_ n3_; clear hb hbox hg; have hcz4_0 : w3.cell? ⟨gb241, 0, none⟩ = some (.int .i64 a0_0) := (blk_cell BK241.out 0).trans rfl; have hcz4_1 : w3.cell? ⟨gb241, 1, none⟩ = some (.int .i64 a0_1) := (blk_cell BK241.out 1).trans rfl; have hcz4_2 : w3.cell? ⟨gb241, 2, none⟩ = some (.int .i64 a0_2) := (blk_cell BK241.out 2).trans rfl; have hcz4_3 : w3.cell? ⟨gb241, 3, none⟩ = some (.int .i64 a0_3) := (blk_cell BK241.out 3).trans rfl; have hfz4_0 := blk_frozen BK241.out 0; have hfz4_1 := blk_frozen BK241.out 1; have hfz4_2 := blk_frozen BK241.out 2; have hfz4_3 := blk_frozen BK241.out 3) | ((with_reducible refine gate_dst (N := 11) rfl ?_); refine Kd.R_lit (Kd.int .i64) _ 3 ?hg (N := 11) ?hd (xs := ([a0_0, a0_1, a0_2, a0_3] : List Int)) (inner := [.int .i64 a0_0, .int .i64 a0_1, .int .i64 a0_2, .int .i64 a0_3]) (ok := fun _ => True) (okp := fun _ => True) ?hr ?hp (fun _ hk => hk) trivial (Below.refl _ _) (Nat.le_refl _) (by simp) ?_; (case hd => rfl); (case hg => rfl); (case hr => first | (go_simp; done) | (go_simp; rfl)); (case hp => exact (Reps.one (show Kd.M (Kd.int .i64) _ _ _ a0_0 [.int .i64 a0_0] from rfl) (Reps.one (show Kd.M (Kd.int .i64) _ _ _ a0_1 [.int .i64 a0_1] from rfl) (Reps.one (show Kd.M (Kd.int .i64) _ _ _ a0_2 [.int .i64 a0_2] from rfl) (Reps.one (show Kd.M (Kd.int .i64) _ _ _ a0_3 [.int .i64 a0_3] from rfl) (Reps.none _ _)))))); intro v243 w5 ho6 hb hg_ hnew_; clear hg_ hnew_; (first | rw [← Ny242.out] at ho6 | (simp only [Int.reduceToNat] at ho6; rw [← Ny242.out] at ho6)); have n0_ := Aside0.mk (Kd.R_lower ho6 (below_size (by repeat (first | (with_reducible first | exact HB.out | apply below_alloc | apply pw_below_drewN | apply below_drew1 | refine below_set ?_ GE241.out) | exact HB.out)))); have n1_ := Aside0.mk (blk_below (g := gb241) (o := .cells #[.int .i64 a0_0, .int .i64 a0_1, .int .i64 a0_2, .int .i64 a0_3] 42 (0, 0)) (by (with_reducible repeat (first | refine blk_drewN ?_ _ | refine blk_drew ?_ | refine blk_alloc ?_ _)); exact BK241.out) hb); have n2_ := Aside0.mk (below_step (by repeat (first | (with_reducible first | exact HB.out | apply below_alloc | apply pw_below_drewN | apply below_drew1 | refine below_set ?_ GE241.out) | exact HB.out)) hb); clear BK241; clear HB; have HO244 := n0_; have BK241 := n1_; have HB := n2_; clear n0_ n1_ n2_; clear hb ho6; obtain ⟨Ao7, co7, eo7⟩ := Kd.R_slice HO244.out; subst eo7) | ((with_reducible refine gate_callee (f := 110) rfl ?_); refine goesL_ (some 12) rfl rfl Try.func110 (by kernel_rfl) rfl #[.int .i64 5, .slice Ao7 y242.length co7] rfl (by (try simp only [List.map_toArray, List.map_cons, List.map_nil]); first | done | rfl | (simp only [List.length_drop, List.length_take]; rfl)) ?_; (with_reducible refine (impl_seal.calls k 5 _ _ y242 t245 _ ?side1 ?side2 A2.out).mono ?_); (case side1 => repeat (first | exact (Kd.R_reads' HO244.out).2.2 | (with_reducible refine Kd.C_alloc ?_ _) | (with_reducible refine Kd.C_drewN ?_ _) | (with_reducible refine Kd.C_drew ?_))); (case side2 => exact (Kd.R_reads' HO244.out).2.1); rintro e w8 ⟨rfl, hb⟩; refine ⟨_, rfl, ?_⟩; have n0_ := Aside0.mk (Kd.R_below (by (with_reducible repeat (first | apply Kd.R_alloc | apply Kd.R_drewN | apply Kd.R_drew)); exact HO244.out) hb); have n1_ := Aside0.mk (blk_below (g := gb241) (o := .cells #[.int .i64 a0_0, .int .i64 a0_1, .int .i64 a0_2, .int .i64 a0_3] 42 (0, 0)) (by (with_reducible repeat (first | refine blk_drewN ?_ _ | refine blk_drew ?_ | refine blk_alloc ?_ _)); exact BK241.out) hb); have n2_ := Aside0.mk (below_step (by repeat (first | (with_reducible first | exact HB.out | apply below_alloc | apply pw_below_drewN | apply below_drew1 | refine below_set ?_ GE241.out) | exact HB.out)) hb); clear HO244; clear BK241; clear HB; have HO244 := n0_; have BK241 := n1_; have HB := n2_; clear n0_ n1_ n2_; (try clear hb); (try clear hb2); (try clear hk); (try clear hi)))
  go_ret
  exact ⟨by first | rfl | (simp [errW_none, errW_some] <;> rfl) | (simp [*, errW_none, errW_some] <;> rfl), by repeat (first | (with_reducible first | exact HB.out | apply below_alloc | apply pw_below_drewN | apply below_drew1 | refine below_set ?_ GE241.out) | exact HB.out)⟩
/-! ### impl_EncodeBlock: function 26 -/
def impl_EncodeBlock.f (k : Nat) (a0_0 : Int) (a0_1 : Int) (a0_2 : Int) (a0_3 : Int) : Option (ByteArray × Int) := (impl_BlockOK.f a0_0 a0_1 a0_2 a0_3).bind fun t247 => (if t247 = true then ((impl_Block_text.f k a0_0 a0_1 a0_2 a0_3).bind fun t248 => (some (t248, 0))) else (some ((⟨#[]⟩ : ByteArray), 1)))
theorem impl_EncodeBlock.mono : ∀ a0 a1 a2 a3 k, LeO (impl_EncodeBlock.f k a0 a1 a2 a3) (impl_EncodeBlock.f (k + 1) a0 a1 a2 a3) := by
  intro a0 a1 a2 a3 k
  unfold impl_EncodeBlock.f
  repeat' first
      | (with_reducible exact impl_Block_text.mono _ _ _ _ _)
      | (with_reducible exact LeO.refl _)
      | (with_reducible exact LeO.none _)
      | (with_reducible refine LeO.ite ?_ ?_)
      | (with_reducible refine LeO.bind ?_ (fun _ => ?_))
      | exact impl_Block_text.mono _ _ _ _ _
      | exact LeO.none _
      | refine LeO.ite ?_ ?_
      | refine LeO.bind ?_ (fun _ => ?_)
set_option maxHeartbeats 8000000 in
set_option maxRecDepth 100000 in
theorem impl_EncodeBlock.calls (k : Nat) (a0_0 : Int) (a0_1 : Int) (a0_2 : Int) (a0_3 : Int) (r1 : ByteArray) (r2 : Int) (w : World) (h : impl_EncodeBlock.f k a0_0 a0_1 a0_2 a0_3 = some (r1, r2)) :
    Calls Try.prog 26 #[.agg #[.int .i64 a0_0, .int .i64 a0_1, .int .i64 a0_2, .int .i64 a0_3]] w fun e w' => e = .returned (.tuple #[.string r1, .int .i64 r2]) ∧ Below w.heap.size w w' := by
  have hu42 := Try.underlying42
  have HB := Aside0.mk (Below.refl w.heap.size w)
  have H : ((impl_BlockOK.f a0_0 a0_1 a0_2 a0_3).bind fun t247 => (if t247 = true then ((impl_Block_text.f k a0_0 a0_1 a0_2 a0_3).bind fun t248 => (some (t248, 0))) else (some ((⟨#[]⟩ : ByteArray), 1)))) = some (r1, r2) := h
  clear h
  replace H := Option.bind_eq_some_iff.mp H
  obtain ⟨t247, A20, H⟩ := H
  replace H : (if t247 = true then ((impl_Block_text.f k a0_0 a0_1 a0_2 a0_3).bind fun t248 => (some (t248, 0))) else (some ((⟨#[]⟩ : ByteArray), 1))) = some (r1, r2) := H
  have A2 := Aside0.mk A20
  clear A20
  by_cases c3 : t247 = true
  · subst c3
    have H1 : ((impl_Block_text.f k a0_0 a0_1 a0_2 a0_3).bind fun t248 => (some (t248, 0))) = some (r1, r2) := by rw [if_pos rfl] at H; exact H
    clear H
    have H := H1
    clear H1
    replace H := Option.bind_eq_some_iff.mp H
    obtain ⟨t248, A40, H⟩ := H
    replace H : (some (t248, 0)) = some (r1, r2) := H
    have A4 := Aside0.mk A40
    clear A40
    simp only [Option.some.injEq, Prod.mk.injEq] at H
    obtain ⟨rfl, rfl⟩ := H
    go_enter Try.func26, Try.ntmps26
    go_wp2_with (first | ((with_reducible refine gate_dst (N := 1) rfl ?_); refine box_event ?hg (N := 1) ?hd (cs := #[.int .i64 a0_0, .int .i64 a0_1, .int .i64 a0_2, .int .i64 a0_3]) (t := 42) ?hr ?_; (case hd => rfl); (case hg => rfl); (case hr => first | (go_simp; done) | (go_simp; rfl)); intro gb246 hg w5 hbox hb; have n0_ := Aside0.mk (below_step (by repeat (first | (with_reducible first | exact HB.out | apply below_alloc | apply pw_below_drewN | apply below_drew1) | exact HB.out)) hb); have n1_ := Aside0.mk (hbox); have n2_ := Aside0.mk ((by rw [hg]; exact (below_size (by repeat (first | (with_reducible first | exact HB.out | apply below_alloc | apply pw_below_drewN | apply below_drew1) | exact HB.out))) : w.heap.size ≤ gb246)); have n3_ := Aside0.mk ((by rw [hg]; exact (below_size (by repeat (first | (with_reducible first | exact HB.out | apply below_alloc | apply pw_below_drewN | apply below_drew1) | exact HB.out))) : w.heap.size ≤ gb246)); clear HB; have HB := n0_; have BK246 := n1_; have GW246 := n2_; have GE246 := n3_; clear n0_ n1_ n2_ n3_; clear hb hbox hg; have hcz6_0 : w5.cell? ⟨gb246, 0, none⟩ = some (.int .i64 a0_0) := (blk_cell BK246.out 0).trans rfl; have hcz6_1 : w5.cell? ⟨gb246, 1, none⟩ = some (.int .i64 a0_1) := (blk_cell BK246.out 1).trans rfl; have hcz6_2 : w5.cell? ⟨gb246, 2, none⟩ = some (.int .i64 a0_2) := (blk_cell BK246.out 2).trans rfl; have hcz6_3 : w5.cell? ⟨gb246, 3, none⟩ = some (.int .i64 a0_3) := (blk_cell BK246.out 3).trans rfl; have hfz6_0 := blk_frozen BK246.out 0; have hfz6_1 := blk_frozen BK246.out 1; have hfz6_2 := blk_frozen BK246.out 2; have hfz6_3 := blk_frozen BK246.out 3) | ((with_reducible refine gate_callee (f := 50) rfl ?_); refine goesL_ (some 5) rfl rfl Try.func50 (by kernel_rfl) rfl #[.agg #[.int .i64 a0_0, .int .i64 a0_1, .int .i64 a0_2, .int .i64 a0_3]] rfl (by (try simp only [List.map_toArray, List.map_cons, List.map_nil]); first | done | rfl | (simp only [List.length_drop, List.length_take]; rfl)) ?_; (with_reducible refine (impl_BlockOK.calls a0_0 a0_1 a0_2 a0_3 true _ A2.out).mono ?_); rintro e w7 ⟨rfl, hb⟩; refine ⟨_, rfl, ?_⟩; have n0_ := Aside0.mk (blk_below (g := gb246) (o := .cells #[.int .i64 a0_0, .int .i64 a0_1, .int .i64 a0_2, .int .i64 a0_3] 42 (0, 0)) (by (with_reducible repeat (first | refine blk_drewN ?_ _ | refine blk_drew ?_ | refine blk_alloc ?_ _)); exact BK246.out) hb); have n1_ := Aside0.mk (below_step (by repeat (first | (with_reducible first | exact HB.out | apply below_alloc | apply pw_below_drewN | apply below_drew1 | refine below_set ?_ GE246.out) | exact HB.out)) hb); clear BK246; clear HB; have BK246 := n0_; have HB := n1_; clear n0_ n1_; (try clear hb); (try clear hb2); (try clear hk); (try clear hi); have hcz8_0 : w7.cell? ⟨gb246, 0, none⟩ = some (.int .i64 a0_0) := (blk_cell BK246.out 0).trans rfl; have hcz8_1 : w7.cell? ⟨gb246, 1, none⟩ = some (.int .i64 a0_1) := (blk_cell BK246.out 1).trans rfl; have hcz8_2 : w7.cell? ⟨gb246, 2, none⟩ = some (.int .i64 a0_2) := (blk_cell BK246.out 2).trans rfl; have hcz8_3 : w7.cell? ⟨gb246, 3, none⟩ = some (.int .i64 a0_3) := (blk_cell BK246.out 3).trans rfl; have hfz8_0 := blk_frozen BK246.out 0; have hfz8_1 := blk_frozen BK246.out 1; have hfz8_2 := blk_frozen BK246.out 2; have hfz8_3 := blk_frozen BK246.out 3) | ((with_reducible refine gate_callee (f := 72) rfl ?_); refine goesL_ (some 8) rfl rfl Try.func72 (by kernel_rfl) rfl #[.agg #[.int .i64 a0_0, .int .i64 a0_1, .int .i64 a0_2, .int .i64 a0_3]] rfl (by (try simp only [List.map_toArray, List.map_cons, List.map_nil]); first | done | rfl | (simp only [List.length_drop, List.length_take]; rfl)) ?_; (with_reducible refine (impl_Block_text.calls k a0_0 a0_1 a0_2 a0_3 t248 _ A4.out).mono ?_); rintro e w9 ⟨rfl, hb⟩; refine ⟨_, rfl, ?_⟩; have n0_ := Aside0.mk (blk_below (g := gb246) (o := .cells #[.int .i64 a0_0, .int .i64 a0_1, .int .i64 a0_2, .int .i64 a0_3] 42 (0, 0)) (by (with_reducible repeat (first | refine blk_drewN ?_ _ | refine blk_drew ?_ | refine blk_alloc ?_ _)); exact BK246.out) hb); have n1_ := Aside0.mk (below_step (by repeat (first | (with_reducible first | exact HB.out | apply below_alloc | apply pw_below_drewN | apply below_drew1 | refine below_set ?_ GE246.out) | exact HB.out)) hb); clear BK246; clear HB; have BK246 := n0_; have HB := n1_; clear n0_ n1_; (try clear hb); (try clear hb2); (try clear hk); (try clear hi)))
    go_ret2
    exact ⟨by first | rfl | (simp [errW_none, errW_some] <;> rfl) | (simp [*, errW_none, errW_some] <;> rfl), by repeat (first | (with_reducible first | exact HB.out | apply below_alloc | apply pw_below_drewN | apply below_drew1 | refine below_set ?_ GE246.out) | exact HB.out)⟩
  · replace c3 := Bool.eq_false_iff.mpr c3
    subst c3
    have H1 : (some ((⟨#[]⟩ : ByteArray), 1)) = some (r1, r2) := by rw [if_neg (show ¬ (false = true) by decide)] at H; exact H
    clear H
    have H := H1
    clear H1
    simp only [Option.some.injEq, Prod.mk.injEq] at H
    obtain ⟨rfl, rfl⟩ := H
    go_enter Try.func26, Try.ntmps26
    go_wp2_with (first | ((with_reducible refine gate_dst (N := 1) rfl ?_); refine box_event ?hg (N := 1) ?hd (cs := #[.int .i64 a0_0, .int .i64 a0_1, .int .i64 a0_2, .int .i64 a0_3]) (t := 42) ?hr ?_; (case hd => rfl); (case hg => rfl); (case hr => first | (go_simp; done) | (go_simp; rfl)); intro gb246 hg w10 hbox hb; have n0_ := Aside0.mk (below_step (by repeat (first | (with_reducible first | exact HB.out | apply below_alloc | apply pw_below_drewN | apply below_drew1) | exact HB.out)) hb); have n1_ := Aside0.mk (hbox); have n2_ := Aside0.mk ((by rw [hg]; exact (below_size (by repeat (first | (with_reducible first | exact HB.out | apply below_alloc | apply pw_below_drewN | apply below_drew1) | exact HB.out))) : w.heap.size ≤ gb246)); have n3_ := Aside0.mk ((by rw [hg]; exact (below_size (by repeat (first | (with_reducible first | exact HB.out | apply below_alloc | apply pw_below_drewN | apply below_drew1) | exact HB.out))) : w.heap.size ≤ gb246)); clear HB; have HB := n0_; have BK246 := n1_; have GW246 := n2_; have GE246 := n3_; clear n0_ n1_ n2_ n3_; clear hb hbox hg; have hcz11_0 : w10.cell? ⟨gb246, 0, none⟩ = some (.int .i64 a0_0) := (blk_cell BK246.out 0).trans rfl; have hcz11_1 : w10.cell? ⟨gb246, 1, none⟩ = some (.int .i64 a0_1) := (blk_cell BK246.out 1).trans rfl; have hcz11_2 : w10.cell? ⟨gb246, 2, none⟩ = some (.int .i64 a0_2) := (blk_cell BK246.out 2).trans rfl; have hcz11_3 : w10.cell? ⟨gb246, 3, none⟩ = some (.int .i64 a0_3) := (blk_cell BK246.out 3).trans rfl; have hfz11_0 := blk_frozen BK246.out 0; have hfz11_1 := blk_frozen BK246.out 1; have hfz11_2 := blk_frozen BK246.out 2; have hfz11_3 := blk_frozen BK246.out 3) | ((with_reducible refine gate_callee (f := 50) rfl ?_); refine goesL_ (some 5) rfl rfl Try.func50 (by kernel_rfl) rfl #[.agg #[.int .i64 a0_0, .int .i64 a0_1, .int .i64 a0_2, .int .i64 a0_3]] rfl (by (try simp only [List.map_toArray, List.map_cons, List.map_nil]); first | done | rfl | (simp only [List.length_drop, List.length_take]; rfl)) ?_; (with_reducible refine (impl_BlockOK.calls a0_0 a0_1 a0_2 a0_3 false _ A2.out).mono ?_); rintro e w12 ⟨rfl, hb⟩; refine ⟨_, rfl, ?_⟩; have n0_ := Aside0.mk (blk_below (g := gb246) (o := .cells #[.int .i64 a0_0, .int .i64 a0_1, .int .i64 a0_2, .int .i64 a0_3] 42 (0, 0)) (by (with_reducible repeat (first | refine blk_drewN ?_ _ | refine blk_drew ?_ | refine blk_alloc ?_ _)); exact BK246.out) hb); have n1_ := Aside0.mk (below_step (by repeat (first | (with_reducible first | exact HB.out | apply below_alloc | apply pw_below_drewN | apply below_drew1 | refine below_set ?_ GE246.out) | exact HB.out)) hb); clear BK246; clear HB; have BK246 := n0_; have HB := n1_; clear n0_ n1_; (try clear hb); (try clear hb2); (try clear hk); (try clear hi)))
    go_ret2
    exact ⟨by first | rfl | (simp [errW_none, errW_some] <;> rfl) | (simp [*, errW_none, errW_some] <;> rfl), by repeat (first | (with_reducible first | exact HB.out | apply below_alloc | apply pw_below_drewN | apply below_drew1 | refine below_set ?_ GE246.out) | exact HB.out)⟩
/-! ### spec_l05Encode: function 71 -/
def spec_l05Encode.f (k : Nat) (a0_0 : Int) (a0_1 : Int) (a0_2 : Int) (a0_3 : Int) : Option (ByteArray) := (spec_l02Seal.f k 5 (([a0_0, a0_1, a0_2, a0_3] : List Int))).bind fun t227 => (some t227)
theorem spec_l05Encode.mono : ∀ a0 a1 a2 a3 k, LeO (spec_l05Encode.f k a0 a1 a2 a3) (spec_l05Encode.f (k + 1) a0 a1 a2 a3) := by
  intro a0 a1 a2 a3 k
  unfold spec_l05Encode.f
  repeat' first
      | (with_reducible exact spec_l02Seal.mono _ _ _)
      | (with_reducible exact LeO.refl _)
      | (with_reducible exact LeO.none _)
      | (with_reducible refine LeO.ite ?_ ?_)
      | (with_reducible refine LeO.bind ?_ (fun _ => ?_))
      | exact spec_l02Seal.mono _ _ _
      | exact LeO.none _
      | refine LeO.ite ?_ ?_
      | refine LeO.bind ?_ (fun _ => ?_)
set_option maxHeartbeats 8000000 in
set_option maxRecDepth 100000 in
theorem spec_l05Encode.calls (k : Nat) (a0_0 : Int) (a0_1 : Int) (a0_2 : Int) (a0_3 : Int) (r : ByteArray) (w : World) (h : spec_l05Encode.f k a0_0 a0_1 a0_2 a0_3 = some r) :
    Calls Try.prog 71 #[.agg #[.int .i64 a0_0, .int .i64 a0_1, .int .i64 a0_2, .int .i64 a0_3]] w fun e w' => e = .returned (.string r) ∧ Below w.heap.size w w' := by
  have hu42 := Try.underlying42
  have HB := Aside0.mk (Below.refl w.heap.size w)
  have H : ((spec_l02Seal.f k 5 (([a0_0, a0_1, a0_2, a0_3] : List Int))).bind fun t227 => (some t227)) = some r := h
  clear h
  obtain ⟨y224, hy224⟩ : ∃ y_ : List Int, y_ = (([a0_0, a0_1, a0_2, a0_3] : List Int)) := ⟨_, rfl⟩
  replace H : ((spec_l02Seal.f k 5 y224).bind fun t227 => (some t227)) = some r := by first | (rw [hy224]; with_reducible exact H) | (have H2_ := (Option.bind_some _ _).symm.trans H; rw [hy224]; with_reducible exact H2_) | (have H2_ := (Option.bind_some _ _).symm.trans H; with_reducible exact H2_) | with_reducible exact H | (rw [hy224]; exact H) | exact H
  have Ny224 := Aside0.mk hy224
  clear hy224
  replace H := Option.bind_eq_some_iff.mp H
  obtain ⟨t227, A20, H⟩ := H
  replace H : (some t227) = some r := H
  have A2 := Aside0.mk A20
  clear A20
  obtain rfl := Option.some.inj H
  go_enter Try.func71, Try.ntmps71
  go_wp2_with (first | ((with_reducible refine gate_dst (N := 1) rfl ?_); refine box_event ?hg (N := 1) ?hd (cs := #[.int .i64 a0_0, .int .i64 a0_1, .int .i64 a0_2, .int .i64 a0_3]) (t := 42) ?hr ?_; (case hd => rfl); (case hg => rfl); (case hr => first | (go_simp; done) | (go_simp; rfl)); intro gb223 hg w3 hbox hb; have n0_ := Aside0.mk (below_step (by repeat (first | (with_reducible first | exact HB.out | apply below_alloc | apply pw_below_drewN | apply below_drew1) | exact HB.out)) hb); have n1_ := Aside0.mk (hbox); have n2_ := Aside0.mk ((by rw [hg]; exact (below_size (by repeat (first | (with_reducible first | exact HB.out | apply below_alloc | apply pw_below_drewN | apply below_drew1) | exact HB.out))) : w.heap.size ≤ gb223)); have n3_ := Aside0.mk ((by rw [hg]; exact (below_size (by repeat (first | (with_reducible first | exact HB.out | apply below_alloc | apply pw_below_drewN | apply below_drew1) | exact HB.out))) : w.heap.size ≤ gb223)); clear HB; have HB := n0_; have BK223 := n1_; have GW223 := n2_; have GE223 := n3_; clear n0_ n1_ n2_ n3_; clear hb hbox hg; have hcz4_0 : w3.cell? ⟨gb223, 0, none⟩ = some (.int .i64 a0_0) := (blk_cell BK223.out 0).trans rfl; have hcz4_1 : w3.cell? ⟨gb223, 1, none⟩ = some (.int .i64 a0_1) := (blk_cell BK223.out 1).trans rfl; have hcz4_2 : w3.cell? ⟨gb223, 2, none⟩ = some (.int .i64 a0_2) := (blk_cell BK223.out 2).trans rfl; have hcz4_3 : w3.cell? ⟨gb223, 3, none⟩ = some (.int .i64 a0_3) := (blk_cell BK223.out 3).trans rfl; have hfz4_0 := blk_frozen BK223.out 0; have hfz4_1 := blk_frozen BK223.out 1; have hfz4_2 := blk_frozen BK223.out 2; have hfz4_3 := blk_frozen BK223.out 3) | ((with_reducible refine gate_dst (N := 11) rfl ?_); refine Kd.R_lit (Kd.int .i64) _ 3 ?hg (N := 11) ?hd (xs := ([a0_0, a0_1, a0_2, a0_3] : List Int)) (inner := [.int .i64 a0_0, .int .i64 a0_1, .int .i64 a0_2, .int .i64 a0_3]) (ok := fun _ => True) (okp := fun _ => True) ?hr ?hp (fun _ hk => hk) trivial (Below.refl _ _) (Nat.le_refl _) (by simp) ?_; (case hd => rfl); (case hg => rfl); (case hr => first | (go_simp; done) | (go_simp; rfl)); (case hp => exact (Reps.one (show Kd.M (Kd.int .i64) _ _ _ a0_0 [.int .i64 a0_0] from rfl) (Reps.one (show Kd.M (Kd.int .i64) _ _ _ a0_1 [.int .i64 a0_1] from rfl) (Reps.one (show Kd.M (Kd.int .i64) _ _ _ a0_2 [.int .i64 a0_2] from rfl) (Reps.one (show Kd.M (Kd.int .i64) _ _ _ a0_3 [.int .i64 a0_3] from rfl) (Reps.none _ _)))))); intro v225 w5 ho6 hb hg_ hnew_; clear hg_ hnew_; (first | rw [← Ny224.out] at ho6 | (simp only [Int.reduceToNat] at ho6; rw [← Ny224.out] at ho6)); have n0_ := Aside0.mk (Kd.R_lower ho6 (below_size (by repeat (first | (with_reducible first | exact HB.out | apply below_alloc | apply pw_below_drewN | apply below_drew1 | refine below_set ?_ GE223.out) | exact HB.out)))); have n1_ := Aside0.mk (blk_below (g := gb223) (o := .cells #[.int .i64 a0_0, .int .i64 a0_1, .int .i64 a0_2, .int .i64 a0_3] 42 (0, 0)) (by (with_reducible repeat (first | refine blk_drewN ?_ _ | refine blk_drew ?_ | refine blk_alloc ?_ _)); exact BK223.out) hb); have n2_ := Aside0.mk (below_step (by repeat (first | (with_reducible first | exact HB.out | apply below_alloc | apply pw_below_drewN | apply below_drew1 | refine below_set ?_ GE223.out) | exact HB.out)) hb); clear BK223; clear HB; have HO226 := n0_; have BK223 := n1_; have HB := n2_; clear n0_ n1_ n2_; clear hb ho6; obtain ⟨Ao7, co7, eo7⟩ := Kd.R_slice HO226.out; subst eo7) | ((with_reducible refine gate_callee (f := 106) rfl ?_); refine goesL_ (some 12) rfl rfl Try.func106 (by kernel_rfl) rfl #[.int .i64 5, .slice Ao7 y224.length co7] rfl (by (try simp only [List.map_toArray, List.map_cons, List.map_nil]); first | done | rfl | (simp only [List.length_drop, List.length_take]; rfl)) ?_; (with_reducible refine (spec_l02Seal.calls k 5 _ _ y224 t227 _ ?side1 ?side2 A2.out).mono ?_); (case side1 => repeat (first | exact (Kd.R_reads' HO226.out).2.2 | (with_reducible refine Kd.C_alloc ?_ _) | (with_reducible refine Kd.C_drewN ?_ _) | (with_reducible refine Kd.C_drew ?_))); (case side2 => exact (Kd.R_reads' HO226.out).2.1); rintro e w8 ⟨rfl, hb⟩; refine ⟨_, rfl, ?_⟩; have n0_ := Aside0.mk (Kd.R_below (by (with_reducible repeat (first | apply Kd.R_alloc | apply Kd.R_drewN | apply Kd.R_drew)); exact HO226.out) hb); have n1_ := Aside0.mk (blk_below (g := gb223) (o := .cells #[.int .i64 a0_0, .int .i64 a0_1, .int .i64 a0_2, .int .i64 a0_3] 42 (0, 0)) (by (with_reducible repeat (first | refine blk_drewN ?_ _ | refine blk_drew ?_ | refine blk_alloc ?_ _)); exact BK223.out) hb); have n2_ := Aside0.mk (below_step (by repeat (first | (with_reducible first | exact HB.out | apply below_alloc | apply pw_below_drewN | apply below_drew1 | refine below_set ?_ GE223.out) | exact HB.out)) hb); clear HO226; clear BK223; clear HB; have HO226 := n0_; have BK223 := n1_; have HB := n2_; clear n0_ n1_ n2_; (try clear hb); (try clear hb2); (try clear hk); (try clear hi)))
  go_ret
  exact ⟨by first | rfl | (simp [errW_none, errW_some] <;> rfl) | (simp [*, errW_none, errW_some] <;> rfl), by repeat (first | (with_reducible first | exact HB.out | apply below_alloc | apply pw_below_drewN | apply below_drew1 | refine below_set ?_ GE223.out) | exact HB.out)⟩
/-! ### spec_EncodeBlock: function 24 -/
def spec_EncodeBlock.f (k : Nat) (a0_0 : Int) (a0_1 : Int) (a0_2 : Int) (a0_3 : Int) : Option (ByteArray × Int) := (spec_BlockOK.f a0_0 a0_1 a0_2 a0_3).bind fun t229 => (if t229 = true then ((spec_l05Encode.f k a0_0 a0_1 a0_2 a0_3).bind fun t230 => (some (t230, 0))) else (some ((⟨#[]⟩ : ByteArray), 1)))
theorem spec_EncodeBlock.mono : ∀ a0 a1 a2 a3 k, LeO (spec_EncodeBlock.f k a0 a1 a2 a3) (spec_EncodeBlock.f (k + 1) a0 a1 a2 a3) := by
  intro a0 a1 a2 a3 k
  unfold spec_EncodeBlock.f
  repeat' first
      | (with_reducible exact spec_l05Encode.mono _ _ _ _ _)
      | (with_reducible exact LeO.refl _)
      | (with_reducible exact LeO.none _)
      | (with_reducible refine LeO.ite ?_ ?_)
      | (with_reducible refine LeO.bind ?_ (fun _ => ?_))
      | exact spec_l05Encode.mono _ _ _ _ _
      | exact LeO.none _
      | refine LeO.ite ?_ ?_
      | refine LeO.bind ?_ (fun _ => ?_)
set_option maxHeartbeats 8000000 in
set_option maxRecDepth 100000 in
theorem spec_EncodeBlock.calls (k : Nat) (a0_0 : Int) (a0_1 : Int) (a0_2 : Int) (a0_3 : Int) (r1 : ByteArray) (r2 : Int) (w : World) (h : spec_EncodeBlock.f k a0_0 a0_1 a0_2 a0_3 = some (r1, r2)) :
    Calls Try.prog 24 #[.agg #[.int .i64 a0_0, .int .i64 a0_1, .int .i64 a0_2, .int .i64 a0_3]] w fun e w' => e = .returned (.tuple #[.string r1, .int .i64 r2]) ∧ Below w.heap.size w w' := by
  have hu42 := Try.underlying42
  have HB := Aside0.mk (Below.refl w.heap.size w)
  have H : ((spec_BlockOK.f a0_0 a0_1 a0_2 a0_3).bind fun t229 => (if t229 = true then ((spec_l05Encode.f k a0_0 a0_1 a0_2 a0_3).bind fun t230 => (some (t230, 0))) else (some ((⟨#[]⟩ : ByteArray), 1)))) = some (r1, r2) := h
  clear h
  replace H := Option.bind_eq_some_iff.mp H
  obtain ⟨t229, A20, H⟩ := H
  replace H : (if t229 = true then ((spec_l05Encode.f k a0_0 a0_1 a0_2 a0_3).bind fun t230 => (some (t230, 0))) else (some ((⟨#[]⟩ : ByteArray), 1))) = some (r1, r2) := H
  have A2 := Aside0.mk A20
  clear A20
  by_cases c3 : t229 = true
  · subst c3
    have H1 : ((spec_l05Encode.f k a0_0 a0_1 a0_2 a0_3).bind fun t230 => (some (t230, 0))) = some (r1, r2) := by rw [if_pos rfl] at H; exact H
    clear H
    have H := H1
    clear H1
    replace H := Option.bind_eq_some_iff.mp H
    obtain ⟨t230, A40, H⟩ := H
    replace H : (some (t230, 0)) = some (r1, r2) := H
    have A4 := Aside0.mk A40
    clear A40
    simp only [Option.some.injEq, Prod.mk.injEq] at H
    obtain ⟨rfl, rfl⟩ := H
    go_enter Try.func24, Try.ntmps24
    go_wp2_with (first | ((with_reducible refine gate_dst (N := 1) rfl ?_); refine box_event ?hg (N := 1) ?hd (cs := #[.int .i64 a0_0, .int .i64 a0_1, .int .i64 a0_2, .int .i64 a0_3]) (t := 42) ?hr ?_; (case hd => rfl); (case hg => rfl); (case hr => first | (go_simp; done) | (go_simp; rfl)); intro gb228 hg w5 hbox hb; have n0_ := Aside0.mk (below_step (by repeat (first | (with_reducible first | exact HB.out | apply below_alloc | apply pw_below_drewN | apply below_drew1) | exact HB.out)) hb); have n1_ := Aside0.mk (hbox); have n2_ := Aside0.mk ((by rw [hg]; exact (below_size (by repeat (first | (with_reducible first | exact HB.out | apply below_alloc | apply pw_below_drewN | apply below_drew1) | exact HB.out))) : w.heap.size ≤ gb228)); have n3_ := Aside0.mk ((by rw [hg]; exact (below_size (by repeat (first | (with_reducible first | exact HB.out | apply below_alloc | apply pw_below_drewN | apply below_drew1) | exact HB.out))) : w.heap.size ≤ gb228)); clear HB; have HB := n0_; have BK228 := n1_; have GW228 := n2_; have GE228 := n3_; clear n0_ n1_ n2_ n3_; clear hb hbox hg; have hcz6_0 : w5.cell? ⟨gb228, 0, none⟩ = some (.int .i64 a0_0) := (blk_cell BK228.out 0).trans rfl; have hcz6_1 : w5.cell? ⟨gb228, 1, none⟩ = some (.int .i64 a0_1) := (blk_cell BK228.out 1).trans rfl; have hcz6_2 : w5.cell? ⟨gb228, 2, none⟩ = some (.int .i64 a0_2) := (blk_cell BK228.out 2).trans rfl; have hcz6_3 : w5.cell? ⟨gb228, 3, none⟩ = some (.int .i64 a0_3) := (blk_cell BK228.out 3).trans rfl; have hfz6_0 := blk_frozen BK228.out 0; have hfz6_1 := blk_frozen BK228.out 1; have hfz6_2 := blk_frozen BK228.out 2; have hfz6_3 := blk_frozen BK228.out 3) | ((with_reducible refine gate_callee (f := 70) rfl ?_); refine goesL_ (some 5) rfl rfl Try.func70 (by kernel_rfl) rfl #[.agg #[.int .i64 a0_0, .int .i64 a0_1, .int .i64 a0_2, .int .i64 a0_3]] rfl (by (try simp only [List.map_toArray, List.map_cons, List.map_nil]); first | done | rfl | (simp only [List.length_drop, List.length_take]; rfl)) ?_; (with_reducible refine (spec_BlockOK.calls a0_0 a0_1 a0_2 a0_3 true _ A2.out).mono ?_); rintro e w7 ⟨rfl, hb⟩; refine ⟨_, rfl, ?_⟩; have n0_ := Aside0.mk (blk_below (g := gb228) (o := .cells #[.int .i64 a0_0, .int .i64 a0_1, .int .i64 a0_2, .int .i64 a0_3] 42 (0, 0)) (by (with_reducible repeat (first | refine blk_drewN ?_ _ | refine blk_drew ?_ | refine blk_alloc ?_ _)); exact BK228.out) hb); have n1_ := Aside0.mk (below_step (by repeat (first | (with_reducible first | exact HB.out | apply below_alloc | apply pw_below_drewN | apply below_drew1 | refine below_set ?_ GE228.out) | exact HB.out)) hb); clear BK228; clear HB; have BK228 := n0_; have HB := n1_; clear n0_ n1_; (try clear hb); (try clear hb2); (try clear hk); (try clear hi); have hcz8_0 : w7.cell? ⟨gb228, 0, none⟩ = some (.int .i64 a0_0) := (blk_cell BK228.out 0).trans rfl; have hcz8_1 : w7.cell? ⟨gb228, 1, none⟩ = some (.int .i64 a0_1) := (blk_cell BK228.out 1).trans rfl; have hcz8_2 : w7.cell? ⟨gb228, 2, none⟩ = some (.int .i64 a0_2) := (blk_cell BK228.out 2).trans rfl; have hcz8_3 : w7.cell? ⟨gb228, 3, none⟩ = some (.int .i64 a0_3) := (blk_cell BK228.out 3).trans rfl; have hfz8_0 := blk_frozen BK228.out 0; have hfz8_1 := blk_frozen BK228.out 1; have hfz8_2 := blk_frozen BK228.out 2; have hfz8_3 := blk_frozen BK228.out 3) | ((with_reducible refine gate_callee (f := 71) rfl ?_); refine goesL_ (some 8) rfl rfl Try.func71 (by kernel_rfl) rfl #[.agg #[.int .i64 a0_0, .int .i64 a0_1, .int .i64 a0_2, .int .i64 a0_3]] rfl (by (try simp only [List.map_toArray, List.map_cons, List.map_nil]); first | done | rfl | (simp only [List.length_drop, List.length_take]; rfl)) ?_; (with_reducible refine (spec_l05Encode.calls k a0_0 a0_1 a0_2 a0_3 t230 _ A4.out).mono ?_); rintro e w9 ⟨rfl, hb⟩; refine ⟨_, rfl, ?_⟩; have n0_ := Aside0.mk (blk_below (g := gb228) (o := .cells #[.int .i64 a0_0, .int .i64 a0_1, .int .i64 a0_2, .int .i64 a0_3] 42 (0, 0)) (by (with_reducible repeat (first | refine blk_drewN ?_ _ | refine blk_drew ?_ | refine blk_alloc ?_ _)); exact BK228.out) hb); have n1_ := Aside0.mk (below_step (by repeat (first | (with_reducible first | exact HB.out | apply below_alloc | apply pw_below_drewN | apply below_drew1 | refine below_set ?_ GE228.out) | exact HB.out)) hb); clear BK228; clear HB; have BK228 := n0_; have HB := n1_; clear n0_ n1_; (try clear hb); (try clear hb2); (try clear hk); (try clear hi)))
    go_ret2
    exact ⟨by first | rfl | (simp [errW_none, errW_some] <;> rfl) | (simp [*, errW_none, errW_some] <;> rfl), by repeat (first | (with_reducible first | exact HB.out | apply below_alloc | apply pw_below_drewN | apply below_drew1 | refine below_set ?_ GE228.out) | exact HB.out)⟩
  · replace c3 := Bool.eq_false_iff.mpr c3
    subst c3
    have H1 : (some ((⟨#[]⟩ : ByteArray), 1)) = some (r1, r2) := by rw [if_neg (show ¬ (false = true) by decide)] at H; exact H
    clear H
    have H := H1
    clear H1
    simp only [Option.some.injEq, Prod.mk.injEq] at H
    obtain ⟨rfl, rfl⟩ := H
    go_enter Try.func24, Try.ntmps24
    go_wp2_with (first | ((with_reducible refine gate_dst (N := 1) rfl ?_); refine box_event ?hg (N := 1) ?hd (cs := #[.int .i64 a0_0, .int .i64 a0_1, .int .i64 a0_2, .int .i64 a0_3]) (t := 42) ?hr ?_; (case hd => rfl); (case hg => rfl); (case hr => first | (go_simp; done) | (go_simp; rfl)); intro gb228 hg w10 hbox hb; have n0_ := Aside0.mk (below_step (by repeat (first | (with_reducible first | exact HB.out | apply below_alloc | apply pw_below_drewN | apply below_drew1) | exact HB.out)) hb); have n1_ := Aside0.mk (hbox); have n2_ := Aside0.mk ((by rw [hg]; exact (below_size (by repeat (first | (with_reducible first | exact HB.out | apply below_alloc | apply pw_below_drewN | apply below_drew1) | exact HB.out))) : w.heap.size ≤ gb228)); have n3_ := Aside0.mk ((by rw [hg]; exact (below_size (by repeat (first | (with_reducible first | exact HB.out | apply below_alloc | apply pw_below_drewN | apply below_drew1) | exact HB.out))) : w.heap.size ≤ gb228)); clear HB; have HB := n0_; have BK228 := n1_; have GW228 := n2_; have GE228 := n3_; clear n0_ n1_ n2_ n3_; clear hb hbox hg; have hcz11_0 : w10.cell? ⟨gb228, 0, none⟩ = some (.int .i64 a0_0) := (blk_cell BK228.out 0).trans rfl; have hcz11_1 : w10.cell? ⟨gb228, 1, none⟩ = some (.int .i64 a0_1) := (blk_cell BK228.out 1).trans rfl; have hcz11_2 : w10.cell? ⟨gb228, 2, none⟩ = some (.int .i64 a0_2) := (blk_cell BK228.out 2).trans rfl; have hcz11_3 : w10.cell? ⟨gb228, 3, none⟩ = some (.int .i64 a0_3) := (blk_cell BK228.out 3).trans rfl; have hfz11_0 := blk_frozen BK228.out 0; have hfz11_1 := blk_frozen BK228.out 1; have hfz11_2 := blk_frozen BK228.out 2; have hfz11_3 := blk_frozen BK228.out 3) | ((with_reducible refine gate_callee (f := 70) rfl ?_); refine goesL_ (some 5) rfl rfl Try.func70 (by kernel_rfl) rfl #[.agg #[.int .i64 a0_0, .int .i64 a0_1, .int .i64 a0_2, .int .i64 a0_3]] rfl (by (try simp only [List.map_toArray, List.map_cons, List.map_nil]); first | done | rfl | (simp only [List.length_drop, List.length_take]; rfl)) ?_; (with_reducible refine (spec_BlockOK.calls a0_0 a0_1 a0_2 a0_3 false _ A2.out).mono ?_); rintro e w12 ⟨rfl, hb⟩; refine ⟨_, rfl, ?_⟩; have n0_ := Aside0.mk (blk_below (g := gb228) (o := .cells #[.int .i64 a0_0, .int .i64 a0_1, .int .i64 a0_2, .int .i64 a0_3] 42 (0, 0)) (by (with_reducible repeat (first | refine blk_drewN ?_ _ | refine blk_drew ?_ | refine blk_alloc ?_ _)); exact BK228.out) hb); have n1_ := Aside0.mk (below_step (by repeat (first | (with_reducible first | exact HB.out | apply below_alloc | apply pw_below_drewN | apply below_drew1 | refine below_set ?_ GE228.out) | exact HB.out)) hb); clear BK228; clear HB; have BK228 := n0_; have HB := n1_; clear n0_ n1_; (try clear hb); (try clear hb2); (try clear hk); (try clear hi)))
    go_ret2
    exact ⟨by first | rfl | (simp [errW_none, errW_some] <;> rfl) | (simp [*, errW_none, errW_some] <;> rfl), by repeat (first | (with_reducible first | exact HB.out | apply below_alloc | apply pw_below_drewN | apply below_drew1 | refine below_set ?_ GE228.out) | exact HB.out)⟩
/-! ### Block -/
def blockOK (a b c d : Int) : Bool := inB a 0 1000000 && (inB b 0 1000000 && (inB c 0 b && (inB d 0 2147483647 && (decide (c > 0) || d == 0))))
theorem or_opt (c d : Int) : (if c > 0 then some true else some (d == 0)) = some (decide (c > 0) || d == 0) := by
  by_cases h : c > 0 <;> simp [h]
theorem spec_BlockOK_eq (a b c d : Int) : spec_BlockOK.f a b c d = some (blockOK a b c d) := by
  simp only [spec_BlockOK.f, l01In_eq, Option.bind_some]
  exact and_opt (and_opt (and_opt (and_opt (or_opt c d))))
theorem impl_BlockOK_eq (a b c d : Int) : impl_BlockOK.f a b c d = some (blockOK a b c d) := by
  simp only [impl_BlockOK.f, impl_isVer.f, impl_isNumber.f, within_eq, Option.bind_some]
  exact and_opt (and_opt (and_opt (and_opt (or_opt c d))))
theorem spec_EncodeBlock_ev (a b c d : Int) : Ev (fun k => spec_EncodeBlock.f k a b c d) (if blockOK a b c d = true then (sealP 5 [a, b, c, d], 0) else ((⟨#[]⟩ : ByteArray), 1)) := by
  unfold spec_EncodeBlock.f spec_l05Encode.f
  simp only [spec_BlockOK_eq, Option.bind_some]
  cases blockOK a b c d
  · exact ev_some _
  · simp only [if_true]
    exact ev_bind (ev_bind (spec_seal_ev 5 [a, b, c, d] (by simp)) (ev_some _)) (ev_some _)
theorem impl_EncodeBlock_ev (a b c d : Int) : Ev (fun k => impl_EncodeBlock.f k a b c d) (if blockOK a b c d = true then (sealP 5 [a, b, c, d], 0) else ((⟨#[]⟩ : ByteArray), 1)) := by
  unfold impl_EncodeBlock.f impl_Block_text.f
  simp only [impl_BlockOK_eq, Option.bind_some]
  cases blockOK a b c d
  · exact ev_some _
  · simp only [if_true]
    exact ev_bind (ev_bind (impl_seal_ev 5 [a, b, c, d] (by simp)) (ev_some _)) (ev_some _)
/-! ### BlockD -/
def isBlock (t : ByteArray) : Bool := recOK t 5 && (decide ((recNums t).length = 4) && blockOK (rd (recNums t) 0) (rd (recNums t) 1) (rd (recNums t) 2) (rd (recNums t) 3))
def blockAt (t : ByteArray) : Int × Int × Int × Int × Bool := if isBlock t = true then (rd (recNums t) 0, rd (recNums t) 1, rd (recNums t) 2, rd (recNums t) 3, true) else (0, 0, 0, 0, false)
theorem spec_l05Decode_ev (t : ByteArray) (ht : t.size ≤ 1000000000) : Ev (fun k => spec_l05Decode.f k t) (blockAt t) := by
  unfold spec_l05Decode.f
  refine ev_bind (spec_open_ev t 5 ht) ?_
  unfold blockAt isBlock
  by_cases h1 : recOK t 5 = true
  · simp only [h1, if_true, Bool.true_and]
    by_cases h2 : (recNums t).length = 4
    · have e : (((recNums t).length : Int) != 4) = false := by simp [h2]
      simp only [e, decide_eq_true h2, Bool.true_and]
      refine Ev.step (f := fun _ => if blockOK (rd (recNums t) 0) (rd (recNums t) 1) (rd (recNums t) 2) (rd (recNums t) 3) = true then some (rd (recNums t) 0, rd (recNums t) 1, rd (recNums t) 2, rd (recNums t) 3, true) else some (0, 0, 0, 0, false)) (fun k => ?_) ?_
      · simp only [spec_l05Decode.j0, Bool.false_eq_true, if_false, spec_BlockOK_eq, Option.bind_some]
        rw [if_pos (by omega), if_pos (by omega), if_pos (by omega), if_pos (by omega)]
      · cases blockOK (rd (recNums t) 0) (rd (recNums t) 1) (rd (recNums t) 2) (rd (recNums t) 3)
        · exact ev_some _
        · exact ev_some _
    · have e : (((recNums t).length : Int) != 4) = true := by simp; omega
      simp only [e, decide_eq_false h2, Bool.false_and, Bool.false_eq_true, if_false]
      exact Ev.step (f := fun _ => some (0, 0, 0, 0, false)) (fun k => by simp [spec_l05Decode.j0]) (ev_some _)
  · have h1' : recOK t 5 = false := by simpa using h1
    simp only [h1', Bool.false_and, Bool.false_eq_true, if_false]
    exact Ev.step (f := fun _ => some (0, 0, 0, 0, false)) (fun k => by simp [spec_l05Decode.j0]) (ev_some _)
theorem impl_blockOf_ev (t : ByteArray) (ht : t.size ≤ 1000000000) : Ev (fun k => impl_blockOf.f k t) (blockAt t) := by
  unfold impl_blockOf.f
  refine ev_bind (impl_open_ev t 5 ht) ?_
  unfold blockAt isBlock
  by_cases h1 : recOK t 5 = true
  · simp only [h1, if_true, Bool.true_and, recOK_openL h1]
    by_cases h2 : (recNums t).length = 4
    · refine ev_pos (by omega) (ev_pos (by omega) (ev_pos (by omega) (ev_pos (by omega) (ev_pos (by omega) ?_))))
      simp only [decide_eq_true h2, Bool.true_and, impl_BlockOK_eq, Option.bind_some]
      cases blockOK (rd (recNums t) 0) (rd (recNums t) 1) (rd (recNums t) 2) (rd (recNums t) 3)
      · exact ev_some _
      · exact ev_some _
    · simp only [decide_eq_false h2, Bool.false_and, Bool.false_eq_true, if_false]
      exact ev_neg (by omega) (ev_some _)
  · have h1' : recOK t 5 = false := by simpa using h1
    simp only [h1', Bool.false_and, Bool.false_eq_true, if_false]
    exact ev_some _
/-! ### BlockE -/
def decBlock (t : ByteArray) : Int × Int × Int × Int × Int := if (t.size : Int) > 65536 then (0, 0, 0, 0, 2) else if isBlock t = true then (rd (recNums t) 0, rd (recNums t) 1, rd (recNums t) 2, rd (recNums t) 3, 0) else (0, 0, 0, 0, 3)
theorem spec_DecodeBlock_ev (t : ByteArray) (ht : t.size ≤ 1048576) : Ev (fun k => spec_DecodeBlock.f k t) (decBlock t) := by
  unfold spec_DecodeBlock.f decBlock
  by_cases h1 : (t.size : Int) > 65536
  · rw [if_pos h1]; exact ev_pos h1 (ev_some _)
  · rw [if_neg h1]
    refine ev_neg h1 (ev_bind (spec_l05Decode_ev t (by omega)) ?_)
    unfold blockAt
    cases h2 : isBlock t
    · exact ev_some _
    · exact ev_some _
theorem impl_DecodeBlock_ev (t : ByteArray) (ht : t.size ≤ 1048576) : Ev (fun k => impl_DecodeBlock.f k t) (decBlock t) := by
  unfold impl_DecodeBlock.f decBlock
  refine ev_bind (impl_blockOf_ev t (by omega)) ?_
  simp only [isLongText_eq, Option.bind_some, first2]
  unfold blockAt
  by_cases h1 : (t.size : Int) > 65536
  · simp only [h1, decide_true, if_true]
    exact ev_neg (by omega) (ev_some _)
  · simp only [h1, decide_false, Bool.false_eq_true, if_false]
    cases h2 : isBlock t
    · exact ev_some _
    · exact ev_some _
end Go.Proofs.Ytofobhhbhicfaaa.Q
