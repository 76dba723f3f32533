/- What laws.FnLose reaches, part 6: the functions as Lean functions, the proofs that the program's functions answer so, and plain laws about them. -/
import Derived.Test.YtajflpcihblkfaaKFnLose1
import Derived.Test.YtajflpcihblkfaaKFnLose2
import Derived.Test.YtajflpcihblkfaaKFnLose3
import Derived.Test.YtajflpcihblkfaaKFnLose4
import Derived.Test.YtajflpcihblkfaaKFnLose5
namespace Go.Proofs.Ytajflpcihblkfaa.Q
open Go.RowKit Go.Proofs.Ytajflpcihblkfaa.Ext Go.Proofs.YtajflpcihblkfaaW.PrintWords Go.Proofs.YtajflpcihblkfaaW.PrintLast Go.Proofs.YtajflpcihblkfaaW.PrintMore
attribute [local go_sem] max2_int min2_int max_two min_two max_three min_three max_four min_four   -- for this text's walks alone
set_option linter.unusedVariables false
set_option linter.unusedSimpArgs false

set_option linter.unusedVariables false
set_option linter.unusedSimpArgs false
section
attribute [local go_sem high] eqA92
/-! ### laws_FnLose: function 5 -/
def laws_FnLose.l0 : Nat → Int → Int → Int → Int → List ByteArray → List (S92) → Option (List ByteArray × List (S92))
  | 0, _, _, _, _, _, _ => none
  | k + 1, h, q, n, i, D, P => if i < q then (if i < n then (impl_LandOne.f k D P h).bind fun b => (if b.2.2 = 0 then laws_FnLose.l0 k h q n (wrap64 (i + 1)) b.1 b.2.1 else none) else some (D, P)) else some (D, P)
def laws_FnLose.f (k : Nat) (l0 : List Int) (l1 : List Int) : Option Bool := if (l0.length : Int) > 1048576 then some true else if (l1.length : Int) > 1048576 then some true else
  (spec_DiskOf.f k l0).bind fun d => (laws_at.f l1 0 4).bind fun h => (laws_at.f l1 1 6).bind fun q => (impl_LoseHost.f d.1 d.2 h q).bind fun e => (spec_LoseHost.f k d.1 d.2 h q).bind fun f => (impl_PendingOf.f k d.1 d.2 h).bind fun n => (impl_PendingOf.f k e.1 e.2.1 h).bind fun m => (laws_FnLose.l0 k h q n.1 0 d.1 d.2).bind fun y => (impl_LoseHost.f y.1 y.2 h 0).bind fun o => (laws_sameDisk.f k e.1 e.2.1 f.1 f.2.1).bind fun s => (laws_sameDisk.f k o.1 o.2.1 e.1 e.2.1).bind fun u =>
  if e.2.2 = 0 ∧ n.2 = 0 ∧ m.2 = 0 ∧ m.1 = 0 ∧ o.2.2 = 0 ∧ s = true ∧ u = true ∧ (e.1.length : Int) = 64 ∧ (e.2.1.length : Int) = wrap64 ((d.2.length : Int) - n.1) then some true else none
set_option maxHeartbeats 8000000 in
set_option maxRecDepth 100000 in
theorem laws_FnLose.calls (k : Nat) (A0 : Option Addr) (c0 : Nat) (l0 : List Int) (A1 : Option Addr) (c1 : Nat) (l1 : List Int) (r : Bool) (w : World) (hr0 : Kd.C (Kd.int .u8) w A0 l0.length l0) (hc0 : l0.length ≤ c0) (hr1 : Kd.C (Kd.int .u8) w A1 l1.length l1) (hc1 : l1.length ≤ c1) (h : laws_FnLose.f k l0 l1 = some r) :
    Calls Try.prog 5 #[.slice A0 l0.length c0, .slice A1 l1.length c1] w fun e w' => e = .returned (.bool r) ∧ Below w.heap.size w w' := by
 have HR0 := zm hr0
 have HC0 := zm hc0
 have HR1 := zm hr1
 have HC1 := zm hc1
 clear hr0 hc0 hr1 hc1
 unfold laws_FnLose.f at h
 by_cases c3 : (l0.length : Int) > 1048576
 ·rw [if_pos c3] at h
  have c3b0 : decide (1048576 < (l0.length : Int)) = true := decide_eq_true c3
  have c3b1 : decide (1048576 < l0.length) = true := decide_eq_true (by omega)
  clear c3
  obtain rfl := Option.some.inj h
  clear h
  go_enter Try.func5, Try.ntmps5
  go_wp2
  go_ret
  exact ⟨rfl, (by repeat (with_reducible first | exact (Below.refl _ _) | apply below_alloc | apply pw_below_drewN | apply below_drew1))⟩
 rw [if_neg c3] at h
 have c3b0 : decide (1048576 < (l0.length : Int)) = false := decide_eq_false c3
 have c3b1 : decide (1048576 < l0.length) = false := decide_eq_false (by omega)
 clear c3
 by_cases c4 : (l1.length : Int) > 1048576
 ·rw [if_pos c4] at h
  have c4b0 : decide (1048576 < (l1.length : Int)) = true := decide_eq_true c4
  have c4b1 : decide (1048576 < l1.length) = true := decide_eq_true (by omega)
  clear c4
  obtain rfl := Option.some.inj h
  clear h
  go_enter Try.func5, Try.ntmps5
  go_wp2
  go_ret
  exact ⟨rfl, (by repeat (with_reducible first | exact (Below.refl _ _) | apply below_alloc | apply pw_below_drewN | apply below_drew1))⟩
 rw [if_neg c4] at h
 have c4b0 : decide (1048576 < (l1.length : Int)) = false := decide_eq_false c4
 have c4b1 : decide (1048576 < l1.length) = false := decide_eq_false (by omega)
 clear c4
 replace h := Option.bind_eq_some_iff.mp h
 obtain ⟨⟨d1, d2⟩, t1, h⟩ := h
 replace h := Option.bind_eq_some_iff.mp h
 obtain ⟨h_, t2, h⟩ := h
 replace h := Option.bind_eq_some_iff.mp h
 obtain ⟨q_, t3, h⟩ := h
 replace h := Option.bind_eq_some_iff.mp h
 obtain ⟨⟨e1, e2, ez⟩, t4, h⟩ := h
 replace h := Option.bind_eq_some_iff.mp h
 obtain ⟨⟨f1, f2, fz⟩, t5, h⟩ := h
 replace h := Option.bind_eq_some_iff.mp h
 obtain ⟨⟨n_, nz⟩, t6, h⟩ := h
 replace h := Option.bind_eq_some_iff.mp h
 obtain ⟨⟨m_, mz⟩, t7, h⟩ := h
 replace h := Option.bind_eq_some_iff.mp h
 obtain ⟨⟨y1, y2⟩, t8, h⟩ := h
 replace h := Option.bind_eq_some_iff.mp h
 obtain ⟨⟨o1, o2, oz⟩, t9, h⟩ := h
 replace h := Option.bind_eq_some_iff.mp h
 obtain ⟨s_, t10, h⟩ := h
 replace h := Option.bind_eq_some_iff.mp h
 obtain ⟨u_, t11, h⟩ := h
 have hall : ez = 0 ∧ nz = 0 ∧ mz = 0 ∧ m_ = 0 ∧ oz = 0 ∧ s_ = true ∧ u_ = true ∧ (e1.length : Int) = 64 ∧ (e2.length : Int) = wrap64 ((d2.length : Int) - n_) := Decidable.byContradiction fun hne => by rw [if_neg hne] at h; cases h
 rw [if_pos hall] at h
 obtain rfl := Option.some.inj h
 clear h
 obtain ⟨rfl, rfl, rfl, rfl, rfl, rfl, rfl, hq1, hq2⟩ := hall
 have b1 : ((e1.length : Int) == 64) = true := beq_iff_eq.mpr hq1
 have b2 : ((e2.length : Int) == wrap64 ((d2.length : Int) - n_)) = true := beq_iff_eq.mpr hq2
 have b3 : decide ((e1.length : Int) = 64) = true := decide_eq_true hq1
 have b4 : decide ((e2.length : Int) = wrap64 ((d2.length : Int) - n_)) = true := decide_eq_true hq2
 have T1 := zm t1
 have T2 := zm t2
 have T3 := zm t3
 have T4 := zm (show impl_LoseHost.f d1 d2 h_ q_ = some (e1, e2, 0) from t4)
 have T5 := zm (show spec_LoseHost.f k d1 d2 h_ q_ = some (f1, f2, fz) from t5)
 have T6 := zm (show impl_PendingOf.f k d1 d2 h_ = some (n_, 0) from t6)
 have T7 := zm (show impl_PendingOf.f k e1 e2 h_ = some (0, 0) from t7)
 have T8 := zm (show laws_FnLose.l0 k h_ q_ n_ 0 d1 d2 = some (y1, y2) from t8)
 have T9 := zm (show impl_LoseHost.f y1 y2 h_ 0 = some (o1, o2, 0) from t9)
 have T10 := zm (show laws_sameDisk.f k e1 e2 f1 f2 = some true from t10)
 have T11 := zm (show laws_sameDisk.f k o1 o2 e1 e2 = some true from t11)
 clear t1 t2 t3 t4 t5 t6 t7 t8 t9 t10 t11 hq1 hq2
 go_enter Try.func5, Try.ntmps5
 go_wp2_with (first
  | (go_at_call 24; (with_reducible refine (spec_DiskOf.calls k _ _ l0 d1 d2 _ ?s1 ?s2 T1.out).mono ?_); (case s1 => repeat (first | exact (HR0.out) | (with_reducible refine Kd.C_alloc ?_ _) | (with_reducible refine Kd.C_drewN ?_ _) | (with_reducible refine Kd.C_drew ?_))); (case s2 => exact HC0.out); rintro e x1 ⟨v0, v1, rfl, h0, h1, hb⟩; have L_x1 := zm (show Below w.heap.size w x1 from below_step (by repeat (with_reducible first | exact (Below.refl _ _) | apply below_alloc | apply pw_below_drewN | apply below_drew1)) hb); clear hb; obtain ⟨Ad_0, cd_0, rfl⟩ := Kd.R_slice h0; have Rd_0 := zm (Kd.R_reads' h0).2.2; have Cd_0 := zm (Kd.R_reads' h0).2.1; have Od_0 := zm h0; clear h0; obtain ⟨Ad_1, cd_1, rfl⟩ := Kd.R_slice h1; have Rd_1 := zm (Kd.R_reads' h1).2.2; have Cd_1 := zm (Kd.R_reads' h1).2.1; have Od_1 := zm h1; clear h1)
  | ((with_reducible refine gate_dst (N := 5) rfl ?_); refine box_event ?hg (N := 5) ?hd (cs := #[.slice none 0 0, .slice none 0 0]) (t := 48) ?hr ?_; (case hd => rfl); (case hg => rfl); (case hr => first | (go_simp; done) | (go_simp; rfl)); intro gD hg_ x2 hbox hb; have KgD := zm hbox; have MgD := zm (show Below x1.heap.size x1 x2 from below_step (by repeat (with_reducible first | exact (Below.refl _ _) | apply below_alloc | apply pw_below_drewN | apply below_drew1)) hb); have GEgD := zm (show x1.heap.size ≤ gD from by rw [hg_]; exact below_size (by repeat (with_reducible first | exact (Below.refl _ _) | apply below_alloc | apply pw_below_drewN | apply below_drew1))); clear hb hbox hg_; have hzgD_0 : x2.cell? ⟨gD, 0, none⟩ = some (.slice none 0 0) := (blk_cell KgD.out 0).trans rfl; have hzgD_1 : x2.cell? ⟨gD, 1, none⟩ = some (.slice none 0 0) := (blk_cell KgD.out 1).trans rfl; have hfgD_0 := blk_frozen KgD.out 0; have hfgD_1 := blk_frozen KgD.out 1)
  | ((with_reducible refine gate_store (t := 48) (p := 5) rfl ?_); refine store_event (t := 48) (p := 5) (v := ?vo_gD) (w1 := ((x2.setCell ⟨gD, 0, none⟩ (.slice Ad_0 d1.length cd_0)).setCell ⟨gD, 1, none⟩ (.slice Ad_1 d2.length cd_1))) ?hg ?ho ?hn ?hr ?_; (case ho => rfl); (case hg => rfl); (case hn => rfl); (case hr => first | (go_simp; done) | (go_simp; rfl)); intro x3 hw; have BD := zm (show x3.heap[gD]? = some (.cells #[.slice Ad_0 d1.length cd_0, .slice Ad_1 d2.length cd_1] 48 (0, 0)) from by rw [hw]; exact (blk_set (blk_set KgD.out 0 _) 1 _)); have L_x3 := zm (show Below x1.heap.size x1 x3 from by rw [hw]; exact (below_set (below_set MgD.out GEgD.out) GEgD.out)); clear hw KgD MgD; clear hzgD_0 hfgD_0; clear hzgD_1 hfgD_1)
  | (go_at_call 13; (with_reducible refine (laws_at.calls _ _ l1 0 4 h_ _ ?s1 ?s2 T2.out).mono ?_); (case s1 => repeat (first | exact (Kd.C_below HR1.out (below_step L_x1.out L_x3.out)) | (with_reducible refine Kd.C_alloc ?_ _) | (with_reducible refine Kd.C_drewN ?_ _) | (with_reducible refine Kd.C_drew ?_))); (case s2 => exact HC1.out); rintro e x4 ⟨rfl, hb⟩; have L_x4 := zm (show Below x3.heap.size x3 x4 from below_step (by repeat (with_reducible first | exact (Below.refl _ _) | apply below_alloc | apply pw_below_drewN | apply below_drew1)) hb.below); clear hb)
  | (go_at_call 13; (with_reducible refine (laws_at.calls _ _ l1 1 6 q_ _ ?s1 ?s2 T3.out).mono ?_); (case s1 => repeat (first | exact (Kd.C_below HR1.out (below_step (below_step L_x1.out L_x3.out) L_x4.out)) | (with_reducible refine Kd.C_alloc ?_ _) | (with_reducible refine Kd.C_drewN ?_ _) | (with_reducible refine Kd.C_drew ?_))); (case s2 => exact HC1.out); rintro e x5 ⟨rfl, hb⟩; have L_x5 := zm (show Below x4.heap.size x4 x5 from below_step (by repeat (with_reducible first | exact (Below.refl _ _) | apply below_alloc | apply pw_below_drewN | apply below_drew1)) hb.below); clear hb; have hl_gD_0 : x5.cell? ⟨gD, 0, none⟩ = some (.slice Ad_0 d1.length cd_0) := (blk_cell (blk_below BD.out (below_step L_x4.out L_x5.out)) 0).trans rfl; have hl_gD_1 : x5.cell? ⟨gD, 1, none⟩ = some (.slice Ad_1 d2.length cd_1) := (blk_cell (blk_below BD.out (below_step L_x4.out L_x5.out)) 1).trans rfl)
  | (go_at_call 25; (with_reducible refine (impl_LoseHost.calls _ _ d1 _ _ d2 h_ q_ e1 e2 0 _ ?s1 ?s2 ?s3 ?s4 T4.out).mono ?_); (case s1 => repeat (first | exact (Kd.C_below Rd_0.out (below_step (below_step L_x3.out L_x4.out) L_x5.out)) | (with_reducible refine Kd.C_alloc ?_ _) | (with_reducible refine Kd.C_drewN ?_ _) | (with_reducible refine Kd.C_drew ?_))); (case s2 => exact Cd_0.out); (case s3 => repeat (first | exact (Kd.C_below Rd_1.out (below_step (below_step L_x3.out L_x4.out) L_x5.out)) | (with_reducible refine Kd.C_alloc ?_ _) | (with_reducible refine Kd.C_drewN ?_ _) | (with_reducible refine Kd.C_drew ?_))); (case s4 => exact Cd_1.out); rintro e x6 ⟨v0, v1, rfl, h0, h1, hb⟩; (try clear hl_gD_0); (try clear hl_gD_1); have L_x6 := zm (show Below x5.heap.size x5 x6 from below_step (by repeat (with_reducible first | exact (Below.refl _ _) | apply below_alloc | apply pw_below_drewN | apply below_drew1)) hb); clear hb; obtain ⟨Ax_0, cx_0, rfl⟩ := Kd.R_slice h0; have Rx_0 := zm (Kd.R_reads' h0).2.2; have Cx_0 := zm (Kd.R_reads' h0).2.1; have Ox_0 := zm h0; clear h0; obtain ⟨Ax_1, cx_1, rfl⟩ := Kd.R_slice h1; have Rx_1 := zm (Kd.R_reads' h1).2.2; have Cx_1 := zm (Kd.R_reads' h1).2.1; have Ox_1 := zm h1; clear h1)
  | ((with_reducible refine gate_dst (N := 8) rfl ?_); refine box_event ?hg (N := 8) ?hd (cs := #[.slice none 0 0, .slice none 0 0]) (t := 48) ?hr ?_; (case hd => rfl); (case hg => rfl); (case hr => first | (go_simp; done) | (go_simp; rfl)); intro gX hg_ x7 hbox hb; have KgX := zm hbox; have MgX := zm (show Below x6.heap.size x6 x7 from below_step (by repeat (with_reducible first | exact (Below.refl _ _) | apply below_alloc | apply pw_below_drewN | apply below_drew1)) hb); have GEgX := zm (show x6.heap.size ≤ gX from by rw [hg_]; exact below_size (by repeat (with_reducible first | exact (Below.refl _ _) | apply below_alloc | apply pw_below_drewN | apply below_drew1))); clear hb hbox hg_; have hzgX_0 : x7.cell? ⟨gX, 0, none⟩ = some (.slice none 0 0) := (blk_cell KgX.out 0).trans rfl; have hzgX_1 : x7.cell? ⟨gX, 1, none⟩ = some (.slice none 0 0) := (blk_cell KgX.out 1).trans rfl; have hfgX_0 := blk_frozen KgX.out 0; have hfgX_1 := blk_frozen KgX.out 1)
  | ((with_reducible refine gate_store (t := 48) (p := 8) rfl ?_); refine store_event (t := 48) (p := 8) (v := ?vo_gX) (w1 := ((x7.setCell ⟨gX, 0, none⟩ (.slice Ax_0 e1.length cx_0)).setCell ⟨gX, 1, none⟩ (.slice Ax_1 e2.length cx_1))) ?hg ?ho ?hn ?hr ?_; (case ho => rfl); (case hg => rfl); (case hn => rfl); (case hr => first | (go_simp; done) | (go_simp; rfl)); intro x8 hw; have BX := zm (show x8.heap[gX]? = some (.cells #[.slice Ax_0 e1.length cx_0, .slice Ax_1 e2.length cx_1] 48 (0, 0)) from by rw [hw]; exact (blk_set (blk_set KgX.out 0 _) 1 _)); have L_x8 := zm (show Below x6.heap.size x6 x8 from by rw [hw]; exact (below_set (below_set MgX.out GEgX.out) GEgX.out)); clear hw KgX MgX; clear hzgX_0 hfgX_0; clear hzgX_1 hfgX_1; have hl_gD_0 : x8.cell? ⟨gD, 0, none⟩ = some (.slice Ad_0 d1.length cd_0) := (blk_cell (blk_below BD.out (below_step (below_step (below_step L_x4.out L_x5.out) L_x6.out) L_x8.out)) 0).trans rfl; have hl_gD_1 : x8.cell? ⟨gD, 1, none⟩ = some (.slice Ad_1 d2.length cd_1) := (blk_cell (blk_below BD.out (below_step (below_step (below_step L_x4.out L_x5.out) L_x6.out) L_x8.out)) 1).trans rfl)
  | (go_at_call 26; (with_reducible refine (spec_LoseHost.calls k _ _ d1 _ _ d2 h_ q_ f1 f2 fz _ ?s1 ?s2 ?s3 ?s4 T5.out).mono ?_); (case s1 => repeat (first | exact (Kd.C_below Rd_0.out (below_step (below_step (below_step (below_step L_x3.out L_x4.out) L_x5.out) L_x6.out) L_x8.out)) | (with_reducible refine Kd.C_alloc ?_ _) | (with_reducible refine Kd.C_drewN ?_ _) | (with_reducible refine Kd.C_drew ?_))); (case s2 => exact Cd_0.out); (case s3 => repeat (first | exact (Kd.C_below Rd_1.out (below_step (below_step (below_step (below_step L_x3.out L_x4.out) L_x5.out) L_x6.out) L_x8.out)) | (with_reducible refine Kd.C_alloc ?_ _) | (with_reducible refine Kd.C_drewN ?_ _) | (with_reducible refine Kd.C_drew ?_))); (case s4 => exact Cd_1.out); rintro e x9 ⟨v0, v1, rfl, h0, h1, hb⟩; (try clear hl_gD_0); (try clear hl_gD_1); have L_x9 := zm (show Below x8.heap.size x8 x9 from below_step (by repeat (with_reducible first | exact (Below.refl _ _) | apply below_alloc | apply pw_below_drewN | apply below_drew1)) hb); clear hb; obtain ⟨At_0, ct_0, rfl⟩ := Kd.R_slice h0; have Rt_0 := zm (Kd.R_reads' h0).2.2; have Ct_0 := zm (Kd.R_reads' h0).2.1; have Ot_0 := zm h0; clear h0; obtain ⟨At_1, ct_1, rfl⟩ := Kd.R_slice h1; have Rt_1 := zm (Kd.R_reads' h1).2.2; have Ct_1 := zm (Kd.R_reads' h1).2.1; have Ot_1 := zm h1; clear h1)
  | ((with_reducible refine gate_dst (N := 10) rfl ?_); refine box_event ?hg (N := 10) ?hd (cs := #[.slice none 0 0, .slice none 0 0]) (t := 48) ?hr ?_; (case hd => rfl); (case hg => rfl); (case hr => first | (go_simp; done) | (go_simp; rfl)); intro gT hg_ x10 hbox hb; have KgT := zm hbox; have MgT := zm (show Below x9.heap.size x9 x10 from below_step (by repeat (with_reducible first | exact (Below.refl _ _) | apply below_alloc | apply pw_below_drewN | apply below_drew1)) hb); have GEgT := zm (show x9.heap.size ≤ gT from by rw [hg_]; exact below_size (by repeat (with_reducible first | exact (Below.refl _ _) | apply below_alloc | apply pw_below_drewN | apply below_drew1))); clear hb hbox hg_; have hzgT_0 : x10.cell? ⟨gT, 0, none⟩ = some (.slice none 0 0) := (blk_cell KgT.out 0).trans rfl; have hzgT_1 : x10.cell? ⟨gT, 1, none⟩ = some (.slice none 0 0) := (blk_cell KgT.out 1).trans rfl; have hfgT_0 := blk_frozen KgT.out 0; have hfgT_1 := blk_frozen KgT.out 1)
  | ((with_reducible refine gate_store (t := 48) (p := 10) rfl ?_); refine store_event (t := 48) (p := 10) (v := ?vo_gT) (w1 := ((x10.setCell ⟨gT, 0, none⟩ (.slice At_0 f1.length ct_0)).setCell ⟨gT, 1, none⟩ (.slice At_1 f2.length ct_1))) ?hg ?ho ?hn ?hr ?_; (case ho => rfl); (case hg => rfl); (case hn => rfl); (case hr => first | (go_simp; done) | (go_simp; rfl)); intro x11 hw; have BT := zm (show x11.heap[gT]? = some (.cells #[.slice At_0 f1.length ct_0, .slice At_1 f2.length ct_1] 48 (0, 0)) from by rw [hw]; exact (blk_set (blk_set KgT.out 0 _) 1 _)); have L_x11 := zm (show Below x9.heap.size x9 x11 from by rw [hw]; exact (below_set (below_set MgT.out GEgT.out) GEgT.out)); clear hw KgT MgT; clear hzgT_0 hfgT_0; clear hzgT_1 hfgT_1; have hl_gD_0 : x11.cell? ⟨gD, 0, none⟩ = some (.slice Ad_0 d1.length cd_0) := (blk_cell (blk_below BD.out (below_step (below_step (below_step (below_step (below_step L_x4.out L_x5.out) L_x6.out) L_x8.out) L_x9.out) L_x11.out)) 0).trans rfl; have hl_gD_1 : x11.cell? ⟨gD, 1, none⟩ = some (.slice Ad_1 d2.length cd_1) := (blk_cell (blk_below BD.out (below_step (below_step (below_step (below_step (below_step L_x4.out L_x5.out) L_x6.out) L_x8.out) L_x9.out) L_x11.out)) 1).trans rfl)
  | (go_at_call 27; (with_reducible refine (impl_PendingOf.calls k _ _ d1 _ _ d2 h_ n_ 0 _ ?s1 ?s2 ?s3 ?s4 T6.out).mono ?_); (case s1 => repeat (first | exact (Kd.C_below Rd_0.out (below_step (below_step (below_step (below_step (below_step (below_step L_x3.out L_x4.out) L_x5.out) L_x6.out) L_x8.out) L_x9.out) L_x11.out)) | (with_reducible refine Kd.C_alloc ?_ _) | (with_reducible refine Kd.C_drewN ?_ _) | (with_reducible refine Kd.C_drew ?_))); (case s2 => exact Cd_0.out); (case s3 => repeat (first | exact (Kd.C_below Rd_1.out (below_step (below_step (below_step (below_step (below_step (below_step L_x3.out L_x4.out) L_x5.out) L_x6.out) L_x8.out) L_x9.out) L_x11.out)) | (with_reducible refine Kd.C_alloc ?_ _) | (with_reducible refine Kd.C_drewN ?_ _) | (with_reducible refine Kd.C_drew ?_))); (case s4 => exact Cd_1.out); rintro e x12 ⟨rfl, hb⟩; (try clear hl_gD_0); (try clear hl_gD_1); have L_x12 := zm (show Below x11.heap.size x11 x12 from below_step (by repeat (with_reducible first | exact (Below.refl _ _) | apply below_alloc | apply pw_below_drewN | apply below_drew1)) hb); clear hb; have hl_gX_0 : x12.cell? ⟨gX, 0, none⟩ = some (.slice Ax_0 e1.length cx_0) := (blk_cell (blk_below BX.out (below_step (below_step L_x9.out L_x11.out) L_x12.out)) 0).trans rfl; have hl_gX_1 : x12.cell? ⟨gX, 1, none⟩ = some (.slice Ax_1 e2.length cx_1) := (blk_cell (blk_below BX.out (below_step (below_step L_x9.out L_x11.out) L_x12.out)) 1).trans rfl)
  | (go_at_call 27; (with_reducible refine (impl_PendingOf.calls k _ _ e1 _ _ e2 h_ 0 0 _ ?s1 ?s2 ?s3 ?s4 T7.out).mono ?_); (case s1 => repeat (first | exact (Kd.C_below Rx_0.out (below_step (below_step (below_step L_x8.out L_x9.out) L_x11.out) L_x12.out)) | (with_reducible refine Kd.C_alloc ?_ _) | (with_reducible refine Kd.C_drewN ?_ _) | (with_reducible refine Kd.C_drew ?_))); (case s2 => exact Cx_0.out); (case s3 => repeat (first | exact (Kd.C_below Rx_1.out (below_step (below_step (below_step L_x8.out L_x9.out) L_x11.out) L_x12.out)) | (with_reducible refine Kd.C_alloc ?_ _) | (with_reducible refine Kd.C_drewN ?_ _) | (with_reducible refine Kd.C_drew ?_))); (case s4 => exact Cx_1.out); rintro e x13 ⟨rfl, hb⟩; (try clear hl_gX_0); (try clear hl_gX_1); have L_x13 := zm (show Below x12.heap.size x12 x13 from below_step (by repeat (with_reducible first | exact (Below.refl _ _) | apply below_alloc | apply pw_below_drewN | apply below_drew1)) hb); clear hb; have hl_gD_0 : x13.cell? ⟨gD, 0, none⟩ = some (.slice Ad_0 d1.length cd_0) := (blk_cell (blk_below BD.out (below_step (below_step (below_step (below_step (below_step (below_step (below_step L_x4.out L_x5.out) L_x6.out) L_x8.out) L_x9.out) L_x11.out) L_x12.out) L_x13.out)) 0).trans rfl; have hl_gD_1 : x13.cell? ⟨gD, 1, none⟩ = some (.slice Ad_1 d2.length cd_1) := (blk_cell (blk_below BD.out (below_step (below_step (below_step (below_step (below_step (below_step (below_step L_x4.out L_x5.out) L_x6.out) L_x8.out) L_x9.out) L_x11.out) L_x12.out) L_x13.out)) 1).trans rfl)
  | ((with_reducible refine gate_dst (N := 16) rfl ?_); refine box_event ?hg (N := 16) ?hd (cs := #[.slice none 0 0, .slice none 0 0]) (t := 48) ?hr ?_; (case hd => rfl); (case hg => rfl); (case hr => first | (go_simp; done) | (go_simp; rfl)); intro gY hg_ x14 hbox hb; have KgY := zm hbox; have MgY := zm (show Below x13.heap.size x13 x14 from below_step (by repeat (with_reducible first | exact (Below.refl _ _) | apply below_alloc | apply pw_below_drewN | apply below_drew1)) hb); have GEgY := zm (show x13.heap.size ≤ gY from by rw [hg_]; exact below_size (by repeat (with_reducible first | exact (Below.refl _ _) | apply below_alloc | apply pw_below_drewN | apply below_drew1))); clear hb hbox hg_; (try clear hl_gD_0); (try clear hl_gD_1); have hzgY_0 : x14.cell? ⟨gY, 0, none⟩ = some (.slice none 0 0) := (blk_cell KgY.out 0).trans rfl; have hzgY_1 : x14.cell? ⟨gY, 1, none⟩ = some (.slice none 0 0) := (blk_cell KgY.out 1).trans rfl; have hfgY_0 := blk_frozen KgY.out 0; have hfgY_1 := blk_frozen KgY.out 1)
  | ((with_reducible refine gate_store (t := 48) (p := 16) rfl ?_); refine store_event (t := 48) (p := 16) (v := ?vo_gY) (w1 := ((x14.setCell ⟨gY, 0, none⟩ (.slice Ad_0 d1.length cd_0)).setCell ⟨gY, 1, none⟩ (.slice Ad_1 d2.length cd_1))) ?hg ?ho ?hn ?hr ?_; (case ho => rfl); (case hg => rfl); (case hn => rfl); (case hr => first | (go_simp; done) | (go_simp; rfl)); intro x15 hw; have BY := zm (show x15.heap[gY]? = some (.cells #[.slice Ad_0 d1.length cd_0, .slice Ad_1 d2.length cd_1] 48 (0, 0)) from by rw [hw]; exact (blk_set (blk_set KgY.out 0 _) 1 _)); have L_x15 := zm (show Below x13.heap.size x13 x15 from by rw [hw]; exact (below_set (below_set MgY.out GEgY.out) GEgY.out)); clear hw KgY MgY; clear hzgY_0 hfgY_0; clear hzgY_1 hfgY_1))
 go_loopg [17] k (fun kq v17 wr => ∃ (i_ : Int) (D_ : List ByteArray) (P_ : List S92) (Ay_0 : Option Addr) (cy_0 : Nat) (Ay_1 : Option Addr) (cy_1 : Nat), v17 = .int .i64 i_ ∧ Aside0 (laws_FnLose.l0 kq h_ q_ n_ i_ D_ P_ = some (y1, y2)) ∧ Aside0 (kq ≤ k) ∧ Aside0 (wr.heap[gY]? = some (.cells #[.slice Ay_0 D_.length cy_0, .slice Ay_1 P_.length cy_1] 48 (0, 0))) ∧ Aside0 (Kd.C Kd.string wr Ay_0 D_.length D_) ∧ Aside0 (D_.length ≤ cy_0) ∧ Aside0 (Kd.C k92 wr Ay_1 P_.length P_) ∧ Aside0 (P_.length ≤ cy_1) ∧ Aside0 (Below x13.heap.size x13 wr))
 case atStart => exact ⟨0, d1, d2, Ad_0, cd_0, Ad_1, cd_1, (by first | rfl | (simp; done)), T8, ⟨Nat.le_refl _⟩, BY, ⟨Kd.C_below Rd_0.out (below_step (below_step (below_step (below_step (below_step (below_step (below_step (below_step (below_step L_x3.out L_x4.out) L_x5.out) L_x6.out) L_x8.out) L_x9.out) L_x11.out) L_x12.out) L_x13.out) L_x15.out)⟩, Cd_0, ⟨Kd.C_below Rd_1.out (below_step (below_step (below_step (below_step (below_step (below_step (below_step (below_step (below_step L_x3.out L_x4.out) L_x5.out) L_x6.out) L_x8.out) L_x9.out) L_x11.out) L_x12.out) L_x13.out) L_x15.out)⟩, Cd_1, ⟨L_x15.out⟩⟩
 case round =>
  try clear c1
  try clear p2
  obtain ⟨i_, D_, P_, Ay_0, cy_0, Ay_1, cy_1, rfl, HA, HK, BY_, RY0, CY0, RY1, CY1, HB⟩ := hrel
  cases gk with
  | zero => exact absurd HA.out (by simp [laws_FnLose.l0])
  | succ k2 =>
   have H := HA.out
   clear HA
   simp only [laws_FnLose.l0] at H
   by_cases c5 : i_ < q_
   ·rw [if_pos c5] at H
    have c5b0 : decide (i_ < q_) = true := decide_eq_true c5
    clear c5
    by_cases c6 : i_ < n_
    ·rw [if_pos c6] at H
     have c6b0 : decide (i_ < n_) = true := decide_eq_true c6
     clear c6
     replace H := Option.bind_eq_some_iff.mp H
     obtain ⟨⟨z1, z2, zz⟩, u1, H⟩ := H
     have hz : zz = 0 := Decidable.byContradiction fun hne => by rw [if_neg hne] at H; cases H
     subst hz
     have U1 := zm (show impl_LandOne.f k2 D_ P_ h_ = some (z1, z2, 0) from u1)
     have HH := zm (show laws_FnLose.l0 k2 h_ q_ n_ (wrap64 (i_ + 1)) z1 z2 = some (y1, y2) from H)
     clear u1 H
     have hly0 : wr.cell? ⟨gY, 0, none⟩ = some (.slice Ay_0 D_.length cy_0) := (blk_cell BY_.out 0).trans rfl
     have hly1 : wr.cell? ⟨gY, 1, none⟩ = some (.slice Ay_1 P_.length cy_1) := (blk_cell BY_.out 1).trans rfl
     go_wp2_with (first
      | (go_at_call 28; (with_reducible refine (impl_LandOne.calls k2 _ _ D_ _ _ P_ h_ z1 z2 0 _ ?s1 ?s2 ?s3 ?s4 U1.out).mono ?_); (case s1 => repeat (first | exact (RY0.out) | (with_reducible refine Kd.C_alloc ?_ _) | (with_reducible refine Kd.C_drewN ?_ _) | (with_reducible refine Kd.C_drew ?_))); (case s2 => exact CY0.out); (case s3 => repeat (first | exact (RY1.out) | (with_reducible refine Kd.C_alloc ?_ _) | (with_reducible refine Kd.C_drewN ?_ _) | (with_reducible refine Kd.C_drew ?_))); (case s4 => exact CY1.out); rintro e y1 ⟨v0, v1, rfl, h0, h1, hb⟩; have L_y1 := zm (show Below wr.heap.size wr y1 from below_step (by repeat (with_reducible first | exact (Below.refl _ _) | apply below_alloc | apply pw_below_drewN | apply below_drew1)) hb); clear hb; obtain ⟨Az_0, cz_0, rfl⟩ := Kd.R_slice h0; have Rz_0 := zm (Kd.R_reads' h0).2.2; have Cz_0 := zm (Kd.R_reads' h0).2.1; have Oz_0 := zm h0; clear h0; obtain ⟨Az_1, cz_1, rfl⟩ := Kd.R_slice h1; have Rz_1 := zm (Kd.R_reads' h1).2.2; have Cz_1 := zm (Kd.R_reads' h1).2.1; have Oz_1 := zm h1; clear h1)
      | ((with_reducible refine gate_dst (N := 18) rfl ?_); refine box_event ?hg (N := 18) ?hd (cs := #[.slice none 0 0, .slice none 0 0]) (t := 48) ?hr ?_; (case hd => rfl); (case hg => rfl); (case hr => first | (go_simp; done) | (go_simp; rfl)); intro gZ hg_ y2 hbox hb; have KgZ := zm hbox; have MgZ := zm (show Below y1.heap.size y1 y2 from below_step (by repeat (with_reducible first | exact (Below.refl _ _) | apply below_alloc | apply pw_below_drewN | apply below_drew1)) hb); have GEgZ := zm (show y1.heap.size ≤ gZ from by rw [hg_]; exact below_size (by repeat (with_reducible first | exact (Below.refl _ _) | apply below_alloc | apply pw_below_drewN | apply below_drew1))); clear hb hbox hg_; have hzgZ_0 : y2.cell? ⟨gZ, 0, none⟩ = some (.slice none 0 0) := (blk_cell KgZ.out 0).trans rfl; have hzgZ_1 : y2.cell? ⟨gZ, 1, none⟩ = some (.slice none 0 0) := (blk_cell KgZ.out 1).trans rfl; have hfgZ_0 := blk_frozen KgZ.out 0; have hfgZ_1 := blk_frozen KgZ.out 1)
      | ((with_reducible refine gate_store (t := 48) (p := 18) rfl ?_); refine store_event (t := 48) (p := 18) (v := ?vo_gZ) (w1 := ((y2.setCell ⟨gZ, 0, none⟩ (.slice Az_0 z1.length cz_0)).setCell ⟨gZ, 1, none⟩ (.slice Az_1 z2.length cz_1))) ?hg ?ho ?hn ?hr ?_; (case ho => rfl); (case hg => rfl); (case hn => rfl); (case hr => first | (go_simp; done) | (go_simp; rfl)); intro y3 hw; have BZ := zm (show y3.heap[gZ]? = some (.cells #[.slice Az_0 z1.length cz_0, .slice Az_1 z2.length cz_1] 48 (0, 0)) from by rw [hw]; exact (blk_set (blk_set KgZ.out 0 _) 1 _)); have L_y3 := zm (show Below y1.heap.size y1 y3 from by rw [hw]; exact (below_set (below_set MgZ.out GEgZ.out) GEgZ.out)); clear hw KgZ MgZ; clear hzgZ_0 hfgZ_0; clear hzgZ_1 hfgZ_1; have hl_gZ_0 : y3.cell? ⟨gZ, 0, none⟩ = some (.slice Az_0 z1.length cz_0) := (blk_cell BZ.out 0).trans rfl; have hl_gZ_1 : y3.cell? ⟨gZ, 1, none⟩ = some (.slice Az_1 z2.length cz_1) := (blk_cell BZ.out 1).trans rfl; have BY2 := zm (blk_below BY_.out (below_step L_y1.out L_y3.out)); have hy0 : y3.cell? ⟨gY, 0, none⟩ = some (.slice Ay_0 D_.length cy_0) := (blk_cell BY2.out 0).trans rfl; have hy1 : y3.cell? ⟨gY, 1, none⟩ = some (.slice Ay_1 P_.length cy_1) := (blk_cell BY2.out 1).trans rfl; have hy2 := blk_frozen BY2.out 0; have hy3 := blk_frozen BY2.out 1)
      | ((with_reducible refine gate_store (t := 48) (p := 16) rfl ?_); refine store_event (t := 48) (p := 16) (v := ?vo_y2) (w1 := ((y3.setCell ⟨gY, 0, none⟩ (.slice Az_0 z1.length cz_0)).setCell ⟨gY, 1, none⟩ (.slice Az_1 z2.length cz_1))) ?hg ?ho ?hn ?hr ?_; (case ho => rfl); (case hg => rfl); (case hn => rfl); (case hr => first | (go_simp; done) | (go_simp; rfl)); intro y4 hw; have K_ := (show Kept y3 y4 (fun k_ => k_ = gY) from by rw [hw]; exact Kept.setCell (Kept.setCell (Kept.refl y3 (fun k_ => k_ = gY)) (p := ⟨gY, 0, none⟩) (.inl rfl) _) (p := ⟨gY, 1, none⟩) (.inl rfl) _); have NY := zm (show y4.heap[gY]? = some (.cells #[.slice Az_0 z1.length cz_0, .slice Az_1 z2.length cz_1] 48 (0, 0)) from by rw [hw]; exact blk_set (blk_set BY2.out 0 _) 1 _); have NZ0 := zm (Kd.R_mono (Kd.R_kept (Kd.R_types (Kd.R_below Oz_0.out L_y3.out) BY2.out (by decide)) K_ (fun _ h_ => h_.2)) (fun _ _ => trivial)); have NZ1 := zm (Kd.R_mono (Kd.R_kept (Kd.R_types (Kd.R_below Oz_1.out L_y3.out) BY2.out (by decide)) K_ (fun _ h_ => h_.2)) (fun _ _ => trivial)); have NB := zm (show Below x13.heap.size x13 y4 from by rw [hw]; exact below_set (below_set (below_step HB.out (below_step L_y1.out L_y3.out)) GEgY.out) GEgY.out); clear hw K_ hy0 hy1 hy2 hy3; (try clear hl_gZ_0); (try clear hl_gZ_1)))
     go_roundg k2
     case measure => have := HK.out; omega
     case rel => exact ⟨wrap64 (i_ + 1), z1, z2, Az_0, cz_0, Az_1, cz_1, (by first | rfl | (simp; done)), HH, ⟨by have := HK.out; omega⟩, NY, ⟨(Kd.R_reads' NZ0.out).2.2⟩, Cz_0, ⟨(Kd.R_reads' NZ1.out).2.2⟩, Cz_1, NB⟩
    ·rw [if_neg c6] at H
     have c6b0 : decide (i_ < n_) = false := decide_eq_false c6
     clear c6
     simp only [Option.some.injEq, Prod.mk.injEq] at H
     obtain ⟨rfl, rfl⟩ := H
     have hl_gY_0 : wr.cell? ⟨gY, 0, none⟩ = some (.slice Ay_0 D_.length cy_0) := (blk_cell BY_.out 0).trans rfl; have hl_gY_1 : wr.cell? ⟨gY, 1, none⟩ = some (.slice Ay_1 P_.length cy_1) := (blk_cell BY_.out 1).trans rfl
     go_wp2_with (first
      | (go_at_call 25; (with_reducible refine (impl_LoseHost.calls _ _ D_ _ _ P_ h_ 0 o1 o2 0 _ ?s1 ?s2 ?s3 ?s4 T9.out).mono ?_); (case s1 => repeat (first | exact (RY0.out) | (with_reducible refine Kd.C_alloc ?_ _) | (with_reducible refine Kd.C_drewN ?_ _) | (with_reducible refine Kd.C_drew ?_))); (case s2 => exact CY0.out); (case s3 => repeat (first | exact (RY1.out) | (with_reducible refine Kd.C_alloc ?_ _) | (with_reducible refine Kd.C_drewN ?_ _) | (with_reducible refine Kd.C_drew ?_))); (case s4 => exact CY1.out); rintro e z1 ⟨v0, v1, rfl, h0, h1, hb⟩; (try clear hl_gY_0); (try clear hl_gY_1); have L_z1 := zm (show Below wr.heap.size wr z1 from below_step (by repeat (with_reducible first | exact (Below.refl _ _) | apply below_alloc | apply pw_below_drewN | apply below_drew1)) hb); clear hb; obtain ⟨Ao_0, co_0, rfl⟩ := Kd.R_slice h0; have Ro_0 := zm (Kd.R_reads' h0).2.2; have Co_0 := zm (Kd.R_reads' h0).2.1; have Oo_0 := zm h0; clear h0; obtain ⟨Ao_1, co_1, rfl⟩ := Kd.R_slice h1; have Ro_1 := zm (Kd.R_reads' h1).2.2; have Co_1 := zm (Kd.R_reads' h1).2.1; have Oo_1 := zm h1; clear h1)
      | ((with_reducible refine gate_dst (N := 20) rfl ?_); refine box_event ?hg (N := 20) ?hd (cs := #[.slice none 0 0, .slice none 0 0]) (t := 48) ?hr ?_; (case hd => rfl); (case hg => rfl); (case hr => first | (go_simp; done) | (go_simp; rfl)); intro gO hg_ z2 hbox hb; have KgO := zm hbox; have MgO := zm (show Below z1.heap.size z1 z2 from below_step (by repeat (with_reducible first | exact (Below.refl _ _) | apply below_alloc | apply pw_below_drewN | apply below_drew1)) hb); have GEgO := zm (show z1.heap.size ≤ gO from by rw [hg_]; exact below_size (by repeat (with_reducible first | exact (Below.refl _ _) | apply below_alloc | apply pw_below_drewN | apply below_drew1))); clear hb hbox hg_; have hzgO_0 : z2.cell? ⟨gO, 0, none⟩ = some (.slice none 0 0) := (blk_cell KgO.out 0).trans rfl; have hzgO_1 : z2.cell? ⟨gO, 1, none⟩ = some (.slice none 0 0) := (blk_cell KgO.out 1).trans rfl; have hfgO_0 := blk_frozen KgO.out 0; have hfgO_1 := blk_frozen KgO.out 1)
      | ((with_reducible refine gate_store (t := 48) (p := 20) rfl ?_); refine store_event (t := 48) (p := 20) (v := ?vo_gO) (w1 := ((z2.setCell ⟨gO, 0, none⟩ (.slice Ao_0 o1.length co_0)).setCell ⟨gO, 1, none⟩ (.slice Ao_1 o2.length co_1))) ?hg ?ho ?hn ?hr ?_; (case ho => rfl); (case hg => rfl); (case hn => rfl); (case hr => first | (go_simp; done) | (go_simp; rfl)); intro z3 hw; have BO := zm (show z3.heap[gO]? = some (.cells #[.slice Ao_0 o1.length co_0, .slice Ao_1 o2.length co_1] 48 (0, 0)) from by rw [hw]; exact (blk_set (blk_set KgO.out 0 _) 1 _)); have L_z3 := zm (show Below z1.heap.size z1 z3 from by rw [hw]; exact (below_set (below_set MgO.out GEgO.out) GEgO.out)); clear hw KgO MgO; clear hzgO_0 hfgO_0; clear hzgO_1 hfgO_1; have hl_gX_0 : z3.cell? ⟨gX, 0, none⟩ = some (.slice Ax_0 e1.length cx_0) := (blk_cell (blk_below BX.out (below_step (below_step (below_step (below_step (below_step (below_step L_x9.out L_x11.out) L_x12.out) L_x13.out) HB.out) L_z1.out) L_z3.out)) 0).trans rfl; have hl_gX_1 : z3.cell? ⟨gX, 1, none⟩ = some (.slice Ax_1 e2.length cx_1) := (blk_cell (blk_below BX.out (below_step (below_step (below_step (below_step (below_step (below_step L_x9.out L_x11.out) L_x12.out) L_x13.out) HB.out) L_z1.out) L_z3.out)) 1).trans rfl; have hl_gT_0 : z3.cell? ⟨gT, 0, none⟩ = some (.slice At_0 f1.length ct_0) := (blk_cell (blk_below BT.out (below_step (below_step (below_step (below_step L_x12.out L_x13.out) HB.out) L_z1.out) L_z3.out)) 0).trans rfl; have hl_gT_1 : z3.cell? ⟨gT, 1, none⟩ = some (.slice At_1 f2.length ct_1) := (blk_cell (blk_below BT.out (below_step (below_step (below_step (below_step L_x12.out L_x13.out) HB.out) L_z1.out) L_z3.out)) 1).trans rfl)
      | (go_at_call 29; (with_reducible refine (laws_sameDisk.calls k _ _ e1 _ _ e2 _ _ f1 _ _ f2 true _ ?s1 ?s2 ?s3 ?s4 ?s5 ?s6 ?s7 ?s8 T10.out).mono ?_); (case s1 => repeat (first | exact (Kd.C_below Rx_0.out (below_step (below_step (below_step (below_step (below_step (below_step (below_step L_x8.out L_x9.out) L_x11.out) L_x12.out) L_x13.out) HB.out) L_z1.out) L_z3.out)) | (with_reducible refine Kd.C_alloc ?_ _) | (with_reducible refine Kd.C_drewN ?_ _) | (with_reducible refine Kd.C_drew ?_))); (case s2 => exact Cx_0.out); (case s3 => repeat (first | exact (Kd.C_below Rx_1.out (below_step (below_step (below_step (below_step (below_step (below_step (below_step L_x8.out L_x9.out) L_x11.out) L_x12.out) L_x13.out) HB.out) L_z1.out) L_z3.out)) | (with_reducible refine Kd.C_alloc ?_ _) | (with_reducible refine Kd.C_drewN ?_ _) | (with_reducible refine Kd.C_drew ?_))); (case s4 => exact Cx_1.out); (case s5 => repeat (first | exact (Kd.C_below Rt_0.out (below_step (below_step (below_step (below_step (below_step L_x11.out L_x12.out) L_x13.out) HB.out) L_z1.out) L_z3.out)) | (with_reducible refine Kd.C_alloc ?_ _) | (with_reducible refine Kd.C_drewN ?_ _) | (with_reducible refine Kd.C_drew ?_))); (case s6 => exact Ct_0.out); (case s7 => repeat (first | exact (Kd.C_below Rt_1.out (below_step (below_step (below_step (below_step (below_step L_x11.out L_x12.out) L_x13.out) HB.out) L_z1.out) L_z3.out)) | (with_reducible refine Kd.C_alloc ?_ _) | (with_reducible refine Kd.C_drewN ?_ _) | (with_reducible refine Kd.C_drew ?_))); (case s8 => exact Ct_1.out); rintro e z4 ⟨rfl, hb⟩; (try clear hl_gX_0); (try clear hl_gX_1); (try clear hl_gT_0); (try clear hl_gT_1); have L_z4 := zm (show Below z3.heap.size z3 z4 from below_step (by repeat (with_reducible first | exact (Below.refl _ _) | apply below_alloc | apply pw_below_drewN | apply below_drew1)) hb); clear hb; have hl_gO_0 : z4.cell? ⟨gO, 0, none⟩ = some (.slice Ao_0 o1.length co_0) := (blk_cell (blk_below BO.out L_z4.out) 0).trans rfl; have hl_gO_1 : z4.cell? ⟨gO, 1, none⟩ = some (.slice Ao_1 o2.length co_1) := (blk_cell (blk_below BO.out L_z4.out) 1).trans rfl; have hl_gX_0 : z4.cell? ⟨gX, 0, none⟩ = some (.slice Ax_0 e1.length cx_0) := (blk_cell (blk_below BX.out (below_step (below_step (below_step (below_step (below_step (below_step (below_step L_x9.out L_x11.out) L_x12.out) L_x13.out) HB.out) L_z1.out) L_z3.out) L_z4.out)) 0).trans rfl; have hl_gX_1 : z4.cell? ⟨gX, 1, none⟩ = some (.slice Ax_1 e2.length cx_1) := (blk_cell (blk_below BX.out (below_step (below_step (below_step (below_step (below_step (below_step (below_step L_x9.out L_x11.out) L_x12.out) L_x13.out) HB.out) L_z1.out) L_z3.out) L_z4.out)) 1).trans rfl)
      | (go_at_call 29; (with_reducible refine (laws_sameDisk.calls k _ _ o1 _ _ o2 _ _ e1 _ _ e2 true _ ?s1 ?s2 ?s3 ?s4 ?s5 ?s6 ?s7 ?s8 T11.out).mono ?_); (case s1 => repeat (first | exact (Kd.C_below Ro_0.out (below_step L_z3.out L_z4.out)) | (with_reducible refine Kd.C_alloc ?_ _) | (with_reducible refine Kd.C_drewN ?_ _) | (with_reducible refine Kd.C_drew ?_))); (case s2 => exact Co_0.out); (case s3 => repeat (first | exact (Kd.C_below Ro_1.out (below_step L_z3.out L_z4.out)) | (with_reducible refine Kd.C_alloc ?_ _) | (with_reducible refine Kd.C_drewN ?_ _) | (with_reducible refine Kd.C_drew ?_))); (case s4 => exact Co_1.out); (case s5 => repeat (first | exact (Kd.C_below Rx_0.out (below_step (below_step (below_step (below_step (below_step (below_step (below_step (below_step L_x8.out L_x9.out) L_x11.out) L_x12.out) L_x13.out) HB.out) L_z1.out) L_z3.out) L_z4.out)) | (with_reducible refine Kd.C_alloc ?_ _) | (with_reducible refine Kd.C_drewN ?_ _) | (with_reducible refine Kd.C_drew ?_))); (case s6 => exact Cx_0.out); (case s7 => repeat (first | exact (Kd.C_below Rx_1.out (below_step (below_step (below_step (below_step (below_step (below_step (below_step (below_step L_x8.out L_x9.out) L_x11.out) L_x12.out) L_x13.out) HB.out) L_z1.out) L_z3.out) L_z4.out)) | (with_reducible refine Kd.C_alloc ?_ _) | (with_reducible refine Kd.C_drewN ?_ _) | (with_reducible refine Kd.C_drew ?_))); (case s8 => exact Cx_1.out); rintro e z5 ⟨rfl, hb⟩; (try clear hl_gO_0); (try clear hl_gO_1); (try clear hl_gX_0); (try clear hl_gX_1); have L_z5 := zm (show Below z4.heap.size z4 z5 from below_step (by repeat (with_reducible first | exact (Below.refl _ _) | apply below_alloc | apply pw_below_drewN | apply below_drew1)) hb); clear hb; have hl_gX_0 : z5.cell? ⟨gX, 0, none⟩ = some (.slice Ax_0 e1.length cx_0) := (blk_cell (blk_below BX.out (below_step (below_step (below_step (below_step (below_step (below_step (below_step (below_step L_x9.out L_x11.out) L_x12.out) L_x13.out) HB.out) L_z1.out) L_z3.out) L_z4.out) L_z5.out)) 0).trans rfl; have hl_gX_1 : z5.cell? ⟨gX, 1, none⟩ = some (.slice Ax_1 e2.length cx_1) := (blk_cell (blk_below BX.out (below_step (below_step (below_step (below_step (below_step (below_step (below_step (below_step L_x9.out L_x11.out) L_x12.out) L_x13.out) HB.out) L_z1.out) L_z3.out) L_z4.out) L_z5.out)) 1).trans rfl; have hl_gD_0 : z5.cell? ⟨gD, 0, none⟩ = some (.slice Ad_0 d1.length cd_0) := (blk_cell (blk_below BD.out (below_step (below_step (below_step (below_step (below_step (below_step (below_step (below_step (below_step (below_step (below_step (below_step L_x4.out L_x5.out) L_x6.out) L_x8.out) L_x9.out) L_x11.out) L_x12.out) L_x13.out) HB.out) L_z1.out) L_z3.out) L_z4.out) L_z5.out)) 0).trans rfl; have hl_gD_1 : z5.cell? ⟨gD, 1, none⟩ = some (.slice Ad_1 d2.length cd_1) := (blk_cell (blk_below BD.out (below_step (below_step (below_step (below_step (below_step (below_step (below_step (below_step (below_step (below_step (below_step (below_step L_x4.out L_x5.out) L_x6.out) L_x8.out) L_x9.out) L_x11.out) L_x12.out) L_x13.out) HB.out) L_z1.out) L_z3.out) L_z4.out) L_z5.out)) 1).trans rfl))
     go_ret
     exact ⟨rfl, (below_step (below_step (below_step (below_step (below_step (below_step (below_step (below_step (below_step (below_step (below_step (below_step (below_step (below_step L_x1.out L_x3.out) L_x4.out) L_x5.out) L_x6.out) L_x8.out) L_x9.out) L_x11.out) L_x12.out) L_x13.out) HB.out) L_z1.out) L_z3.out) L_z4.out) L_z5.out)⟩
   ·rw [if_neg c5] at H
    have c5b0 : decide (i_ < q_) = false := decide_eq_false c5
    clear c5
    simp only [Option.some.injEq, Prod.mk.injEq] at H
    obtain ⟨rfl, rfl⟩ := H
    have hl_gY_0 : wr.cell? ⟨gY, 0, none⟩ = some (.slice Ay_0 D_.length cy_0) := (blk_cell BY_.out 0).trans rfl; have hl_gY_1 : wr.cell? ⟨gY, 1, none⟩ = some (.slice Ay_1 P_.length cy_1) := (blk_cell BY_.out 1).trans rfl
    go_wp2_with (first
     | (go_at_call 25; (with_reducible refine (impl_LoseHost.calls _ _ D_ _ _ P_ h_ 0 o1 o2 0 _ ?s1 ?s2 ?s3 ?s4 T9.out).mono ?_); (case s1 => repeat (first | exact (RY0.out) | (with_reducible refine Kd.C_alloc ?_ _) | (with_reducible refine Kd.C_drewN ?_ _) | (with_reducible refine Kd.C_drew ?_))); (case s2 => exact CY0.out); (case s3 => repeat (first | exact (RY1.out) | (with_reducible refine Kd.C_alloc ?_ _) | (with_reducible refine Kd.C_drewN ?_ _) | (with_reducible refine Kd.C_drew ?_))); (case s4 => exact CY1.out); rintro e z1 ⟨v0, v1, rfl, h0, h1, hb⟩; (try clear hl_gY_0); (try clear hl_gY_1); have L_z1 := zm (show Below wr.heap.size wr z1 from below_step (by repeat (with_reducible first | exact (Below.refl _ _) | apply below_alloc | apply pw_below_drewN | apply below_drew1)) hb); clear hb; obtain ⟨Ao_0, co_0, rfl⟩ := Kd.R_slice h0; have Ro_0 := zm (Kd.R_reads' h0).2.2; have Co_0 := zm (Kd.R_reads' h0).2.1; have Oo_0 := zm h0; clear h0; obtain ⟨Ao_1, co_1, rfl⟩ := Kd.R_slice h1; have Ro_1 := zm (Kd.R_reads' h1).2.2; have Co_1 := zm (Kd.R_reads' h1).2.1; have Oo_1 := zm h1; clear h1)
     | ((with_reducible refine gate_dst (N := 20) rfl ?_); refine box_event ?hg (N := 20) ?hd (cs := #[.slice none 0 0, .slice none 0 0]) (t := 48) ?hr ?_; (case hd => rfl); (case hg => rfl); (case hr => first | (go_simp; done) | (go_simp; rfl)); intro gO hg_ z2 hbox hb; have KgO := zm hbox; have MgO := zm (show Below z1.heap.size z1 z2 from below_step (by repeat (with_reducible first | exact (Below.refl _ _) | apply below_alloc | apply pw_below_drewN | apply below_drew1)) hb); have GEgO := zm (show z1.heap.size ≤ gO from by rw [hg_]; exact below_size (by repeat (with_reducible first | exact (Below.refl _ _) | apply below_alloc | apply pw_below_drewN | apply below_drew1))); clear hb hbox hg_; have hzgO_0 : z2.cell? ⟨gO, 0, none⟩ = some (.slice none 0 0) := (blk_cell KgO.out 0).trans rfl; have hzgO_1 : z2.cell? ⟨gO, 1, none⟩ = some (.slice none 0 0) := (blk_cell KgO.out 1).trans rfl; have hfgO_0 := blk_frozen KgO.out 0; have hfgO_1 := blk_frozen KgO.out 1)
     | ((with_reducible refine gate_store (t := 48) (p := 20) rfl ?_); refine store_event (t := 48) (p := 20) (v := ?vo_gO) (w1 := ((z2.setCell ⟨gO, 0, none⟩ (.slice Ao_0 o1.length co_0)).setCell ⟨gO, 1, none⟩ (.slice Ao_1 o2.length co_1))) ?hg ?ho ?hn ?hr ?_; (case ho => rfl); (case hg => rfl); (case hn => rfl); (case hr => first | (go_simp; done) | (go_simp; rfl)); intro z3 hw; have BO := zm (show z3.heap[gO]? = some (.cells #[.slice Ao_0 o1.length co_0, .slice Ao_1 o2.length co_1] 48 (0, 0)) from by rw [hw]; exact (blk_set (blk_set KgO.out 0 _) 1 _)); have L_z3 := zm (show Below z1.heap.size z1 z3 from by rw [hw]; exact (below_set (below_set MgO.out GEgO.out) GEgO.out)); clear hw KgO MgO; clear hzgO_0 hfgO_0; clear hzgO_1 hfgO_1; have hl_gX_0 : z3.cell? ⟨gX, 0, none⟩ = some (.slice Ax_0 e1.length cx_0) := (blk_cell (blk_below BX.out (below_step (below_step (below_step (below_step (below_step (below_step L_x9.out L_x11.out) L_x12.out) L_x13.out) HB.out) L_z1.out) L_z3.out)) 0).trans rfl; have hl_gX_1 : z3.cell? ⟨gX, 1, none⟩ = some (.slice Ax_1 e2.length cx_1) := (blk_cell (blk_below BX.out (below_step (below_step (below_step (below_step (below_step (below_step L_x9.out L_x11.out) L_x12.out) L_x13.out) HB.out) L_z1.out) L_z3.out)) 1).trans rfl; have hl_gT_0 : z3.cell? ⟨gT, 0, none⟩ = some (.slice At_0 f1.length ct_0) := (blk_cell (blk_below BT.out (below_step (below_step (below_step (below_step L_x12.out L_x13.out) HB.out) L_z1.out) L_z3.out)) 0).trans rfl; have hl_gT_1 : z3.cell? ⟨gT, 1, none⟩ = some (.slice At_1 f2.length ct_1) := (blk_cell (blk_below BT.out (below_step (below_step (below_step (below_step L_x12.out L_x13.out) HB.out) L_z1.out) L_z3.out)) 1).trans rfl)
     | (go_at_call 29; (with_reducible refine (laws_sameDisk.calls k _ _ e1 _ _ e2 _ _ f1 _ _ f2 true _ ?s1 ?s2 ?s3 ?s4 ?s5 ?s6 ?s7 ?s8 T10.out).mono ?_); (case s1 => repeat (first | exact (Kd.C_below Rx_0.out (below_step (below_step (below_step (below_step (below_step (below_step (below_step L_x8.out L_x9.out) L_x11.out) L_x12.out) L_x13.out) HB.out) L_z1.out) L_z3.out)) | (with_reducible refine Kd.C_alloc ?_ _) | (with_reducible refine Kd.C_drewN ?_ _) | (with_reducible refine Kd.C_drew ?_))); (case s2 => exact Cx_0.out); (case s3 => repeat (first | exact (Kd.C_below Rx_1.out (below_step (below_step (below_step (below_step (below_step (below_step (below_step L_x8.out L_x9.out) L_x11.out) L_x12.out) L_x13.out) HB.out) L_z1.out) L_z3.out)) | (with_reducible refine Kd.C_alloc ?_ _) | (with_reducible refine Kd.C_drewN ?_ _) | (with_reducible refine Kd.C_drew ?_))); (case s4 => exact Cx_1.out); (case s5 => repeat (first | exact (Kd.C_below Rt_0.out (below_step (below_step (below_step (below_step (below_step L_x11.out L_x12.out) L_x13.out) HB.out) L_z1.out) L_z3.out)) | (with_reducible refine Kd.C_alloc ?_ _) | (with_reducible refine Kd.C_drewN ?_ _) | (with_reducible refine Kd.C_drew ?_))); (case s6 => exact Ct_0.out); (case s7 => repeat (first | exact (Kd.C_below Rt_1.out (below_step (below_step (below_step (below_step (below_step L_x11.out L_x12.out) L_x13.out) HB.out) L_z1.out) L_z3.out)) | (with_reducible refine Kd.C_alloc ?_ _) | (with_reducible refine Kd.C_drewN ?_ _) | (with_reducible refine Kd.C_drew ?_))); (case s8 => exact Ct_1.out); rintro e z4 ⟨rfl, hb⟩; (try clear hl_gX_0); (try clear hl_gX_1); (try clear hl_gT_0); (try clear hl_gT_1); have L_z4 := zm (show Below z3.heap.size z3 z4 from below_step (by repeat (with_reducible first | exact (Below.refl _ _) | apply below_alloc | apply pw_below_drewN | apply below_drew1)) hb); clear hb; have hl_gO_0 : z4.cell? ⟨gO, 0, none⟩ = some (.slice Ao_0 o1.length co_0) := (blk_cell (blk_below BO.out L_z4.out) 0).trans rfl; have hl_gO_1 : z4.cell? ⟨gO, 1, none⟩ = some (.slice Ao_1 o2.length co_1) := (blk_cell (blk_below BO.out L_z4.out) 1).trans rfl; have hl_gX_0 : z4.cell? ⟨gX, 0, none⟩ = some (.slice Ax_0 e1.length cx_0) := (blk_cell (blk_below BX.out (below_step (below_step (below_step (below_step (below_step (below_step (below_step L_x9.out L_x11.out) L_x12.out) L_x13.out) HB.out) L_z1.out) L_z3.out) L_z4.out)) 0).trans rfl; have hl_gX_1 : z4.cell? ⟨gX, 1, none⟩ = some (.slice Ax_1 e2.length cx_1) := (blk_cell (blk_below BX.out (below_step (below_step (below_step (below_step (below_step (below_step (below_step L_x9.out L_x11.out) L_x12.out) L_x13.out) HB.out) L_z1.out) L_z3.out) L_z4.out)) 1).trans rfl)
     | (go_at_call 29; (with_reducible refine (laws_sameDisk.calls k _ _ o1 _ _ o2 _ _ e1 _ _ e2 true _ ?s1 ?s2 ?s3 ?s4 ?s5 ?s6 ?s7 ?s8 T11.out).mono ?_); (case s1 => repeat (first | exact (Kd.C_below Ro_0.out (below_step L_z3.out L_z4.out)) | (with_reducible refine Kd.C_alloc ?_ _) | (with_reducible refine Kd.C_drewN ?_ _) | (with_reducible refine Kd.C_drew ?_))); (case s2 => exact Co_0.out); (case s3 => repeat (first | exact (Kd.C_below Ro_1.out (below_step L_z3.out L_z4.out)) | (with_reducible refine Kd.C_alloc ?_ _) | (with_reducible refine Kd.C_drewN ?_ _) | (with_reducible refine Kd.C_drew ?_))); (case s4 => exact Co_1.out); (case s5 => repeat (first | exact (Kd.C_below Rx_0.out (below_step (below_step (below_step (below_step (below_step (below_step (below_step (below_step L_x8.out L_x9.out) L_x11.out) L_x12.out) L_x13.out) HB.out) L_z1.out) L_z3.out) L_z4.out)) | (with_reducible refine Kd.C_alloc ?_ _) | (with_reducible refine Kd.C_drewN ?_ _) | (with_reducible refine Kd.C_drew ?_))); (case s6 => exact Cx_0.out); (case s7 => repeat (first | exact (Kd.C_below Rx_1.out (below_step (below_step (below_step (below_step (below_step (below_step (below_step (below_step L_x8.out L_x9.out) L_x11.out) L_x12.out) L_x13.out) HB.out) L_z1.out) L_z3.out) L_z4.out)) | (with_reducible refine Kd.C_alloc ?_ _) | (with_reducible refine Kd.C_drewN ?_ _) | (with_reducible refine Kd.C_drew ?_))); (case s8 => exact Cx_1.out); rintro e z5 ⟨rfl, hb⟩; (try clear hl_gO_0); (try clear hl_gO_1); (try clear hl_gX_0); (try clear hl_gX_1); have L_z5 := zm (show Below z4.heap.size z4 z5 from below_step (by repeat (with_reducible first | exact (Below.refl _ _) | apply below_alloc | apply pw_below_drewN | apply below_drew1)) hb); clear hb; have hl_gX_0 : z5.cell? ⟨gX, 0, none⟩ = some (.slice Ax_0 e1.length cx_0) := (blk_cell (blk_below BX.out (below_step (below_step (below_step (below_step (below_step (below_step (below_step (below_step L_x9.out L_x11.out) L_x12.out) L_x13.out) HB.out) L_z1.out) L_z3.out) L_z4.out) L_z5.out)) 0).trans rfl; have hl_gX_1 : z5.cell? ⟨gX, 1, none⟩ = some (.slice Ax_1 e2.length cx_1) := (blk_cell (blk_below BX.out (below_step (below_step (below_step (below_step (below_step (below_step (below_step (below_step L_x9.out L_x11.out) L_x12.out) L_x13.out) HB.out) L_z1.out) L_z3.out) L_z4.out) L_z5.out)) 1).trans rfl; have hl_gD_0 : z5.cell? ⟨gD, 0, none⟩ = some (.slice Ad_0 d1.length cd_0) := (blk_cell (blk_below BD.out (below_step (below_step (below_step (below_step (below_step (below_step (below_step (below_step (below_step (below_step (below_step (below_step L_x4.out L_x5.out) L_x6.out) L_x8.out) L_x9.out) L_x11.out) L_x12.out) L_x13.out) HB.out) L_z1.out) L_z3.out) L_z4.out) L_z5.out)) 0).trans rfl; have hl_gD_1 : z5.cell? ⟨gD, 1, none⟩ = some (.slice Ad_1 d2.length cd_1) := (blk_cell (blk_below BD.out (below_step (below_step (below_step (below_step (below_step (below_step (below_step (below_step (below_step (below_step (below_step (below_step L_x4.out L_x5.out) L_x6.out) L_x8.out) L_x9.out) L_x11.out) L_x12.out) L_x13.out) HB.out) L_z1.out) L_z3.out) L_z4.out) L_z5.out)) 1).trans rfl))
    go_ret
    exact ⟨rfl, (below_step (below_step (below_step (below_step (below_step (below_step (below_step (below_step (below_step (below_step (below_step (below_step (below_step (below_step L_x1.out L_x3.out) L_x4.out) L_x5.out) L_x6.out) L_x8.out) L_x9.out) L_x11.out) L_x12.out) L_x13.out) HB.out) L_z1.out) L_z3.out) L_z4.out) L_z5.out)⟩
end
/-! ### Base -/
def okI (x : Int) : Prop := (Lit.int .i64 x).wf = true
def okU8 (x : Int) : Prop := (Lit.int .u8 x).wf = true
def okB (_ : Bool) : Prop := True
def okS (x : ByteArray) : Prop := x.size ≤ maxLen
theorem w64 {n : Int} (h0 : -9223372036854775808 ≤ n) (h1 : n ≤ 9223372036854775807) : wrap64 n = n := by unfold wrap64; omega
theorem okI_iff {n : Int} (h : (Lit.int .i64 n).wf = true) : -9223372036854775808 ≤ n ∧ n ≤ 9223372036854775807 := by
  simp [Lit.wf, IntKind.min, IntKind.max, IntKind.signed, IntKind.bits] at h
  omega
theorem Ev.k {α : Type} {g : Nat → Option α} {r : α} (K : Nat) (h : ∀ k, K ≤ k → g k = some r) : Ev g r := ⟨K, h⟩
theorem ev_some {α : Type} (r : α) : Ev (fun _ => some r) r := ⟨0, fun _ _ => rfl⟩
theorem ev_of_eq {α : Type} {g : Nat → Option α} {r : α} (h : ∀ k, g k = some r) : Ev g r := ⟨0, fun k _ => h k⟩
theorem ev_bind {α β : Type} {g : Nat → Option α} {f : Nat → α → Option β} {a : α} {r : β} (h : Ev g a) (k : Ev (fun n => f n a) r) : Ev (fun n => (g n).bind (f n)) r := Ev.bind h k
theorem ev_if {α : Type} {c : Prop} [Decidable c] {g f : Nat → Option α} {r : α} (h : c → Ev g r) (h' : ¬ c → Ev f r) : Ev (fun n => if c then g n else f n) r := by
  by_cases hc : c
  · simp only [if_pos hc]; exact h hc
  · simp only [if_neg hc]; exact h' hc
theorem ev_pos {α : Type} {c : Prop} [Decidable c] {g f : Nat → Option α} {r : α} (hc : c) (h : Ev g r) : Ev (fun n => if c then g n else f n) r := by
  simp only [if_pos hc]; exact h
theorem ev_neg {α : Type} {c : Prop} [Decidable c] {g f : Nat → Option α} {r : α} (hc : ¬ c) (h : Ev f r) : Ev (fun n => if c then g n else f n) r := by
  simp only [if_neg hc]; exact h
theorem strOfNums_size (l : List Int) : (strOfNums l).size = l.length := by show (List.map _ l).toArray.size = _; simp
theorem ba_size_append (a b : ByteArray) : (a ++ b).size = a.size + b.size := by simp
theorem toList_inj {a b : ByteArray} : a.toList = b.toList ↔ a = b := by
  constructor
  · intro h
    have h1 : a.data.toList = b.data.toList := by simpa [ByteArray.toList_eq] using h
    have : a.data = b.data := Array.toList_inj.1 h1
    cases a; cases b; simp_all
  · rintro rfl; rfl
/-! ### Src -/
def srcOK (at_ seed : Int) (n : Nat) : Prop := 0 ≤ at_ ∧ at_ ≤ (n : Int) ∧ 0 ≤ seed ∧ seed < 2147483648
theorem rd_byte (l : List Int) (h : ∀ x ∈ l, 0 ≤ x ∧ x ≤ 255) (i : Int) : 0 ≤ rd l i ∧ rd l i ≤ 255 := by
  unfold rd
  by_cases hi : i.toNat < l.length
  · have : l.getD i.toNat 0 = l[i.toNat] := by simp [hi]
    rw [this]; exact h _ (List.getElem_mem hi)
  · have : l.getD i.toNat 0 = 0 := by simp [hi]
    rw [this]; omega
theorem byte_ok (l : List Int) (h : ∀ x ∈ l, 0 ≤ x ∧ x ≤ 255) (at_ seed : Int) (n : Nat) (hs : srcOK at_ seed n) (hn : n ≤ 1000000000000) :
    ∃ r a s, spec_l00Src_byte.f l at_ seed = some (r, a, s) ∧ 0 ≤ r ∧ r ≤ 255 ∧ srcOK a s (n + 1) := by
  obtain ⟨h0, h1, h2, h3⟩ := hs
  unfold spec_l00Src_byte.f
  have e1 : wrap64 (at_ + 1) = at_ + 1 := w64 (by omega) (by omega)
  have e2 : wrap64 (at_ + 1 - 1) = at_ := by rw [w64 (by omega) (by omega)]; omega
  rw [e1, e2]
  by_cases c1 : at_ + 1 ≤ (l.length : Int)
  · rw [if_pos c1, if_pos h0, if_pos (by omega)]
    have hb := rd_byte l h at_
    generalize rd l at_ = v at hb ⊢
    have e3 : wrap64 v = v := w64 (by omega) (by omega)
    have e4 : wrap64 (seed * 31) = seed * 31 := w64 (by omega) (by omega)
    rw [e3, e4]
    have e5 : wrap64 (seed * 31 + v) = seed * 31 + v := w64 (by omega) (by omega)
    rw [e5]
    have e6 : wrap64 (seed * 31 + v + 7) = seed * 31 + v + 7 := w64 (by omega) (by omega)
    rw [e6]
    refine ⟨_, _, _, rfl, hb.1, hb.2, by omega, by omega, ?_, ?_⟩
    · rw [Int.tmod_eq_emod_of_nonneg (by omega)]; omega
    · rw [Int.tmod_eq_emod_of_nonneg (by omega)]; omega
  · rw [if_neg c1]
    by_cases c2 : at_ + 1 > 3000
    · rw [if_pos c2]; exact ⟨_, _, _, rfl, by omega, by omega, by omega, by omega, h2, h3⟩
    · rw [if_neg c2]
      have e4 : wrap64 (seed * 1103515245) = seed * 1103515245 := w64 (by omega) (by omega)
      rw [e4]
      have e6 : wrap64 (seed * 1103515245 + 12345) = seed * 1103515245 + 12345 := w64 (by omega) (by omega)
      rw [e6, Int.tmod_eq_emod_of_nonneg (by omega : 0 ≤ seed * 1103515245 + 12345)]
      have hq0 : 0 ≤ (seed * 1103515245 + 12345) % 2147483648 := by omega
      have hq1 : (seed * 1103515245 + 12345) % 2147483648 < 2147483648 := by omega
      generalize (seed * 1103515245 + 12345) % 2147483648 = q at hq0 hq1 ⊢
      rw [Int.tdiv_eq_ediv_of_nonneg hq0]
      have e7 : wrap64 (q / 65536) = q / 65536 := w64 (by omega) (by omega)
      rw [e7, Int.tmod_eq_emod_of_nonneg (by omega)]
      exact ⟨_, _, _, rfl, by omega, by omega, by omega, by omega, hq0, hq1⟩
theorem srcOK_mono {a s : Int} {n m : Nat} (h : srcOK a s n) (hm : n ≤ m) : srcOK a s m := ⟨h.1, by have := h.2.1; omega, h.2.2.1, h.2.2.2⟩
theorem tmod_range {x n : Int} (h0 : 0 ≤ x) (hn : 0 < n) : 0 ≤ Int.tmod x n ∧ Int.tmod x n < n := by
  rw [Int.tmod_eq_emod_of_nonneg h0]; exact ⟨Int.emod_nonneg _ (by omega), Int.emod_lt_of_pos _ hn⟩
theorem next_ok (l : List Int) (h : ∀ x ∈ l, 0 ≤ x ∧ x ≤ 255) (at_ seed : Int) (n : Nat) (hs : srcOK at_ seed n) (hn : n ≤ 100000000000) (m : Int) :
    ∃ r a s, spec_l00Src_next.f l at_ seed m = some (r, a, s) ∧ 0 ≤ r ∧ (m ≤ 1 → r = 0) ∧ (1 ≤ m → r < m) ∧ srcOK a s (n + 3) := by
  unfold spec_l00Src_next.f
  by_cases c1 : m ≤ 1
  · rw [if_pos c1]; exact ⟨_, _, _, rfl, by omega, fun _ => rfl, fun _ => by omega, srcOK_mono hs (by omega)⟩
  · rw [if_neg c1]
    obtain ⟨r, a, s, e, r0, r1, ho⟩ := byte_ok l h at_ seed n hs (by omega)
    by_cases c2 : m ≤ 256
    · rw [if_pos c2, e, Option.bind_some, if_neg (by omega)]
      have := tmod_range r0 (show 0 < m by omega)
      exact ⟨_, _, _, rfl, this.1, fun h => absurd h c1, fun _ => this.2, srcOK_mono ho (by omega)⟩
    · rw [if_neg c2, e, Option.bind_some]
      obtain ⟨r', a', s', e', r0', r1', ho'⟩ := byte_ok l h a s (n + 1) ho (by omega)
      rw [e', Option.bind_some]
      obtain ⟨r'', a'', s'', e'', r0'', r1'', ho''⟩ := byte_ok l h a' s' (n + 2) ho' (by omega)
      rw [e'', Option.bind_some, if_neg (by omega)]
      dsimp only
      have x1 : wrap64 (r * 65536) = r * 65536 := w64 (by omega) (by omega)
      have x2 : wrap64 (r' * 256) = r' * 256 := w64 (by omega) (by omega)
      rw [x1, x2]
      have x3 : wrap64 (r * 65536 + r' * 256) = r * 65536 + r' * 256 := w64 (by omega) (by omega)
      rw [x3]
      have x4 : wrap64 (r * 65536 + r' * 256 + r'') = r * 65536 + r' * 256 + r'' := w64 (by omega) (by omega)
      rw [x4]
      have := tmod_range (show 0 ≤ r * 65536 + r' * 256 + r'' by omega) (show 0 < m by omega)
      exact ⟨_, _, _, rfl, this.1, fun h => absurd h c1, fun _ => this.2, ho''⟩
theorem source_ok (l : List Int) : srcOK 0 ((l.length : Int) % 1000) 0 := ⟨by omega, by omega, by omega, by omega⟩
theorem bytes_of {l : List Int} (h : ∀ x ∈ l, (Lit.int .u8 x).wf = true) : ∀ x ∈ l, 0 ≤ x ∧ x ≤ 255 := by
  intro x hx
  have := h x hx
  simp [Lit.wf, IntKind.min, IntKind.max, IntKind.signed, IntKind.bits] at this
  omega
/-! ### Mark -/
theorem ev_loop {α : Type} {g : Nat → Nat → Option α} {r : α} (n : Nat) (hend : Ev (fun k => g k n) r) (hstep : ∀ i, i < n → ∃ c, ∀ k, g (k + c) i = g k (i + 1) ∧ 1 ≤ c) : ∀ d i, i ≤ n → n - i = d → Ev (fun k => g k i) r := by
  intro d
  induction d with
  | zero =>
    intro i hi hd
    have e : i = n := by omega
    rw [e]; exact hend
  | succ d ih =>
    intro i hi hd
    obtain ⟨K, hK⟩ := ih (i + 1) (by omega) (by omega)
    obtain ⟨c, hc⟩ := hstep i (by omega)
    refine ⟨K + c, fun k hk => ?_⟩
    obtain ⟨m, rfl⟩ : ∃ m, k = m + c := ⟨k - c, by omega⟩
    show g (m + c) i = _
    rw [(hc m).1]; exact hK m (by omega)
theorem rdn (l : List Int) (i : Nat) (h : i < l.length) : rd l (i : Int) = l[i] := by simp [rd, h]
theorem wnext (i : Nat) (h : i < 1000000000000000000) : wrap64 ((i : Int) + 1) = ((i + 1 : Nat) : Int) := by rw [w64 (by omega) (by omega)]; omega
def countUp (a : Int) (n : Nat) : List Int := (List.range n).map (fun j : Nat => a + (j : Int))
theorem countUp_length (a : Int) (n : Nat) : (countUp a n).length = n := by simp [countUp]
theorem countUp_get (a : Int) (n i : Nat) (h : i < n) : (countUp a n)[i]'(by rw [countUp_length]; exact h) = a + (i : Int) := by simp [countUp]
theorem set_mid {α : Type} (l m : List α) (hlm : m.length = l.length) (i : Nat) (h : i < l.length) (x : α) (hx : m[i]'(by omega) = x) : (m.take i ++ l.drop i).set i x = m.take (i + 1) ++ l.drop (i + 1) := by
  subst hx
  rw [List.drop_eq_getElem_cons h, List.set_append_right _ _ (by rw [List.length_take]; omega)]
  have : i - (m.take i).length = 0 := by rw [List.length_take]; omega
  rw [this, List.set_cons_zero, List.take_succ_eq_append_getElem (by omega), List.append_assoc]
  rfl
/-! ### Ev -/
theorem Ev.succ {α : Type} {g : Nat → Option α} {r : α} (h : Ev (fun k => g (k + 1)) r) : Ev g r := Ev.step (f := fun k => g (k + 1)) (fun _ => rfl) h
theorem ev_all {α : Type} {g : Nat → Nat → Option Bool} (l : List α) (q : α → Bool) (r : Bool) (hend : Ev (fun k => g k l.length) r) (hstep : ∀ i (h : i < l.length) k, g (k + 1) i = if q l[i] = true then g k (i + 1) else some false) : Ev (fun k => g k 0) (l.all q && r) := by
  have hgo : ∀ d i, i ≤ l.length → l.length - i = d → Ev (fun k => g k i) ((l.drop i).all q && r) := by
    intro d
    induction d with
    | zero =>
      intro i hi hd
      have e : i = l.length := by omega
      subst e
      rw [List.drop_of_length_le (by omega)]; simp only [List.all_nil, Bool.true_and]; exact hend
    | succ d ih =>
      intro i hi hd
      have hlt : i < l.length := by omega
      refine Ev.step (f := fun k => if q l[i] = true then g k (i + 1) else some false) (hstep i hlt) ?_
      rw [List.drop_eq_getElem_cons hlt, List.all_cons]
      cases hq : q l[i]
      · simp only [Bool.false_and, Bool.false_eq_true, if_false]; exact ev_some _
      · simp only [Bool.true_and, if_true]; exact ih (i + 1) (by omega) (by omega)
  have := hgo l.length 0 (by omega) (by omega)
  rwa [List.drop_zero] at this
theorem ev_asks {α β : Type} {g : Nat → Nat → Option β} (l : List α) (q : α → Bool) (r bad : β) (hend : Ev (fun k => g k l.length) r) (hstep : ∀ i (h : i < l.length) k, g (k + 1) i = if q l[i] = true then g k (i + 1) else some bad) : Ev (fun k => g k 0) (if l.all q = true then r else bad) := by
  have hgo : ∀ d i, i ≤ l.length → l.length - i = d → Ev (fun k => g k i) (if (l.drop i).all q = true then r else bad) := by
    intro d
    induction d with
    | zero =>
      intro i hi hd
      have e : i = l.length := by omega
      subst e
      rw [List.drop_of_length_le (by omega)]; simp only [List.all_nil, if_true]; exact hend
    | succ d ih =>
      intro i hi hd
      have hlt : i < l.length := by omega
      refine Ev.step (f := fun k => if q l[i] = true then g k (i + 1) else some bad) (hstep i hlt) ?_
      rw [List.drop_eq_getElem_cons hlt, List.all_cons]
      cases hq : q l[i]
      · simp only [Bool.false_and, Bool.false_eq_true, if_false]; exact ev_some _
      · simp only [Bool.true_and, if_true]; exact ih (i + 1) (by omega) (by omega)
  have := hgo l.length 0 (by omega) (by omega)
  rwa [List.drop_zero] at this
/-! ### Draw -/
theorem some_fill (l : List Int) (h : ∀ x ∈ l, 0 ≤ x ∧ x ≤ 255) (m : Nat) (hm : m ≤ 1000000) : ∀ (d i : Nat) (out : List Int) (at_ seed : Int) (n : Nat), i + d = m → out.length = i → n + 3 * d ≤ 10000000000 → srcOK at_ seed n →
    ∃ t a s, Ev (fun k => spec_l00Src_some.l0 k (m : Int) out (i : Int) l at_ seed) (t, a, s) ∧ t.size = m ∧ srcOK a s (n + 3 * d) := by
  intro d
  induction d with
  | zero =>
    intro i out at_ seed n hi ho hn hs
    refine ⟨strOfNums out, at_, seed, Ev.step (f := fun _ => some (strOfNums out, at_, seed)) (fun k => ?_) (ev_some _), by rw [strOfNums_size]; omega, hs⟩
    simp only [spec_l00Src_some.l0]; rw [if_neg (by omega)]
  | succ d ih =>
    intro i out at_ seed n hi ho hn hs
    obtain ⟨r, a, s, e, r0, -, r1, o⟩ := next_ok l h at_ seed n hs (by omega) 26
    obtain ⟨t, a', s', e', ht, ho'⟩ := ih (i + 1) (out ++ [(wrap64 (97 + r)) % 256]) a s (n + 3) (by omega) (by simp; omega) (by omega) o
    refine ⟨t, a', s', Ev.step (f := fun k => spec_l00Src_some.l0 k (m : Int) (out ++ [(wrap64 (97 + r)) % 256]) ((i + 1 : Nat) : Int) l a s) (fun k => ?_) e', ht, srcOK_mono ho' (by omega)⟩
    simp only [spec_l00Src_some.l0]
    rw [if_pos (by omega), e, Option.bind_some, if_pos (by omega), wnext i (by omega)]
theorem some_ev (l : List Int) (h : ∀ x ∈ l, 0 ≤ x ∧ x ≤ 255) (m : Nat) (hm : m ≤ 1000000) (at_ seed : Int) (n : Nat) (hs : srcOK at_ seed n) (hn : n + 3 * m ≤ 10000000000) :
    ∃ t a s, Ev (fun k => spec_l00Src_some.f k l at_ seed (m : Int)) (t, a, s) ∧ t.size = m ∧ srcOK a s (n + 3 * m) :=
  some_fill l h m hm m 0 [] at_ seed n (by omega) rfl hn hs
/-! ### In -/
def inB (n a b : Int) : Bool := decide (a ≤ n) && decide (n ≤ b)
theorem inB_iff {n a b : Int} : inB n a b = true ↔ a ≤ n ∧ n ≤ b := by simp [inB]
theorem inB_no {n a b : Int} : inB n a b = false ↔ ¬ (a ≤ n ∧ n ≤ b) := by rw [← inB_iff]; simp
theorem l01In_eq (n a b : Int) : spec_l01In.f n a b = some (inB n a b) := by
  unfold spec_l01In.f inB; by_cases h : a ≤ n <;> simp [h]
theorem within_eq (n a b : Int) : impl_within.f n a b = some (inB n a b) := by
  unfold impl_within.f inB; by_cases h : a ≤ n <;> simp [h]
theorem and_opt {b : Bool} {c : Option Bool} {c' : Bool} (h : c = some c') : (if b = true then c else some false) = some (b && c') := by
  cases b <;> simp [h]
section
attribute [local go_sem high] eqA28
/-! ### impl_isLongText: function 55 -/
def impl_isLongText.f (a0 : ByteArray) : Option (Bool) := some (decide ((a0.size : Int) > 65536))
set_option maxHeartbeats 8000000 in
set_option maxRecDepth 100000 in
theorem impl_isLongText.calls (a0 : ByteArray) (r : Bool) (w : World) (h : impl_isLongText.f a0 = some r) :
    Calls Try.prog 55 #[.string a0] w fun e w' => e = .returned (.bool r) ∧ Drawn0 w w' := by
  have H : (some (decide ((a0.size : Int) > 65536))) = some r := h
  clear h
  obtain rfl := Option.some.inj H
  go_enter Try.func55, Try.ntmps55
  go_wp2
  go_ret
  exact ⟨by first | rfl | (simp; done) | (simp [*]; done), by repeat (first | exact Drawn0.refl _ | apply Drawn0.step)⟩
end
/-! ### First -/
theorem first1 (b : Bool) (c : Int) : impl_first.f [Any.b b, Any.n c] = some (if b = true then c else 0) := by
  unfold impl_first.f; cases b <;> simp [firstO]
theorem first2 (b b' : Bool) (c c' : Int) : impl_first.f [Any.b b, Any.n c, Any.b b', Any.n c'] = some (if b = true then c else if b' = true then c' else 0) := by
  unfold impl_first.f; cases b <;> cases b' <;> simp [firstO]
theorem first3 (b b' b'' : Bool) (c c' c'' : Int) : impl_first.f [Any.b b, Any.n c, Any.b b', Any.n c', Any.b b'', Any.n c''] = some (if b = true then c else if b' = true then c' else if b'' = true then c'' else 0) := by
  unfold impl_first.f; cases b <;> cases b' <;> cases b'' <;> simp [firstO]
theorem first4 (b b' b'' b3 : Bool) (c c' c'' c3 : Int) : impl_first.f [Any.b b, Any.n c, Any.b b', Any.n c', Any.b b'', Any.n c'', Any.b b3, Any.n c3] = some (if b = true then c else if b' = true then c' else if b'' = true then c'' else if b3 = true then c3 else 0) := by
  unfold impl_first.f; cases b <;> cases b' <;> cases b'' <;> cases b3 <;> simp [firstO]
theorem isLongText_eq (t : ByteArray) : impl_isLongText.f t = some (decide ((t.size : Int) > 65536)) := by unfold impl_isLongText.f; rfl
/-! ### MarkT -/
theorem ev_down {α : Type} {g : Nat → Nat → Option α} {r : α} (n : Nat) (hend : Ev (fun k => g k n) r) (hstep : ∀ i, i < n → Ev (fun k => g k (i + 1)) r → Ev (fun k => g k i) r) : Ev (fun k => g k 0) r := by
  have : ∀ d i, i ≤ n → n - i = d → Ev (fun k => g k i) r := by
    intro d
    induction d with
    | zero => intro i hi hd; have e : i = n := by omega
              rw [e]; exact hend
    | succ d ih => intro i hi hd; exact hstep i (by omega) (ih (i + 1) (by omega) (by omega))
  exact this n 0 (by omega) (by omega)
/-! ### PString -/
theorem rdE_String (l : List ByteArray) (i : Nat) (h : i < l.length) : rdOf ByteArray.empty l (i : Int) = l[i] := by simp [rdOf, h]
theorem rdset_String (l : List ByteArray) (i : Nat) (v : ByteArray) (h : i < l.length) : rdOf ByteArray.empty (l.set i v) (i : Int) = v := by simp [rdOf, h]
def cvString (x : ByteArray) : ByteArray := x
/-! ### PIo -/
theorem rdE_Io (l : List S92) (i : Nat) (h : i < l.length) : rd_T92 l (i : Int) = l[i] := by simp [rd_T92, h]
theorem rdset_Io (l : List S92) (i : Nat) (v : S92) (h : i < l.length) : rd_T92 (l.set i v) (i : Int) = v := by simp [rd_T92, h]
/-! ### Disk -/
def ioOK (x : S92) : Bool := inB x.f0 0 3 && (inB x.f1 0 63 && decide ((x.f2.size : Int) ≤ 80))
def secOK (x : ByteArray) : Bool := decide ((x.size : Int) ≤ 80)
def diskOK (d : List ByteArray) (l : List S92) : Bool := decide ((d.length : Int) = 64) && (decide ((l.length : Int) ≤ 200) && (d.all secOK && l.all ioOK))
theorem l01Io_eq (x : S92) : spec_l01Io.f x.f0 x.f1 x.f2 = some (ioOK x) := by
  simp only [spec_l01Io.f, l01In_eq, Option.bind_some]
  unfold ioOK; exact and_opt (and_opt rfl)
theorem DiskOK_1_eq (x : S92) : impl_DiskOK_1.f x.f0 x.f1 x.f2 = some (ioOK x) := by
  simp only [impl_DiskOK_1.f, impl_isHost.f, impl_isPlace.f, impl_isSector.f, within_eq, Option.bind_some]
  unfold ioOK; exact and_opt (and_opt rfl)
theorem impl_DiskOK_eq (d : List ByteArray) (l : List S92) : impl_DiskOK.f d l = some (diskOK d l) := by
  have h1 : all90_impl_isSector.f d () = some (d.all secOK) := by unfold all90_impl_isSector.f; exact allO_some _ _ (fun x _ => rfl)
  have h2 : all91_impl_DiskOK_1.f l () = some (l.all ioOK) := by unfold all91_impl_DiskOK_1.f; exact allO_some _ _ (fun x _ => DiskOK_1_eq x)
  unfold impl_DiskOK.f diskOK
  rw [h1, h2]
  by_cases e1 : (d.length : Int) = 64 <;> by_cases e2 : (l.length : Int) ≤ 200 <;> cases d.all secOK <;> simp [e1, e2]
theorem spec_DiskOK_ev (d : List ByteArray) (l : List S92) (hd : d.length ≤ 1000000000) (hl : l.length ≤ 1000000000) : Ev (fun k => spec_DiskOK.f k d l) (diskOK d l) := by
  have hI : Ev (fun k => spec_DiskOK.l1 k ((0 : Nat) : Int) d l) (l.all ioOK && true) := by
    refine ev_all (g := fun k i => spec_DiskOK.l1 k (i : Int) d l) l ioOK true ?_ ?_
    · refine Ev.step (f := fun _ => some true) (fun k => ?_) (ev_some _)
      simp only [spec_DiskOK.l1]; rw [if_neg (by omega)]
    · intro i hi k
      simp only [spec_DiskOK.l1]
      rw [if_pos (by omega), if_pos (by omega), rdE_Io l i hi, l01Io_eq, Option.bind_some, wnext i (by omega)]
  have hS : Ev (fun k => spec_DiskOK.l0 k ((0 : Nat) : Int) d l) (d.all secOK && (l.all ioOK && true)) := by
    refine ev_all (g := fun k i => spec_DiskOK.l0 k (i : Int) d l) d secOK _ ?_ ?_
    · refine Ev.step (f := fun k => spec_DiskOK.l1 k ((0 : Nat) : Int) d l) (fun k => ?_) hI
      simp only [spec_DiskOK.l0]; rw [if_neg (by omega)]; rfl
    · intro i hi k
      simp only [spec_DiskOK.l0]
      rw [if_pos (by omega), if_pos (by omega), rdE_String d i hi, wnext i (by omega)]
      unfold secOK
      by_cases hz : (d[i].size : Int) > 80
      · rw [if_pos hz, if_neg (by simp; omega)]
      · rw [if_neg hz, if_pos (by simp; omega)]
  rw [Bool.and_true] at hS
  unfold spec_DiskOK.f diskOK
  by_cases e1 : (d.length : Int) = 64
  · rw [decide_eq_true e1, Bool.true_and]
    refine ev_pos e1 (Ev.succ ?_)
    simp only [spec_DiskOK.j0, decide_eq_true_eq]
    by_cases e2 : (l.length : Int) ≤ 200
    · refine ev_neg (by omega) ?_
      rw [decide_eq_true e2, Bool.true_and]; exact hS
    · refine ev_pos (by omega) ?_
      rw [decide_eq_false e2, Bool.false_and]; exact ev_some _
  · rw [decide_eq_false e1, Bool.false_and]
    refine ev_neg e1 (Ev.succ ?_)
    simp only [spec_DiskOK.j0, if_true]; exact ev_some _
theorem cvStringS (d : List ByteArray) : d.map cvString = d := by induction d with
  | nil => rfl
  | cons x xs ih => rw [List.map_cons, ih]; rfl
/-! ### Settle -/
theorem own_eq (d : List ByteArray) (l : List S92) (hd : d.length ≤ 1000000000) (hl : l.length ≤ 1000000000) : spec_l01Own.f d l = some (d, l) := by
  unfold spec_l01Own.f
  simp only [Option.bind_some, List.length_nil, List.nil_append]
  rw [if_pos (by omega), if_pos (by omega)]
theorem copied_eq (d : List ByteArray) (l : List S92) (hd : d.length ≤ 1000000000) (hl : l.length ≤ 1000000000) : impl_Disk_copied.f d l = some (d, l) := by
  simp only [impl_Disk_copied.f, slices_Clone_string_string.f, impl_Io_118.f]
  rw [if_pos (by omega), if_pos (by omega)]; rfl
theorem go_total (host : Int) (lose : Bool) : ∀ (l : List S92) (keep : Int) (secs : List ByteArray), (∀ x ∈ l, 0 ≤ x.f1 ∧ x.f1 < (secs.length : Int)) → ∃ q, impl_Disk_settle_go host lose l keep secs = some q ∧ q.1.length ≤ l.length ∧ q.2.2.length = secs.length := by
  intro l
  induction l with
  | nil => intro keep secs _; exact ⟨_, rfl, Nat.le_refl _, rfl⟩
  | cons x r ih =>
    intro keep secs h
    have hx := h x (by simp)
    have hs : ∃ b, impl_Disk_settle_stp host lose keep secs x = some b ∧ b.2.2.length = secs.length := by
      unfold impl_Disk_settle_stp
      by_cases c1 : x.f0 = host
      · rw [if_pos c1]
        by_cases c2 : keep > 0
        · rw [if_pos c2, if_pos hx.1, if_pos hx.2]; exact ⟨_, rfl, by simp⟩
        · rw [if_neg c2]; exact ⟨_, rfl, rfl⟩
      · rw [if_neg c1]; exact ⟨_, rfl, rfl⟩
    obtain ⟨⟨b, k1, s1⟩, e1, e2⟩ := hs
    obtain ⟨q, q1, q2, q3⟩ := ih k1 s1 (fun y hy => by have := h y (by simp [hy]); rw [e2]; exact this)
    refine ⟨(if b = true then q.1 else x :: q.1, q.2.1, q.2.2), by simp only [impl_Disk_settle_go, e1, q1, Option.bind_some], ?_, by show q.2.2.length = _; rw [q3]; exact e2⟩
    cases b
    · show (x :: q.1).length ≤ (x :: r).length; simp only [List.length_cons]; omega
    · show q.1.length ≤ (x :: r).length; simp only [List.length_cons]; omega
theorem land_from (host : Int) (lose : Bool) (pend : List S92) (hp : pend.length ≤ 1000000000) : ∀ d i (keep : Int) (secs : List ByteArray) (out : List S92) (q : List S92 × Int × List ByteArray), pend.length - i = d → i ≤ pend.length → out.length ≤ i → impl_Disk_settle_go host lose (pend.drop i) keep secs = some q →
    Ev (fun k => spec_l01Land.l0 k host keep lose out (i : Int) secs pend) (q.2.2, out ++ q.1) := by
  intro d
  induction d with
  | zero =>
    intro i keep secs out q hd hi ho h
    rw [List.drop_of_length_le (by omega)] at h
    simp only [impl_Disk_settle_go, Option.some.injEq] at h
    subst h
    refine Ev.step (f := fun _ => some (secs, out ++ [])) (fun k => ?_) (ev_some _)
    simp only [spec_l01Land.l0, List.append_nil]; rw [if_neg (by omega)]
  | succ d ih =>
    intro i keep secs out q hd hi ho h
    have hlt : i < pend.length := by omega
    rw [List.drop_eq_getElem_cons hlt] at h
    simp only [impl_Disk_settle_go] at h
    obtain ⟨⟨b, k1, s1⟩, e1, h⟩ := Option.bind_eq_some_iff.mp h
    obtain ⟨q1, e2, h⟩ := Option.bind_eq_some_iff.mp h
    simp only [Option.some.injEq] at h
    subst h
    have hap : ∀ x : S92, (⟨x.f0, x.f1, x.f2⟩ : S92) = x := fun _ => rfl
    refine Ev.succ ?_
    simp only [spec_l01Land.l0, rdE_Io pend i hlt, hap]
    refine ev_pos (by omega) (ev_pos (by omega) ?_)
    rw [wnext i (by omega)]
    unfold impl_Disk_settle_stp at e1
    by_cases c1 : pend[i].f0 = host
    · rw [if_pos c1] at e1
      refine ev_pos c1 ?_
      by_cases c2 : keep > 0
      · rw [if_pos c2] at e1
        refine ev_pos c2 ?_
        by_cases c3 : 0 ≤ pend[i].f1
        · rw [if_pos c3] at e1
          by_cases c4 : pend[i].f1 < (secs.length : Int)
          · rw [if_pos c4] at e1
            simp only [Option.some.injEq, Prod.mk.injEq] at e1
            obtain ⟨rfl, rfl, rfl⟩ := e1
            exact ev_pos c3 (ev_pos c4 (ih (i + 1) _ _ out q1 (by omega) (by omega) (by omega) e2))
          · rw [if_neg c4] at e1; cases e1
        · rw [if_neg c3] at e1; cases e1
      · rw [if_neg c2] at e1
        simp only [Option.some.injEq, Prod.mk.injEq] at e1
        obtain ⟨rfl, rfl, rfl⟩ := e1
        refine ev_neg c2 ?_
        cases lose with
        | true => exact ev_pos rfl (ih (i + 1) _ _ out q1 (by omega) (by omega) (by omega) e2)
        | false =>
          refine ev_neg (by decide) (ev_pos (by omega) ?_)
          have := ih (i + 1) _ _ (out ++ [pend[i]]) q1 (by omega) (by omega) (by simp; omega) e2
          simpa using this
    · rw [if_neg c1] at e1
      simp only [Option.some.injEq, Prod.mk.injEq] at e1
      obtain ⟨rfl, rfl, rfl⟩ := e1
      refine ev_neg c1 (ev_pos (by omega) ?_)
      have := ih (i + 1) _ _ (out ++ [pend[i]]) q1 (by omega) (by omega) (by simp; omega) e2
      simpa using this
/-- What settling makes of a sound disk. -/
theorem settled {d : List ByteArray} {l : List S92} (h : diskOK d l = true) (host keep : Int) (lose : Bool) : ∃ q : List ByteArray × List S92, q.1.length ≤ 64 ∧ q.2.length ≤ 200 ∧ impl_Disk_settle.f d l host keep lose = some q ∧ Ev (fun k => spec_l01Land.f k d l host keep lose) q := by
  unfold diskOK at h
  simp only [Bool.and_eq_true, decide_eq_true_eq, List.all_eq_true] at h
  obtain ⟨h1, h2, _, h4⟩ := h
  have hx : ∀ x ∈ l, 0 ≤ x.f1 ∧ x.f1 < (d.length : Int) := fun x hx => by
    have := h4 x hx
    unfold ioOK at this
    simp only [Bool.and_eq_true] at this
    have := inB_iff.1 this.2.1
    omega
  obtain ⟨q, q1, q2, q3⟩ := go_total host lose l keep d hx
  refine ⟨(q.2.2, q.1), by show q.2.2.length ≤ _; omega, by show q.1.length ≤ _; omega, ?_, ?_⟩
  · unfold impl_Disk_settle.f
    rw [copied_eq d l (by omega) (by omega), Option.bind_some]
    show (if l.length ≤ 1000000000 then _ else _) = _
    rw [if_pos (by omega)]
    show (impl_Disk_settle_go host lose l keep d).bind _ = _
    rw [q1]; rfl
  · unfold spec_l01Land.f
    rw [own_eq d l (by omega) (by omega)]
    have := land_from host lose l (by omega) l.length 0 keep d [] q (by omega) (by omega) (by simp) (by simpa using q1)
    simpa using this
theorem ask_ev (d : List ByteArray) (l : List S92) (a : Int) (hd : d.length ≤ 1000000000) (hl : l.length ≤ 1000000000) : Ev (fun k => spec_l01Ask.f k d l a 0) (if diskOK d l = true then (if inB a 0 3 = true then 0 else 4) else 1) := by
  unfold spec_l01Ask.f
  refine ev_bind (spec_DiskOK_ev d l hd hl) ?_
  cases diskOK d l
  · exact ev_some _
  · simp only [l01In_eq, Option.bind_some, if_true]
    cases inB a 0 3
    · exact ev_some _
    · exact ev_some _
theorem codes_eq (d : List ByteArray) (l : List S92) (a : Int) : impl_Disk_codes.f d l a = some (if diskOK d l = true then (if inB a 0 3 = true then 0 else 4) else 1) := by
  simp only [impl_Disk_codes.f, impl_DiskOK_eq, impl_isHost.f, within_eq, Option.bind_some]
  cases diskOK d l
  · simp [impl_first.f, firstO]
  · cases inB a 0 3 <;> simp [impl_first.f, firstO]
/-! ### Count -/
def countOf (host : Int) (l : List S92) : Nat := (l.filter (fun x => x.f0 == host)).length
theorem count_take (host : Int) (l : List S92) (i : Nat) (h : i < l.length) : countOf host (l.take (i + 1)) = if l[i].f0 = host then countOf host (l.take i) + 1 else countOf host (l.take i) := by
  unfold countOf
  rw [List.take_succ_eq_append_getElem h, List.filter_append, List.length_append]
  by_cases c : l[i].f0 = host
  · rw [if_pos c]; simp [c]
  · rw [if_neg c]; simp [c]
theorem count_le (host : Int) (l : List S92) : countOf host l ≤ l.length := by unfold countOf; exact List.length_filter_le _ _
theorem count_take_le (host : Int) (l : List S92) (i : Nat) : countOf host (l.take i) ≤ l.length := Nat.le_trans (count_le _ _) (by simp; omega)
theorem impl_count_ev (d : List ByteArray) (l : List S92) (a : Int) (hl : l.length ≤ 1048576) : Ev (fun k => impl_Disk_pending.f k d l a) ((countOf a l : Nat) : Int) := by
  unfold impl_Disk_pending.f
  have h := ev_loop (g := fun k i => impl_Disk_pending.l0 k a ((countOf a (l.take i) : Nat) : Int) l (l.length : Int) (i : Int)) (r := ((countOf a l : Nat) : Int)) l.length ?_ ?_ l.length 0 (by omega) (by omega)
  · simpa [countOf] using h
  · refine Ev.step (f := fun _ => some ((countOf a l : Nat) : Int)) (fun k => ?_) (ev_some _)
    simp only [impl_Disk_pending.l0]; rw [if_neg (by omega), List.take_of_length_le (by omega)]
  · intro i hi
    have hb := count_take_le a l i
    refine ⟨1, fun k => ⟨?_, by omega⟩⟩
    simp only [impl_Disk_pending.l0]
    rw [if_pos (by omega), if_pos (by omega), if_pos (by omega), rdE_Io l i hi, wnext i (by omega), count_take a l i hi]
    by_cases c : l[i].f0 = a
    · rw [if_pos c, if_pos c, w64 (by omega) (by omega)]; rfl
    · rw [if_neg c, if_neg c]
/-! ### impl_Flush: function 40 -/
def impl_Flush.f (l0_0 : List ByteArray) (l0_1 : List (S92)) (a1 : Int) : Option (List ByteArray × (List (S92)) × Int) := (impl_Disk_codes.f l0_0 l0_1 a1).bind fun t797 => (if t797 = 0 then ((impl_Disk_settle.f l0_0 l0_1 a1 200 false).bind fun bt798 => (some (bt798.1, bt798.2, 0))) else (some (([] : List ByteArray), ([] : List (S92)), t797)))
set_option maxHeartbeats 8000000 in
set_option maxRecDepth 100000 in
theorem impl_Flush.calls (A0_0 : Option Addr) (c0_0 : Nat) (l0_0 : List ByteArray) (A0_1 : Option Addr) (c0_1 : Nat) (l0_1 : List (S92)) (a1 : Int) (r1 : List ByteArray) (r2 : List (S92)) (r3 : Int) (w : World) (hr0_0 : Kd.C Kd.string w A0_0 l0_0.length l0_0) (hc0_0 : l0_0.length ≤ c0_0) (hr0_1 : Kd.C k92 w A0_1 l0_1.length l0_1) (hc0_1 : l0_1.length ≤ c0_1) (h : impl_Flush.f l0_0 l0_1 a1 = some (r1, r2, r3)) :
    Calls Try.prog 40 #[.agg #[.slice A0_0 l0_0.length c0_0, .slice A0_1 l0_1.length c0_1], .int .i64 a1] w fun e w' => ∃ v0_ v1_ : Value, e = .returned (.tuple #[.agg #[v0_, v1_], .int .i64 r3]) ∧ Kd.R Kd.string 9 w' w.heap.size (fun _ => True) v0_ r1 ∧ Kd.R k92 92 w' w.heap.size (fun _ => True) v1_ r2 ∧ Below w.heap.size w w' := by
 have hu48 := Try.underlying48
 have Zg := zm hr0_0
 have Zh := zm hc0_0
 clear hr0_0 hc0_0
 have Zi := zm hr0_1
 have Zj := zm hc0_1
 clear hr0_1 hc0_1
 have HB := zm (Below.refl w.heap.size w)
 have H : ((impl_Disk_codes.f l0_0 l0_1 a1).bind fun t797 => (if t797 = 0 then ((impl_Disk_settle.f l0_0 l0_1 a1 200 false).bind fun bt798 => (some (bt798.1, bt798.2, 0))) else (some (([] : List ByteArray), ([] : List (S92)), t797)))) = some (r1, r2, r3) := h
 clear h
 replace H := Option.bind_eq_some_iff.mp H
 obtain ⟨t797, A30, H⟩ := H
 replace H : (if t797 = 0 then ((impl_Disk_settle.f l0_0 l0_1 a1 200 false).bind fun bt798 => (some (bt798.1, bt798.2, 0))) else (some (([] : List ByteArray), ([] : List (S92)), t797))) = some (r1, r2, r3) := H
 have A3 := zm A30
 clear A30
 by_cases c4 : t797 = 0
 ·rw [if_pos c4] at H
  have c4b0 : (t797 == 0) = true := beq_iff_eq.mpr c4
  have c4b1 : (t797 != 0) = false := bne_eq_false_iff_eq.mpr c4
  clear c4
  replace H := Option.bind_eq_some_iff.mp H
  obtain ⟨⟨t798, t801⟩, A50, H⟩ := H
  replace H : (some (t798, t801, 0)) = some (r1, r2, r3) := H
  have A5 := zm A50
  clear A50
  simp only [Option.some.injEq, Prod.mk.injEq] at H
  obtain ⟨rfl, rfl, rfl⟩ := H
  go_enter Try.func40, Try.ntmps40
  go_wp2_with (first | ((with_reducible refine gate_dst (N := 2) rfl ?_); refine box_event ?hg (N := 2) ?hd (cs := #[.slice A0_0 l0_0.length c0_0, .slice A0_1 l0_1.length c0_1]) (t := 48) ?hr ?_; (case hd => rfl); (case hg => rfl); (case hr => first | (go_simp; done) | (go_simp; rfl)); intro gb795 hg w6 hbox hb; have n0_ := zm (below_step (zg_0 HB.out) hb); have n1_ := zm (hbox); have n2_ := zm ((by rw [hg]; exact (below_size (zg_0 HB.out)) : w.heap.size ≤ gb795)); have n3_ := zm ((by rw [hg]; exact (below_size (zg_0 HB.out)) : w.heap.size ≤ gb795)); clear HB; have HB := n0_; have Za := n1_; have Zm := n2_; have Zc := n3_; clear n0_ n1_ n2_ n3_; clear hb hbox hg) | ((with_reducible refine gate_dst (N := 4) rfl ?_); refine box_event ?hg (N := 4) ?hd (cs := #[.slice none 0 0, .slice none 0 0]) (t := 48) ?hr ?_; (case hd => rfl); (case hg => rfl); (case hr => first | (go_simp; done) | (go_simp; rfl)); intro gb796 hg w7 hbox hb; have n0_ := zm (blk_below (g := gb795) (o := .cells #[.slice A0_0 l0_0.length c0_0, .slice A0_1 l0_1.length c0_1] 48 (0, 0)) (zg_2 Za.out) hb); have n1_ := zm (below_step (zg_1 HB.out Zc.out) hb); have n2_ := zm (hbox); have n3_ := zm ((by rw [hg]; exact (below_size (zg_1 HB.out Zc.out)) : w.heap.size ≤ gb796)); have n4_ := zm ((by rw [hg]; exact (below_size (zg_1 HB.out Zc.out)) : w.heap.size ≤ gb796)); have n5_ := zm ((by rw [hg]; exact Nat.ne_of_lt (blk_lt (g := gb795) (o := .cells #[.slice A0_0 l0_0.length c0_0, .slice A0_1 l0_1.length c0_1] 48 (0, 0)) (zg_2 Za.out)) : gb795 ≠ gb796)); have n6_ := zm ((by rw [hg]; exact Nat.ne_of_gt (blk_lt (g := gb795) (o := .cells #[.slice A0_0 l0_0.length c0_0, .slice A0_1 l0_1.length c0_1] 48 (0, 0)) (zg_2 Za.out)) : gb796 ≠ gb795)); clear Za; clear HB; have Za := n0_; have HB := n1_; have Zb := n2_; have Zn := n3_; have Zf := n4_; have Zd := n5_; have Ze := n6_; clear n0_ n1_ n2_ n3_ n4_ n5_ n6_; clear hb hbox hg; have hnb8 := Zd.out; have hnc8 := Ze.out; have hcz9_0 : w7.cell? ⟨gb795, 0, none⟩ = some (.slice A0_0 l0_0.length c0_0) := (blk_cell Za.out 0).trans rfl; have hcz9_1 : w7.cell? ⟨gb795, 1, none⟩ = some (.slice A0_1 l0_1.length c0_1) := (blk_cell Za.out 1).trans rfl; have hfz9_0 := blk_frozen Za.out 0; have hfz9_1 := blk_frozen Za.out 1) | ((with_reducible refine gate_callee (f := 74) rfl ?_); refine goesL_ (some 9) rfl rfl Try.func74 (by kernel_rfl) rfl #[.agg #[.slice A0_0 l0_0.length c0_0, .slice A0_1 l0_1.length c0_1], .int .i64 a1] rfl zq ?_; (with_reducible refine (impl_Disk_codes.calls _ _ l0_0 _ _ l0_1 a1 t797 _ ?side1 ?side2 ?side3 ?side4 A3.out).mono ?_); (case side1 => repeat (first | exact (Kd.C_below Zg.out HB.out) | (with_reducible refine Kd.C_alloc ?_ _) | (with_reducible refine Kd.C_drewN ?_ _) | (with_reducible refine Kd.C_drew ?_))); (case side2 => exact Zh.out); (case side3 => repeat (first | exact (Kd.C_below Zi.out HB.out) | (with_reducible refine Kd.C_alloc ?_ _) | (with_reducible refine Kd.C_drewN ?_ _) | (with_reducible refine Kd.C_drew ?_))); (case side4 => exact Zj.out); rintro e w10 ⟨rfl, hb⟩; refine ⟨_, rfl, ?_⟩; have n0_ := zm (blk_below (g := gb795) (o := .cells #[.slice A0_0 l0_0.length c0_0, .slice A0_1 l0_1.length c0_1] 48 (0, 0)) (zg_2 Za.out) hb); have n1_ := zm (blk_below (g := gb796) (o := .cells #[.slice none 0 0, .slice none 0 0] 48 (0, 0)) (zg_2 Zb.out) hb); have n2_ := zm (below_step (zg_3 HB.out Zc.out Zf.out) hb); clear Za; clear Zb; clear HB; have Za := n0_; have Zb := n1_; have HB := n2_; clear n0_ n1_ n2_; (try clear hb); (try clear hb2); (try clear hk); (try clear hi); have hcz11_0 : w10.cell? ⟨gb795, 0, none⟩ = some (.slice A0_0 l0_0.length c0_0) := (blk_cell Za.out 0).trans rfl; have hcz11_1 : w10.cell? ⟨gb795, 1, none⟩ = some (.slice A0_1 l0_1.length c0_1) := (blk_cell Za.out 1).trans rfl; have hfz11_0 := blk_frozen Za.out 0; have hfz11_1 := blk_frozen Za.out 1) | ((with_reducible refine gate_callee (f := 70) rfl ?_); refine goesL_ (some 16) rfl rfl Try.func70 (by kernel_rfl) rfl #[.agg #[.slice A0_0 l0_0.length c0_0, .slice A0_1 l0_1.length c0_1], .int .i64 a1, .int .i64 200, .bool false] rfl zq ?_; (with_reducible refine (impl_Disk_settle.calls _ _ l0_0 _ _ l0_1 a1 200 false t798 t801 _ ?side1 ?side2 ?side3 ?side4 A5.out).mono ?_); (case side1 => repeat (first | exact (Kd.C_below Zg.out HB.out) | (with_reducible refine Kd.C_alloc ?_ _) | (with_reducible refine Kd.C_drewN ?_ _) | (with_reducible refine Kd.C_drew ?_))); (case side2 => exact Zh.out); (case side3 => repeat (first | exact (Kd.C_below Zi.out HB.out) | (with_reducible refine Kd.C_alloc ?_ _) | (with_reducible refine Kd.C_drewN ?_ _) | (with_reducible refine Kd.C_drew ?_))); (case side4 => exact Zj.out); rintro e w12 ⟨v799, v802, rfl, ho0, ho1, hb⟩; refine ⟨_, rfl, ?_⟩; have n0_ := zm (Kd.R_lower ho0 (below_size (zg_3 HB.out Zc.out Zf.out))); have n1_ := zm (Kd.R_lower ho1 (below_size (zg_3 HB.out Zc.out Zf.out))); have n2_ := zm (blk_below (g := gb795) (o := .cells #[.slice A0_0 l0_0.length c0_0, .slice A0_1 l0_1.length c0_1] 48 (0, 0)) (zg_2 Za.out) hb); have n3_ := zm (blk_below (g := gb796) (o := .cells #[.slice none 0 0, .slice none 0 0] 48 (0, 0)) (zg_2 Zb.out) hb); have n4_ := zm (below_step (zg_3 HB.out Zc.out Zf.out) hb); clear Za; clear Zb; clear HB; have Zk := n0_; have Zl := n1_; have Za := n2_; have Zb := n3_; have HB := n4_; clear n0_ n1_ n2_ n3_ n4_; (try clear hb); (try clear hb2); (try clear hk); (try clear hi); (try clear ho0); (try clear ho1); obtain ⟨Ao13, co13, eo13⟩ := Kd.R_slice Zk.out; subst eo13; have hcz14_0 : w12.cell? ⟨gb796, 0, none⟩ = some (.slice none 0 0) := (blk_cell Zb.out 0).trans rfl; have hcz14_1 : w12.cell? ⟨gb796, 1, none⟩ = some (.slice none 0 0) := (blk_cell Zb.out 1).trans rfl; have hfz14_0 := blk_frozen Zb.out 0; have hfz14_1 := blk_frozen Zb.out 1; obtain ⟨Ao15, co15, eo15⟩ := Kd.R_slice Zl.out; subst eo15))
  refine bodyPost_ret (results_ct rfl _ _ gb796 48 #[.slice Ao13 t798.length co13, .slice Ao15 t801.length co15] (0, 0) _ rfl (by (with_reducible repeat (first | refine blk_drewN ?_ _ | refine blk_drew ?_ | refine blk_alloc ?_ _)); refine blk_put (cs := #[.slice Ao13 t798.length co13, .slice none 0 0]) ?_ 1 _ rfl; (with_reducible repeat (first | refine blk_drewN ?_ _ | refine blk_drew ?_ | refine blk_alloc ?_ _)); refine blk_put (cs := #[.slice none 0 0, .slice none 0 0]) ?_ 0 _ rfl; (with_reducible repeat (first | refine blk_drewN ?_ _ | refine blk_drew ?_ | refine blk_alloc ?_ _)); exact Zb.out) Try.underlying48 rfl (by kernel_rfl)) rfl ?_
  exact ⟨_, _, by first | rfl | (simp [errW_none, errW_some] <;> rfl) | (simp [*, errW_none, errW_some] <;> rfl), by (with_reducible repeat (first | apply Kd.R_alloc | apply Kd.R_drewN | apply Kd.R_drew)); exact Kd.R_mono (Kd.R_far (p := ⟨gb796, 1, none⟩) (Kd.R_far (p := ⟨gb796, 0, none⟩) (Kd.R_types Zk.out Zb.out (by decide)) (fun _ hk => hk.2) (.slice Ao13 t798.length co13)) (fun _ hk => hk.2) (.slice Ao15 t801.length co15)) (fun _ hk => trivial), by (with_reducible repeat (first | apply Kd.R_alloc | apply Kd.R_drewN | apply Kd.R_drew)); exact Kd.R_mono (Kd.R_far (p := ⟨gb796, 1, none⟩) (Kd.R_far (p := ⟨gb796, 0, none⟩) (Kd.R_types Zl.out Zb.out (by decide)) (fun _ hk => hk.2) (.slice Ao13 t798.length co13)) (fun _ hk => hk.2) (.slice Ao15 t801.length co15)) (fun _ hk => trivial), zg_3 HB.out Zc.out Zf.out⟩
 ·rw [if_neg c4] at H
  have c4b0 : (t797 == 0) = false := beq_eq_false_iff_ne.mpr c4
  have c4b1 : (t797 != 0) = true := bne_iff_ne.mpr c4
  simp only [Option.some.injEq, Prod.mk.injEq] at H
  obtain ⟨rfl, rfl, rfl⟩ := H
  go_enter Try.func40, Try.ntmps40
  go_wp2_with (first | ((with_reducible refine gate_dst (N := 2) rfl ?_); refine box_event ?hg (N := 2) ?hd (cs := #[.slice A0_0 l0_0.length c0_0, .slice A0_1 l0_1.length c0_1]) (t := 48) ?hr ?_; (case hd => rfl); (case hg => rfl); (case hr => first | (go_simp; done) | (go_simp; rfl)); intro gb795 hg w16 hbox hb; have n0_ := zm (below_step (zg_0 HB.out) hb); have n1_ := zm (hbox); have n2_ := zm ((by rw [hg]; exact (below_size (zg_0 HB.out)) : w.heap.size ≤ gb795)); have n3_ := zm ((by rw [hg]; exact (below_size (zg_0 HB.out)) : w.heap.size ≤ gb795)); clear HB; have HB := n0_; have Za := n1_; have Zm := n2_; have Zc := n3_; clear n0_ n1_ n2_ n3_; clear hb hbox hg) | ((with_reducible refine gate_dst (N := 4) rfl ?_); refine box_event ?hg (N := 4) ?hd (cs := #[.slice none 0 0, .slice none 0 0]) (t := 48) ?hr ?_; (case hd => rfl); (case hg => rfl); (case hr => first | (go_simp; done) | (go_simp; rfl)); intro gb796 hg w17 hbox hb; have n0_ := zm (blk_below (g := gb795) (o := .cells #[.slice A0_0 l0_0.length c0_0, .slice A0_1 l0_1.length c0_1] 48 (0, 0)) (zg_2 Za.out) hb); have n1_ := zm (below_step (zg_1 HB.out Zc.out) hb); have n2_ := zm (hbox); have n3_ := zm ((by rw [hg]; exact (below_size (zg_1 HB.out Zc.out)) : w.heap.size ≤ gb796)); have n4_ := zm ((by rw [hg]; exact (below_size (zg_1 HB.out Zc.out)) : w.heap.size ≤ gb796)); have n5_ := zm ((by rw [hg]; exact Nat.ne_of_lt (blk_lt (g := gb795) (o := .cells #[.slice A0_0 l0_0.length c0_0, .slice A0_1 l0_1.length c0_1] 48 (0, 0)) (zg_2 Za.out)) : gb795 ≠ gb796)); have n6_ := zm ((by rw [hg]; exact Nat.ne_of_gt (blk_lt (g := gb795) (o := .cells #[.slice A0_0 l0_0.length c0_0, .slice A0_1 l0_1.length c0_1] 48 (0, 0)) (zg_2 Za.out)) : gb796 ≠ gb795)); clear Za; clear HB; have Za := n0_; have HB := n1_; have Zb := n2_; have Zn := n3_; have Zf := n4_; have Zd := n5_; have Ze := n6_; clear n0_ n1_ n2_ n3_ n4_ n5_ n6_; clear hb hbox hg; have hnb18 := Zd.out; have hnc18 := Ze.out; have hcz19_0 : w17.cell? ⟨gb795, 0, none⟩ = some (.slice A0_0 l0_0.length c0_0) := (blk_cell Za.out 0).trans rfl; have hcz19_1 : w17.cell? ⟨gb795, 1, none⟩ = some (.slice A0_1 l0_1.length c0_1) := (blk_cell Za.out 1).trans rfl; have hfz19_0 := blk_frozen Za.out 0; have hfz19_1 := blk_frozen Za.out 1) | ((with_reducible refine gate_callee (f := 74) rfl ?_); refine goesL_ (some 9) rfl rfl Try.func74 (by kernel_rfl) rfl #[.agg #[.slice A0_0 l0_0.length c0_0, .slice A0_1 l0_1.length c0_1], .int .i64 a1] rfl zq ?_; (with_reducible refine (impl_Disk_codes.calls _ _ l0_0 _ _ l0_1 a1 t797 _ ?side1 ?side2 ?side3 ?side4 A3.out).mono ?_); (case side1 => repeat (first | exact (Kd.C_below Zg.out HB.out) | (with_reducible refine Kd.C_alloc ?_ _) | (with_reducible refine Kd.C_drewN ?_ _) | (with_reducible refine Kd.C_drew ?_))); (case side2 => exact Zh.out); (case side3 => repeat (first | exact (Kd.C_below Zi.out HB.out) | (with_reducible refine Kd.C_alloc ?_ _) | (with_reducible refine Kd.C_drewN ?_ _) | (with_reducible refine Kd.C_drew ?_))); (case side4 => exact Zj.out); rintro e w20 ⟨rfl, hb⟩; refine ⟨_, rfl, ?_⟩; have n0_ := zm (blk_below (g := gb795) (o := .cells #[.slice A0_0 l0_0.length c0_0, .slice A0_1 l0_1.length c0_1] 48 (0, 0)) (zg_2 Za.out) hb); have n1_ := zm (blk_below (g := gb796) (o := .cells #[.slice none 0 0, .slice none 0 0] 48 (0, 0)) (zg_2 Zb.out) hb); have n2_ := zm (below_step (zg_3 HB.out Zc.out Zf.out) hb); clear Za; clear Zb; clear HB; have Za := n0_; have Zb := n1_; have HB := n2_; clear n0_ n1_ n2_; (try clear hb); (try clear hb2); (try clear hk); (try clear hi); have hcz21_0 : w20.cell? ⟨gb796, 0, none⟩ = some (.slice none 0 0) := (blk_cell Zb.out 0).trans rfl; have hcz21_1 : w20.cell? ⟨gb796, 1, none⟩ = some (.slice none 0 0) := (blk_cell Zb.out 1).trans rfl; have hfz21_0 := blk_frozen Zb.out 0; have hfz21_1 := blk_frozen Zb.out 1))
  refine bodyPost_ret (results_ct rfl _ _ gb796 48 #[.slice none 0 0, .slice none 0 0] (0, 0) _ rfl (by (with_reducible repeat (first | refine blk_drewN ?_ _ | refine blk_drew ?_ | refine blk_alloc ?_ _)); refine blk_put (cs := #[.slice none 0 0, .slice none 0 0]) ?_ 1 _ rfl; (with_reducible repeat (first | refine blk_drewN ?_ _ | refine blk_drew ?_ | refine blk_alloc ?_ _)); refine blk_put (cs := #[.slice none 0 0, .slice none 0 0]) ?_ 0 _ rfl; (with_reducible repeat (first | refine blk_drewN ?_ _ | refine blk_drew ?_ | refine blk_alloc ?_ _)); exact Zb.out) Try.underlying48 rfl (by kernel_rfl)) rfl ?_
  exact ⟨_, _, by first | rfl | (simp [errW_none, errW_some] <;> rfl) | (simp [*, errW_none, errW_some] <;> rfl), by first | exact Kd.R_nil _ _ _ _ _ | exact Kd.N_nil _ _ _ _ _ | exact Kd.V_nil _ _ _ _ _ | exact Kd.Q_nil _ _ _ _ _ | exact Kd.S_nil _ _ _ _ _, by first | exact Kd.R_nil _ _ _ _ _ | exact Kd.N_nil _ _ _ _ _ | exact Kd.V_nil _ _ _ _ _ | exact Kd.Q_nil _ _ _ _ _ | exact Kd.S_nil _ _ _ _ _, zg_3 HB.out Zc.out Zf.out⟩
/-! ### spec_Flush: function 41 -/
def spec_Flush.f (k : Nat) (l0_0 : List ByteArray) (l0_1 : List (S92)) (a1 : Int) : Option (List ByteArray × (List (S92)) × Int) := (spec_l01Ask.f k l0_0 l0_1 a1 0).bind fun t806 => (if t806 = 0 then ((spec_l01Flush.f k l0_0 l0_1 a1).bind fun bt807 => (some (bt807.1, bt807.2, 0))) else (some (([] : List ByteArray), ([] : List (S92)), t806)))
theorem spec_Flush.mono : ∀ a0 a1 a2 k, LeO (spec_Flush.f k a0 a1 a2) (spec_Flush.f (k + 1) a0 a1 a2) := by
  intro a0 a1 a2 k
  unfold spec_Flush.f
  repeat' first
      | (with_reducible exact spec_l01Ask.mono _ _ _ _ _)
      | (with_reducible exact spec_l01Flush.mono _ _ _ _)
      | (with_reducible exact LeO.refl _)
      | (with_reducible exact LeO.none _)
      | (with_reducible refine LeO.ite ?_ ?_)
      | (with_reducible refine LeO.bind ?_ (fun _ => ?_))
      | exact spec_l01Ask.mono _ _ _ _ _
      | exact spec_l01Flush.mono _ _ _ _
      | exact LeO.none _
      | refine LeO.ite ?_ ?_
      | refine LeO.bind ?_ (fun _ => ?_)
set_option maxHeartbeats 8000000 in
set_option maxRecDepth 100000 in
theorem spec_Flush.calls (k : Nat) (A0_0 : Option Addr) (c0_0 : Nat) (l0_0 : List ByteArray) (A0_1 : Option Addr) (c0_1 : Nat) (l0_1 : List (S92)) (a1 : Int) (r1 : List ByteArray) (r2 : List (S92)) (r3 : Int) (w : World) (hr0_0 : Kd.C Kd.string w A0_0 l0_0.length l0_0) (hc0_0 : l0_0.length ≤ c0_0) (hr0_1 : Kd.C k92 w A0_1 l0_1.length l0_1) (hc0_1 : l0_1.length ≤ c0_1) (h : spec_Flush.f k l0_0 l0_1 a1 = some (r1, r2, r3)) :
    Calls Try.prog 41 #[.agg #[.slice A0_0 l0_0.length c0_0, .slice A0_1 l0_1.length c0_1], .int .i64 a1] w fun e w' => ∃ v0_ v1_ : Value, e = .returned (.tuple #[.agg #[v0_, v1_], .int .i64 r3]) ∧ Kd.R Kd.string 9 w' w.heap.size (fun _ => True) v0_ r1 ∧ Kd.R k92 92 w' w.heap.size (fun _ => True) v1_ r2 ∧ Below w.heap.size w w' := by
 have hu48 := Try.underlying48
 have Zg := zm hr0_0
 have Zh := zm hc0_0
 clear hr0_0 hc0_0
 have Zi := zm hr0_1
 have Zj := zm hc0_1
 clear hr0_1 hc0_1
 have HB := zm (Below.refl w.heap.size w)
 have H : ((spec_l01Ask.f k l0_0 l0_1 a1 0).bind fun t806 => (if t806 = 0 then ((spec_l01Flush.f k l0_0 l0_1 a1).bind fun bt807 => (some (bt807.1, bt807.2, 0))) else (some (([] : List ByteArray), ([] : List (S92)), t806)))) = some (r1, r2, r3) := h
 clear h
 replace H := Option.bind_eq_some_iff.mp H
 obtain ⟨t806, A30, H⟩ := H
 replace H : (if t806 = 0 then ((spec_l01Flush.f k l0_0 l0_1 a1).bind fun bt807 => (some (bt807.1, bt807.2, 0))) else (some (([] : List ByteArray), ([] : List (S92)), t806))) = some (r1, r2, r3) := H
 have A3 := zm A30
 clear A30
 by_cases c4 : t806 = 0
 ·rw [if_pos c4] at H
  have c4b0 : (t806 == 0) = true := beq_iff_eq.mpr c4
  have c4b1 : (t806 != 0) = false := bne_eq_false_iff_eq.mpr c4
  clear c4
  replace H := Option.bind_eq_some_iff.mp H
  obtain ⟨⟨t807, t810⟩, A50, H⟩ := H
  replace H : (some (t807, t810, 0)) = some (r1, r2, r3) := H
  have A5 := zm A50
  clear A50
  simp only [Option.some.injEq, Prod.mk.injEq] at H
  obtain ⟨rfl, rfl, rfl⟩ := H
  go_enter Try.func41, Try.ntmps41
  go_wp2_with (first | ((with_reducible refine gate_dst (N := 2) rfl ?_); refine box_event ?hg (N := 2) ?hd (cs := #[.slice A0_0 l0_0.length c0_0, .slice A0_1 l0_1.length c0_1]) (t := 48) ?hr ?_; (case hd => rfl); (case hg => rfl); (case hr => first | (go_simp; done) | (go_simp; rfl)); intro gb804 hg w6 hbox hb; have n0_ := zm (below_step (zg_0 HB.out) hb); have n1_ := zm (hbox); have n2_ := zm ((by rw [hg]; exact (below_size (zg_0 HB.out)) : w.heap.size ≤ gb804)); have n3_ := zm ((by rw [hg]; exact (below_size (zg_0 HB.out)) : w.heap.size ≤ gb804)); clear HB; have HB := n0_; have Za := n1_; have Zm := n2_; have Zc := n3_; clear n0_ n1_ n2_ n3_; clear hb hbox hg) | ((with_reducible refine gate_dst (N := 4) rfl ?_); refine box_event ?hg (N := 4) ?hd (cs := #[.slice none 0 0, .slice none 0 0]) (t := 48) ?hr ?_; (case hd => rfl); (case hg => rfl); (case hr => first | (go_simp; done) | (go_simp; rfl)); intro gb805 hg w7 hbox hb; have n0_ := zm (blk_below (g := gb804) (o := .cells #[.slice A0_0 l0_0.length c0_0, .slice A0_1 l0_1.length c0_1] 48 (0, 0)) (zg_2 Za.out) hb); have n1_ := zm (below_step (zg_1 HB.out Zc.out) hb); have n2_ := zm (hbox); have n3_ := zm ((by rw [hg]; exact (below_size (zg_1 HB.out Zc.out)) : w.heap.size ≤ gb805)); have n4_ := zm ((by rw [hg]; exact (below_size (zg_1 HB.out Zc.out)) : w.heap.size ≤ gb805)); have n5_ := zm ((by rw [hg]; exact Nat.ne_of_lt (blk_lt (g := gb804) (o := .cells #[.slice A0_0 l0_0.length c0_0, .slice A0_1 l0_1.length c0_1] 48 (0, 0)) (zg_2 Za.out)) : gb804 ≠ gb805)); have n6_ := zm ((by rw [hg]; exact Nat.ne_of_gt (blk_lt (g := gb804) (o := .cells #[.slice A0_0 l0_0.length c0_0, .slice A0_1 l0_1.length c0_1] 48 (0, 0)) (zg_2 Za.out)) : gb805 ≠ gb804)); clear Za; clear HB; have Za := n0_; have HB := n1_; have Zb := n2_; have Zn := n3_; have Zf := n4_; have Zd := n5_; have Ze := n6_; clear n0_ n1_ n2_ n3_ n4_ n5_ n6_; clear hb hbox hg; have hnb8 := Zd.out; have hnc8 := Ze.out; have hcz9_0 : w7.cell? ⟨gb804, 0, none⟩ = some (.slice A0_0 l0_0.length c0_0) := (blk_cell Za.out 0).trans rfl; have hcz9_1 : w7.cell? ⟨gb804, 1, none⟩ = some (.slice A0_1 l0_1.length c0_1) := (blk_cell Za.out 1).trans rfl; have hfz9_0 := blk_frozen Za.out 0; have hfz9_1 := blk_frozen Za.out 1) | ((with_reducible refine gate_callee (f := 71) rfl ?_); refine goesL_ (some 9) rfl rfl Try.func71 (by kernel_rfl) rfl #[.agg #[.slice A0_0 l0_0.length c0_0, .slice A0_1 l0_1.length c0_1], .int .i64 a1, .int .i64 0] rfl zq ?_; (with_reducible refine (spec_l01Ask.calls k _ _ l0_0 _ _ l0_1 a1 0 t806 _ ?side1 ?side2 ?side3 ?side4 A3.out).mono ?_); (case side1 => repeat (first | exact (Kd.C_below Zg.out HB.out) | (with_reducible refine Kd.C_alloc ?_ _) | (with_reducible refine Kd.C_drewN ?_ _) | (with_reducible refine Kd.C_drew ?_))); (case side2 => exact Zh.out); (case side3 => repeat (first | exact (Kd.C_below Zi.out HB.out) | (with_reducible refine Kd.C_alloc ?_ _) | (with_reducible refine Kd.C_drewN ?_ _) | (with_reducible refine Kd.C_drew ?_))); (case side4 => exact Zj.out); rintro e w10 ⟨rfl, hb⟩; refine ⟨_, rfl, ?_⟩; have n0_ := zm (blk_below (g := gb804) (o := .cells #[.slice A0_0 l0_0.length c0_0, .slice A0_1 l0_1.length c0_1] 48 (0, 0)) (zg_2 Za.out) hb); have n1_ := zm (blk_below (g := gb805) (o := .cells #[.slice none 0 0, .slice none 0 0] 48 (0, 0)) (zg_2 Zb.out) hb); have n2_ := zm (below_step (zg_3 HB.out Zc.out Zf.out) hb); clear Za; clear Zb; clear HB; have Za := n0_; have Zb := n1_; have HB := n2_; clear n0_ n1_ n2_; (try clear hb); (try clear hb2); (try clear hk); (try clear hi); have hcz11_0 : w10.cell? ⟨gb804, 0, none⟩ = some (.slice A0_0 l0_0.length c0_0) := (blk_cell Za.out 0).trans rfl; have hcz11_1 : w10.cell? ⟨gb804, 1, none⟩ = some (.slice A0_1 l0_1.length c0_1) := (blk_cell Za.out 1).trans rfl; have hfz11_0 := blk_frozen Za.out 0; have hfz11_1 := blk_frozen Za.out 1) | ((with_reducible refine gate_callee (f := 89) rfl ?_); refine goesL_ (some 16) rfl rfl Try.func89 (by kernel_rfl) rfl #[.agg #[.slice A0_0 l0_0.length c0_0, .slice A0_1 l0_1.length c0_1], .int .i64 a1] rfl zq ?_; (with_reducible refine (spec_l01Flush.calls k _ _ l0_0 _ _ l0_1 a1 t807 t810 _ ?side1 ?side2 ?side3 ?side4 A5.out).mono ?_); (case side1 => repeat (first | exact (Kd.C_below Zg.out HB.out) | (with_reducible refine Kd.C_alloc ?_ _) | (with_reducible refine Kd.C_drewN ?_ _) | (with_reducible refine Kd.C_drew ?_))); (case side2 => exact Zh.out); (case side3 => repeat (first | exact (Kd.C_below Zi.out HB.out) | (with_reducible refine Kd.C_alloc ?_ _) | (with_reducible refine Kd.C_drewN ?_ _) | (with_reducible refine Kd.C_drew ?_))); (case side4 => exact Zj.out); rintro e w12 ⟨v808, v811, rfl, ho0, ho1, hb⟩; refine ⟨_, rfl, ?_⟩; have n0_ := zm (Kd.R_lower ho0 (below_size (zg_3 HB.out Zc.out Zf.out))); have n1_ := zm (Kd.R_lower ho1 (below_size (zg_3 HB.out Zc.out Zf.out))); have n2_ := zm (blk_below (g := gb804) (o := .cells #[.slice A0_0 l0_0.length c0_0, .slice A0_1 l0_1.length c0_1] 48 (0, 0)) (zg_2 Za.out) hb); have n3_ := zm (blk_below (g := gb805) (o := .cells #[.slice none 0 0, .slice none 0 0] 48 (0, 0)) (zg_2 Zb.out) hb); have n4_ := zm (below_step (zg_3 HB.out Zc.out Zf.out) hb); clear Za; clear Zb; clear HB; have Zk := n0_; have Zl := n1_; have Za := n2_; have Zb := n3_; have HB := n4_; clear n0_ n1_ n2_ n3_ n4_; (try clear hb); (try clear hb2); (try clear hk); (try clear hi); (try clear ho0); (try clear ho1); obtain ⟨Ao13, co13, eo13⟩ := Kd.R_slice Zk.out; subst eo13; have hcz14_0 : w12.cell? ⟨gb805, 0, none⟩ = some (.slice none 0 0) := (blk_cell Zb.out 0).trans rfl; have hcz14_1 : w12.cell? ⟨gb805, 1, none⟩ = some (.slice none 0 0) := (blk_cell Zb.out 1).trans rfl; have hfz14_0 := blk_frozen Zb.out 0; have hfz14_1 := blk_frozen Zb.out 1; obtain ⟨Ao15, co15, eo15⟩ := Kd.R_slice Zl.out; subst eo15))
  refine bodyPost_ret (results_ct rfl _ _ gb805 48 #[.slice Ao13 t807.length co13, .slice Ao15 t810.length co15] (0, 0) _ rfl (by (with_reducible repeat (first | refine blk_drewN ?_ _ | refine blk_drew ?_ | refine blk_alloc ?_ _)); refine blk_put (cs := #[.slice Ao13 t807.length co13, .slice none 0 0]) ?_ 1 _ rfl; (with_reducible repeat (first | refine blk_drewN ?_ _ | refine blk_drew ?_ | refine blk_alloc ?_ _)); refine blk_put (cs := #[.slice none 0 0, .slice none 0 0]) ?_ 0 _ rfl; (with_reducible repeat (first | refine blk_drewN ?_ _ | refine blk_drew ?_ | refine blk_alloc ?_ _)); exact Zb.out) Try.underlying48 rfl (by kernel_rfl)) rfl ?_
  exact ⟨_, _, by first | rfl | (simp [errW_none, errW_some] <;> rfl) | (simp [*, errW_none, errW_some] <;> rfl), by (with_reducible repeat (first | apply Kd.R_alloc | apply Kd.R_drewN | apply Kd.R_drew)); exact Kd.R_mono (Kd.R_far (p := ⟨gb805, 1, none⟩) (Kd.R_far (p := ⟨gb805, 0, none⟩) (Kd.R_types Zk.out Zb.out (by decide)) (fun _ hk => hk.2) (.slice Ao13 t807.length co13)) (fun _ hk => hk.2) (.slice Ao15 t810.length co15)) (fun _ hk => trivial), by (with_reducible repeat (first | apply Kd.R_alloc | apply Kd.R_drewN | apply Kd.R_drew)); exact Kd.R_mono (Kd.R_far (p := ⟨gb805, 1, none⟩) (Kd.R_far (p := ⟨gb805, 0, none⟩) (Kd.R_types Zl.out Zb.out (by decide)) (fun _ hk => hk.2) (.slice Ao13 t807.length co13)) (fun _ hk => hk.2) (.slice Ao15 t810.length co15)) (fun _ hk => trivial), zg_3 HB.out Zc.out Zf.out⟩
 ·rw [if_neg c4] at H
  have c4b0 : (t806 == 0) = false := beq_eq_false_iff_ne.mpr c4
  have c4b1 : (t806 != 0) = true := bne_iff_ne.mpr c4
  simp only [Option.some.injEq, Prod.mk.injEq] at H
  obtain ⟨rfl, rfl, rfl⟩ := H
  go_enter Try.func41, Try.ntmps41
  go_wp2_with (first | ((with_reducible refine gate_dst (N := 2) rfl ?_); refine box_event ?hg (N := 2) ?hd (cs := #[.slice A0_0 l0_0.length c0_0, .slice A0_1 l0_1.length c0_1]) (t := 48) ?hr ?_; (case hd => rfl); (case hg => rfl); (case hr => first | (go_simp; done) | (go_simp; rfl)); intro gb804 hg w16 hbox hb; have n0_ := zm (below_step (zg_0 HB.out) hb); have n1_ := zm (hbox); have n2_ := zm ((by rw [hg]; exact (below_size (zg_0 HB.out)) : w.heap.size ≤ gb804)); have n3_ := zm ((by rw [hg]; exact (below_size (zg_0 HB.out)) : w.heap.size ≤ gb804)); clear HB; have HB := n0_; have Za := n1_; have Zm := n2_; have Zc := n3_; clear n0_ n1_ n2_ n3_; clear hb hbox hg) | ((with_reducible refine gate_dst (N := 4) rfl ?_); refine box_event ?hg (N := 4) ?hd (cs := #[.slice none 0 0, .slice none 0 0]) (t := 48) ?hr ?_; (case hd => rfl); (case hg => rfl); (case hr => first | (go_simp; done) | (go_simp; rfl)); intro gb805 hg w17 hbox hb; have n0_ := zm (blk_below (g := gb804) (o := .cells #[.slice A0_0 l0_0.length c0_0, .slice A0_1 l0_1.length c0_1] 48 (0, 0)) (zg_2 Za.out) hb); have n1_ := zm (below_step (zg_1 HB.out Zc.out) hb); have n2_ := zm (hbox); have n3_ := zm ((by rw [hg]; exact (below_size (zg_1 HB.out Zc.out)) : w.heap.size ≤ gb805)); have n4_ := zm ((by rw [hg]; exact (below_size (zg_1 HB.out Zc.out)) : w.heap.size ≤ gb805)); have n5_ := zm ((by rw [hg]; exact Nat.ne_of_lt (blk_lt (g := gb804) (o := .cells #[.slice A0_0 l0_0.length c0_0, .slice A0_1 l0_1.length c0_1] 48 (0, 0)) (zg_2 Za.out)) : gb804 ≠ gb805)); have n6_ := zm ((by rw [hg]; exact Nat.ne_of_gt (blk_lt (g := gb804) (o := .cells #[.slice A0_0 l0_0.length c0_0, .slice A0_1 l0_1.length c0_1] 48 (0, 0)) (zg_2 Za.out)) : gb805 ≠ gb804)); clear Za; clear HB; have Za := n0_; have HB := n1_; have Zb := n2_; have Zn := n3_; have Zf := n4_; have Zd := n5_; have Ze := n6_; clear n0_ n1_ n2_ n3_ n4_ n5_ n6_; clear hb hbox hg; have hnb18 := Zd.out; have hnc18 := Ze.out; have hcz19_0 : w17.cell? ⟨gb804, 0, none⟩ = some (.slice A0_0 l0_0.length c0_0) := (blk_cell Za.out 0).trans rfl; have hcz19_1 : w17.cell? ⟨gb804, 1, none⟩ = some (.slice A0_1 l0_1.length c0_1) := (blk_cell Za.out 1).trans rfl; have hfz19_0 := blk_frozen Za.out 0; have hfz19_1 := blk_frozen Za.out 1) | ((with_reducible refine gate_callee (f := 71) rfl ?_); refine goesL_ (some 9) rfl rfl Try.func71 (by kernel_rfl) rfl #[.agg #[.slice A0_0 l0_0.length c0_0, .slice A0_1 l0_1.length c0_1], .int .i64 a1, .int .i64 0] rfl zq ?_; (with_reducible refine (spec_l01Ask.calls k _ _ l0_0 _ _ l0_1 a1 0 t806 _ ?side1 ?side2 ?side3 ?side4 A3.out).mono ?_); (case side1 => repeat (first | exact (Kd.C_below Zg.out HB.out) | (with_reducible refine Kd.C_alloc ?_ _) | (with_reducible refine Kd.C_drewN ?_ _) | (with_reducible refine Kd.C_drew ?_))); (case side2 => exact Zh.out); (case side3 => repeat (first | exact (Kd.C_below Zi.out HB.out) | (with_reducible refine Kd.C_alloc ?_ _) | (with_reducible refine Kd.C_drewN ?_ _) | (with_reducible refine Kd.C_drew ?_))); (case side4 => exact Zj.out); rintro e w20 ⟨rfl, hb⟩; refine ⟨_, rfl, ?_⟩; have n0_ := zm (blk_below (g := gb804) (o := .cells #[.slice A0_0 l0_0.length c0_0, .slice A0_1 l0_1.length c0_1] 48 (0, 0)) (zg_2 Za.out) hb); have n1_ := zm (blk_below (g := gb805) (o := .cells #[.slice none 0 0, .slice none 0 0] 48 (0, 0)) (zg_2 Zb.out) hb); have n2_ := zm (below_step (zg_3 HB.out Zc.out Zf.out) hb); clear Za; clear Zb; clear HB; have Za := n0_; have Zb := n1_; have HB := n2_; clear n0_ n1_ n2_; (try clear hb); (try clear hb2); (try clear hk); (try clear hi); have hcz21_0 : w20.cell? ⟨gb805, 0, none⟩ = some (.slice none 0 0) := (blk_cell Zb.out 0).trans rfl; have hcz21_1 : w20.cell? ⟨gb805, 1, none⟩ = some (.slice none 0 0) := (blk_cell Zb.out 1).trans rfl; have hfz21_0 := blk_frozen Zb.out 0; have hfz21_1 := blk_frozen Zb.out 1))
  refine bodyPost_ret (results_ct rfl _ _ gb805 48 #[.slice none 0 0, .slice none 0 0] (0, 0) _ rfl (by (with_reducible repeat (first | refine blk_drewN ?_ _ | refine blk_drew ?_ | refine blk_alloc ?_ _)); refine blk_put (cs := #[.slice none 0 0, .slice none 0 0]) ?_ 1 _ rfl; (with_reducible repeat (first | refine blk_drewN ?_ _ | refine blk_drew ?_ | refine blk_alloc ?_ _)); refine blk_put (cs := #[.slice none 0 0, .slice none 0 0]) ?_ 0 _ rfl; (with_reducible repeat (first | refine blk_drewN ?_ _ | refine blk_drew ?_ | refine blk_alloc ?_ _)); exact Zb.out) Try.underlying48 rfl (by kernel_rfl)) rfl ?_
  exact ⟨_, _, by first | rfl | (simp [errW_none, errW_some] <;> rfl) | (simp [*, errW_none, errW_some] <;> rfl), by first | exact Kd.R_nil _ _ _ _ _ | exact Kd.N_nil _ _ _ _ _ | exact Kd.V_nil _ _ _ _ _ | exact Kd.Q_nil _ _ _ _ _ | exact Kd.S_nil _ _ _ _ _, by first | exact Kd.R_nil _ _ _ _ _ | exact Kd.N_nil _ _ _ _ _ | exact Kd.V_nil _ _ _ _ _ | exact Kd.Q_nil _ _ _ _ _ | exact Kd.S_nil _ _ _ _ _, zg_3 HB.out Zc.out Zf.out⟩
/-! ### Land -/
def landP (host : Int) (lose : Bool) : List S92 → Nat → List S92
  | [], _ => []
  | x :: r, 0 => if x.f0 = host then (if lose = true then landP host lose r 0 else x :: landP host lose r 0) else x :: landP host lose r 0
  | x :: r, k + 1 => if x.f0 = host then landP host lose r k else x :: landP host lose r (k + 1)
def landS (host : Int) : List S92 → Nat → List ByteArray → List ByteArray
  | [], _, s => s
  | x :: r, 0, s => landS host r 0 s
  | x :: r, k + 1, s => if x.f0 = host then landS host r k (s.set x.f1.toNat x.f2) else landS host r (k + 1) s
theorem go_land (host : Int) (lose : Bool) : ∀ (l : List S92) (k : Nat) (s : List ByteArray), k ≤ 100000 → (∀ x ∈ l, 0 ≤ x.f1 ∧ x.f1 < (s.length : Int)) → ∃ kf, impl_Disk_settle_go host lose l (k : Int) s = some (landP host lose l k, kf, landS host l k s) := by
  intro l
  induction l with
  | nil => intro k s _ _; cases k <;> exact ⟨_, rfl⟩
  | cons x r ih =>
    intro k s hk h
    have hx := h x (by simp)
    have hr : ∀ y ∈ r, 0 ≤ y.f1 ∧ y.f1 < (s.length : Int) := fun y hy => h y (by simp [hy])
    by_cases c1 : x.f0 = host
    · cases k with
      | zero =>
        obtain ⟨kf, e⟩ := ih 0 s (by omega) hr
        refine ⟨kf, ?_⟩
        simp only [impl_Disk_settle_go, impl_Disk_settle_stp, landP, landS, if_pos c1]
        rw [if_neg (by omega), Option.bind_some, e, Option.bind_some]
      | succ k =>
        obtain ⟨kf, e⟩ := ih k (s.set x.f1.toNat x.f2) (by omega) (by intro y hy; rw [List.length_set]; exact hr y hy)
        refine ⟨kf, ?_⟩
        simp only [impl_Disk_settle_go, impl_Disk_settle_stp, landP, landS, if_pos c1]
        rw [if_pos (by omega), if_pos hx.1, if_pos hx.2, Option.bind_some]
        simp only
        rw [w64 (n := ((k + 1 : Nat) : Int) - 1) (by omega) (by omega), show ((k + 1 : Nat) : Int) - 1 = (k : Int) by omega, e, Option.bind_some]
        rfl
    · obtain ⟨kf, e⟩ := ih k s hk hr
      refine ⟨kf, ?_⟩
      cases k <;> simp only [impl_Disk_settle_go, impl_Disk_settle_stp, landP, landS, if_neg c1] <;> rw [Option.bind_some] <;> simp only [e, Option.bind_some] <;> rfl
theorem landP_sub (host : Int) (lose : Bool) : ∀ (l : List S92) (k : Nat), (∀ x ∈ landP host lose l k, x ∈ l) ∧ (landP host lose l k).length ≤ l.length := by
  intro l
  induction l with
  | nil => intro k; cases k <;> exact ⟨by simp [landP], by simp [landP]⟩
  | cons x r ih =>
    intro k
    cases k with
    | zero =>
      obtain ⟨h1, h2⟩ := ih 0
      simp only [landP]
      split
      · split
        · exact ⟨fun y hy => by simp [h1 y hy], by simp only [List.length_cons]; omega⟩
        · refine ⟨fun y hy => ?_, by simp only [List.length_cons]; omega⟩
          rcases List.mem_cons.1 hy with rfl | hy
          · simp
          · simp [h1 y hy]
      · refine ⟨fun y hy => ?_, by simp only [List.length_cons]; omega⟩
        rcases List.mem_cons.1 hy with rfl | hy
        · simp
        · simp [h1 y hy]
    | succ k =>
      simp only [landP]
      split
      · obtain ⟨h1, h2⟩ := ih k
        exact ⟨fun y hy => by simp [h1 y hy], by simp only [List.length_cons]; omega⟩
      · obtain ⟨h1, h2⟩ := ih (k + 1)
        refine ⟨fun y hy => ?_, by simp only [List.length_cons]; omega⟩
        rcases List.mem_cons.1 hy with rfl | hy
        · simp
        · simp [h1 y hy]
theorem landS_ok (host : Int) : ∀ (l : List S92) (k : Nat) (s : List ByteArray), (∀ x ∈ l, x.f2.size ≤ 80) → (∀ x ∈ s, x.size ≤ 80) → (landS host l k s).length = s.length ∧ ∀ x ∈ landS host l k s, x.size ≤ 80 := by
  intro l
  induction l with
  | nil => intro k s _ hs; cases k <;> exact ⟨rfl, hs⟩
  | cons x r ih =>
    intro k s hl hs
    have hr : ∀ y ∈ r, y.f2.size ≤ 80 := fun y hy => hl y (by simp [hy])
    cases k with
    | zero => exact ih 0 s hr hs
    | succ k =>
      simp only [landS]
      split
      · obtain ⟨h1, h2⟩ := ih k (s.set x.f1.toNat x.f2) hr (by
          intro y hy
          rcases List.mem_or_eq_of_mem_set hy with hy | rfl
          · exact hs y hy
          · exact hl x (by simp))
        exact ⟨by rw [h1, List.length_set], h2⟩
      · exact ih (k + 1) s hr hs
theorem disk_of {d : List ByteArray} {l : List S92} (h1 : d.length = 64) (h2 : l.length ≤ 200) (h3 : ∀ x ∈ d, x.size ≤ 80) (h4 : ∀ x ∈ l, ioOK x = true) : diskOK d l = true := by
  unfold diskOK
  rw [decide_eq_true (show (d.length : Int) = 64 by omega), decide_eq_true (show (l.length : Int) ≤ 200 by omega), List.all_eq_true.2 (fun x hx => by unfold secOK; exact decide_eq_true (by have := h3 x hx; omega)), List.all_eq_true.2 h4]; rfl
theorem disk_in {d : List ByteArray} {l : List S92} (h : diskOK d l = true) : d.length = 64 ∧ l.length ≤ 200 ∧ (∀ x ∈ d, x.size ≤ 80) ∧ (∀ x ∈ l, ioOK x = true) := by
  unfold diskOK at h
  simp only [Bool.and_eq_true, decide_eq_true_eq, List.all_eq_true] at h
  obtain ⟨h1, h2, h3, h4⟩ := h
  exact ⟨by omega, by omega, fun x hx => by have := h3 x hx; unfold secOK at this; have := of_decide_eq_true this; omega, h4⟩
theorem io_in {x : S92} (h : ioOK x = true) : 0 ≤ x.f0 ∧ x.f0 ≤ 3 ∧ 0 ≤ x.f1 ∧ x.f1 ≤ 63 ∧ x.f2.size ≤ 80 := by
  unfold ioOK at h
  simp only [Bool.and_eq_true, decide_eq_true_eq] at h
  have h1 := inB_iff.1 h.1
  have h2 := inB_iff.1 h.2.1
  exact ⟨h1.1, h1.2, h2.1, h2.2, by omega⟩
theorem io_of {x : S92} (h0 : 0 ≤ x.f0) (h1 : x.f0 ≤ 3) (h2 : 0 ≤ x.f1) (h3 : x.f1 ≤ 63) (h4 : x.f2.size ≤ 80) : ioOK x = true := by
  unfold ioOK
  rw [inB_iff.2 ⟨h0, h1⟩, inB_iff.2 ⟨h2, h3⟩, decide_eq_true (by omega)]; rfl
theorem land_ok {d : List ByteArray} {l : List S92} (h : diskOK d l = true) (host : Int) (k : Nat) (lose : Bool) : diskOK (landS host l k d) (landP host lose l k) = true := by
  obtain ⟨h1, h2, h3, h4⟩ := disk_in h
  obtain ⟨p1, p2⟩ := landP_sub host lose l k
  obtain ⟨s1, s2⟩ := landS_ok host l k d (fun x hx => (io_in (h4 x hx)).2.2.2.2) h3
  exact disk_of (by omega) (by omega) s2 (fun x hx => h4 x (p1 x hx))
theorem settle_land {d : List ByteArray} {l : List S92} (h : diskOK d l = true) (host : Int) (k : Nat) (hk : k ≤ 100000) (lose : Bool) : impl_Disk_settle.f d l host (k : Int) lose = some (landS host l k d, landP host lose l k) ∧ Ev (fun n => spec_l01Land.f n d l host (k : Int) lose) (landS host l k d, landP host lose l k) := by
  obtain ⟨h1, h2, h3, h4⟩ := disk_in h
  obtain ⟨q, _, _, q3, q4⟩ := settled h host (k : Int) lose
  obtain ⟨kf, e⟩ := go_land host lose l k d hk (fun x hx => by have := io_in (h4 x hx); omega)
  have he : impl_Disk_settle.f d l host (k : Int) lose = some (landS host l k d, landP host lose l k) := by
    unfold impl_Disk_settle.f
    rw [copied_eq d l (by omega) (by omega), Option.bind_some]
    show (if l.length ≤ 1000000000 then _ else _) = _
    rw [if_pos (by omega)]
    show (impl_Disk_settle_go host lose l (k : Int) d).bind _ = _
    rw [e]; rfl
  rw [he] at q3
  rw [← Option.some.inj q3] at q4
  exact ⟨he, q4⟩
theorem codes0 {d : List ByteArray} {l : List S92} (h : diskOK d l = true) {a : Int} (h0 : 0 ≤ a) (h1 : a ≤ 3) : impl_Disk_codes.f d l a = some 0 := by
  rw [codes_eq, h, inB_iff.2 ⟨h0, h1⟩]; rfl
theorem ask0 {d : List ByteArray} {l : List S92} (h : diskOK d l = true) {a : Int} (h0 : 0 ≤ a) (h1 : a ≤ 3) : Ev (fun k => spec_l01Ask.f k d l a 0) 0 := by
  obtain ⟨e1, e2, _, _⟩ := disk_in h
  have := ask_ev d l a (by omega) (by omega)
  rw [h, inB_iff.2 ⟨h0, h1⟩] at this
  exact this
theorem lose_eq {d : List ByteArray} {l : List S92} (h : diskOK d l = true) {a : Int} (h0 : 0 ≤ a) (h1 : a ≤ 3) (k : Nat) (hk : k ≤ 200) : impl_LoseHost.f d l a (k : Int) = some (landS a l k d, landP a true l k, 0) := by
  unfold impl_LoseHost.f
  simp only [impl_DiskOK_eq, impl_isHost.f, within_eq, Option.bind_some, h, inB_iff.2 ⟨h0, h1⟩, inB_iff.2 ⟨show (0 : Int) ≤ (k : Int) by omega, show (k : Int) ≤ 200 by omega⟩]
  rw [show impl_first.f [Any.b (!true), Any.n 1, Any.b (!true), Any.n 4, Any.b (!true), Any.n 4] = some 0 from rfl, Option.bind_some, if_pos rfl, (settle_land h a k (by omega) true).1]; rfl
theorem lose_spec {d : List ByteArray} {l : List S92} (h : diskOK d l = true) {a : Int} (h0 : 0 ≤ a) (h1 : a ≤ 3) (k : Nat) (hk : k ≤ 200) : Ev (fun n => spec_LoseHost.f n d l a (k : Int)) (landS a l k d, landP a true l k, 0) := by
  unfold spec_LoseHost.f
  simp only [l01In_eq, Option.bind_some]
  rw [inB_iff.2 ⟨show (0 : Int) ≤ (k : Int) by omega, show (k : Int) ≤ 200 by omega⟩]
  exact ev_bind (ask0 h h0 h1) (ev_pos rfl (ev_pos rfl (ev_bind (settle_land h a k (by omega) true).2 (ev_some _))))
theorem flush_eq {d : List ByteArray} {l : List S92} (h : diskOK d l = true) {a : Int} (h0 : 0 ≤ a) (h1 : a ≤ 3) : impl_Flush.f d l a = some (landS a l 200 d, landP a false l 200, 0) := by
  unfold impl_Flush.f
  rw [codes0 h h0 h1, Option.bind_some, if_pos rfl, show ((200 : Int)) = ((200 : Nat) : Int) from rfl, (settle_land h a 200 (by omega) false).1]; rfl
theorem flush_spec {d : List ByteArray} {l : List S92} (h : diskOK d l = true) {a : Int} (h0 : 0 ≤ a) (h1 : a ≤ 3) : Ev (fun n => spec_Flush.f n d l a) (landS a l 200 d, landP a false l 200, 0) := by
  unfold spec_Flush.f
  exact ev_bind (ask0 h h0 h1) (ev_pos rfl (ev_bind (ev_bind (settle_land h a 200 (by omega) false).2 (ev_some _)) (ev_some _)))
theorem pending_ev {d : List ByteArray} {l : List S92} (h : diskOK d l = true) {a : Int} (h0 : 0 ≤ a) (h1 : a ≤ 3) : Ev (fun n => impl_PendingOf.f n d l a) (((countOf a l : Nat) : Int), 0) := by
  obtain ⟨e1, e2, _, _⟩ := disk_in h
  unfold impl_PendingOf.f
  simp only [codes0 h h0 h1, Option.bind_some]
  exact ev_pos trivial (ev_bind (impl_count_ev d l a (by omega)) (ev_some _))
theorem landOne_ev {d : List ByteArray} {l : List S92} (h : diskOK d l = true) {a : Int} (h0 : 0 ≤ a) (h1 : a ≤ 3) (hc : 0 < countOf a l) : Ev (fun n => impl_LandOne.f n d l a) (landS a l 1 d, landP a false l 1, 0) := by
  obtain ⟨e1, e2, _, _⟩ := disk_in h
  unfold impl_LandOne.f
  simp only [codes0 h h0 h1, Option.bind_some]
  refine ev_pos trivial (ev_bind (impl_count_ev d l a (by omega)) (ev_neg (by omega) ?_))
  have := (settle_land h a 1 (by omega) false).1
  rw [show (((1 : Nat) : Int)) = 1 from rfl] at this
  rw [this]; exact ev_some _
/- of lists -/
theorem landP0 (a : Int) : ∀ l : List S92, landP a false l 0 = l := by
  intro l
  induction l with
  | nil => rfl
  | cons x r ih => simp only [landP, ih, Bool.false_eq_true, if_false, ite_self]
theorem landS0 (a : Int) : ∀ (l : List S92) (s : List ByteArray), landS a l 0 s = s := by
  intro l
  induction l with
  | nil => intro s; rfl
  | cons x r ih => intro s; exact ih s
theorem count_cons (a : Int) (x : S92) (r : List S92) : countOf a (x :: r) = (if x.f0 = a then countOf a r + 1 else countOf a r) := by
  unfold countOf
  by_cases c : x.f0 = a
  · rw [if_pos c, List.filter_cons_of_pos (by simp [c])]; rfl
  · rw [if_neg c, List.filter_cons_of_neg (by simp [c])]
theorem landP_true (a : Int) : ∀ (l : List S92) (k : Nat), landP a true l k = l.filter (fun x => !(x.f0 == a)) := by
  intro l
  induction l with
  | nil => intro k; cases k <;> rfl
  | cons x r ih =>
    intro k
    by_cases c : x.f0 = a
    · rw [List.filter_cons_of_neg (by simp [c])]
      cases k with
      | zero => simp only [landP, if_pos c, if_true]; exact ih 0
      | succ k => simp only [landP, if_pos c]; exact ih k
    · rw [List.filter_cons_of_pos (by simp [c])]
      cases k with
      | zero => simp only [landP, if_neg c, ih 0]
      | succ k => simp only [landP, if_neg c, ih (k + 1)]
theorem landP_filter (a : Int) : ∀ (l : List S92) (k : Nat), (landP a false l k).filter (fun x => !(x.f0 == a)) = l.filter (fun x => !(x.f0 == a)) := by
  intro l
  induction l with
  | nil => intro k; cases k <;> rfl
  | cons x r ih =>
    intro k
    by_cases c : x.f0 = a
    · rw [List.filter_cons_of_neg (l := r) (by simp [c])]
      cases k with
      | zero => simp only [landP, if_pos c, Bool.false_eq_true, if_false]; rw [List.filter_cons_of_neg (by simp [c])]; exact ih 0
      | succ k => simp only [landP, if_pos c]; exact ih k
    · rw [List.filter_cons_of_pos (l := r) (by simp [c])]
      cases k with
      | zero => simp only [landP, if_neg c]; rw [List.filter_cons_of_pos (by simp [c]), ih 0]
      | succ k => simp only [landP, if_neg c]; rw [List.filter_cons_of_pos (by simp [c]), ih (k + 1)]
theorem count_landP (a : Int) : ∀ (l : List S92) (k : Nat), countOf a (landP a false l k) = countOf a l - k := by
  intro l
  induction l with
  | nil => intro k; cases k <;> simp [landP, countOf]
  | cons x r ih =>
    intro k
    by_cases c : x.f0 = a
    · cases k with
      | zero => rw [landP0]; omega
      | succ k => simp only [landP, if_pos c]; rw [ih k, count_cons, if_pos c]; omega
    · cases k with
      | zero => rw [landP0]; omega
      | succ k => simp only [landP, if_neg c]; rw [count_cons, count_cons, if_neg c, if_neg c, ih (k + 1)]
theorem landP_step (a : Int) : ∀ (l : List S92) (j : Nat), landP a false (landP a false l j) 1 = landP a false l (j + 1) := by
  intro l
  induction l with
  | nil => intro j; cases j <;> rfl
  | cons x r ih =>
    intro j
    by_cases c : x.f0 = a
    · cases j with
      | zero => rw [landP0]
      | succ j => simp only [landP, if_pos c]; exact ih j
    · cases j with
      | zero => rw [landP0]
      | succ j => simp only [landP, if_neg c]; rw [ih (j + 1)]
theorem landS_step (a : Int) : ∀ (l : List S92) (j : Nat) (s : List ByteArray), landS a (landP a false l j) 1 (landS a l j s) = landS a l (j + 1) s := by
  intro l
  induction l with
  | nil => intro j s; cases j <;> rfl
  | cons x r ih =>
    intro j s
    by_cases c : x.f0 = a
    · cases j with
      | zero => rw [landP0, landS0]
      | succ j => simp only [landP, landS, if_pos c]; exact ih j _
    · cases j with
      | zero => rw [landP0, landS0]
      | succ j => simp only [landP, landS, if_neg c]; exact ih (j + 1) s
theorem landS_more (a : Int) : ∀ (l : List S92) (k j : Nat) (s : List ByteArray), countOf a l ≤ k → countOf a l ≤ j → landS a l k s = landS a l j s := by
  intro l
  induction l with
  | nil => intro k j s _ _; cases k <;> cases j <;> rfl
  | cons x r ih =>
    intro k j s hk hj
    rw [count_cons] at hk hj
    by_cases c : x.f0 = a
    · rw [if_pos c] at hk hj
      cases k with
      | zero => omega
      | succ k =>
        cases j with
        | zero => omega
        | succ j => simp only [landS, if_pos c]; exact ih k j _ (by omega) (by omega)
    · rw [if_neg c] at hk hj
      cases k with
      | zero =>
        cases j with
        | zero => rfl
        | succ j => simp only [landS, if_neg c]; exact ih 0 (j + 1) s hk hj
      | succ k =>
        cases j with
        | zero => simp only [landS, if_neg c]; exact ih (k + 1) 0 s hk hj
        | succ j => simp only [landS, if_neg c]; exact ih (k + 1) (j + 1) s hk hj
theorem landS_snoc (a : Int) (x : S92) (hx : x.f0 = a) : ∀ (l : List S92) (k : Nat) (s : List ByteArray), countOf a l < k → landS a (l ++ [x]) k s = (landS a l k s).set x.f1.toNat x.f2 := by
  intro l
  induction l with
  | nil =>
    intro k s hk
    cases k with
    | zero => simp [countOf] at hk
    | succ k => simp only [List.nil_append, landS, if_pos hx]
  | cons y r ih =>
    intro k s hk
    rw [count_cons] at hk
    rw [List.cons_append]
    cases k with
    | zero => omega
    | succ k =>
      by_cases c : y.f0 = a
      · rw [if_pos c] at hk
        simp only [landS, if_pos c]; exact ih k _ (by omega)
      · rw [if_neg c] at hk
        simp only [landS, if_neg c]; exact ih (k + 1) s hk
theorem count_filter (a : Int) (l : List S92) : countOf a (l.filter (fun x => !(x.f0 == a))) = 0 := by
  unfold countOf
  rw [List.filter_filter, List.length_eq_zero_iff, List.filter_eq_nil_iff]
  intro x _
  cases (x.f0 == a) <;> simp
theorem filter_count (a : Int) : ∀ l : List S92, (l.filter (fun x => !(x.f0 == a))).length + countOf a l = l.length := by
  intro l
  induction l with
  | nil => rfl
  | cons x r ih =>
    rw [count_cons]
    by_cases c : x.f0 = a
    · rw [if_pos c, List.filter_cons_of_neg (by simp [c]), List.length_cons]; omega
    · rw [if_neg c, List.filter_cons_of_pos (by simp [c]), List.length_cons, List.length_cons]; omega
theorem sameTexts_ev (l : List ByteArray) (hl : l.length ≤ 1000000000) : Ev (fun k => laws_sameTexts.f k l l) true := by
  unfold laws_sameTexts.f
  refine ev_pos rfl ?_
  refine ev_loop (g := fun k i => laws_sameTexts.l0 k l l (i : Int)) l.length ?_ ?_ l.length 0 (by omega) (by omega)
  · refine Ev.step (f := fun _ => some true) (fun k => ?_) (ev_some _)
    simp only [laws_sameTexts.l0]; rw [if_neg (by omega)]
  · intro i hi
    refine ⟨1, fun k => ⟨?_, by omega⟩⟩
    simp only [laws_sameTexts.l0]
    rw [if_pos (by omega), if_pos (by omega), if_pos (by omega), if_pos trivial, wnext i (by omega)]
theorem sameDisk_ev (d : List ByteArray) (l : List S92) (hd : d.length ≤ 1000000000) (hl : l.length ≤ 1000000000) : Ev (fun k => laws_sameDisk.f k d l d l) true := by
  unfold laws_sameDisk.f
  refine ev_bind (sameTexts_ev d hd) (ev_pos rfl (Ev.succ ?_))
  simp only [laws_sameDisk.j0]
  refine ev_neg (by simp) ?_
  refine ev_loop (g := fun k i => laws_sameDisk.l0 k (i : Int) d l d l) l.length ?_ ?_ l.length 0 (by omega) (by omega)
  · refine Ev.step (f := fun _ => some true) (fun k => ?_) (ev_some _)
    simp only [laws_sameDisk.l0]; rw [if_neg (by omega)]
  · intro i hi
    refine ⟨1, fun k => ⟨?_, by omega⟩⟩
    simp only [laws_sameDisk.l0]
    rw [if_pos (by omega), if_pos (by omega), if_pos (by omega), if_neg (by simp), wnext i (by omega)]
/-! ### spec_TextOf: function 37 -/
def spec_TextOf.f (k : Nat) (l0 : List Int) (a1 : Int) : Option (ByteArray) := (spec_l00Source.f l0).bind fun bt754 => ((spec_l00Src_some.f k bt754.1 bt754.2.1 bt754.2.2 a1).bind fun bt758 => (some bt758.1))
theorem spec_TextOf.mono : ∀ a0 a1 k, LeO (spec_TextOf.f k a0 a1) (spec_TextOf.f (k + 1) a0 a1) := by
  intro a0 a1 k
  unfold spec_TextOf.f
  repeat' first
      | (with_reducible exact spec_l00Src_some.mono _ _ _ _ _)
      | (with_reducible exact LeO.refl _)
      | (with_reducible exact LeO.none _)
      | (with_reducible refine LeO.ite ?_ ?_)
      | (with_reducible refine LeO.bind ?_ (fun _ => ?_))
      | exact spec_l00Src_some.mono _ _ _ _ _
      | exact LeO.none _
      | refine LeO.ite ?_ ?_
      | refine LeO.bind ?_ (fun _ => ?_)
set_option maxHeartbeats 8000000 in
set_option maxRecDepth 100000 in
theorem spec_TextOf.calls (k : Nat) (A0 : Option Addr) (c0 : Nat) (l0 : List Int) (a1 : Int) (r : ByteArray) (w : World) (hr0 : Kd.C (Kd.int .u8) w A0 l0.length l0) (hc0 : l0.length ≤ c0) (h : spec_TextOf.f k l0 a1 = some r) :
    Calls Try.prog 37 #[.slice A0 l0.length c0, .int .i64 a1] w fun e w' => e = .returned (.string r) ∧ Below w.heap.size w w' := by
 have HR0 := zm hr0
 have HC0 := zm hc0
 clear hr0 hc0
 have HB := zm (Below.refl w.heap.size w)
 have H : ((spec_l00Source.f l0).bind fun bt754 => ((spec_l00Src_some.f k bt754.1 bt754.2.1 bt754.2.2 a1).bind fun bt758 => (some bt758.1))) = some r := h
 clear h
 replace H := Option.bind_eq_some_iff.mp H
 obtain ⟨⟨t754, t755, t756⟩, A30, H⟩ := H
 replace H : ((spec_l00Src_some.f k t754 t755 t756 a1).bind fun bt758 => (some bt758.1)) = some r := H
 have A3 := zm A30
 clear A30
 replace H := Option.bind_eq_some_iff.mp H
 obtain ⟨⟨t758, t759, t760⟩, A40, H⟩ := H
 replace H : (some t758) = some r := H
 have A4 := zm A40
 clear A40
 obtain rfl := Option.some.inj H
 go_enter Try.func37, Try.ntmps37
 go_wp2_with (first | ((with_reducible refine gate_callee (f := 47) rfl ?_); refine goesL_ (some 6) rfl rfl Try.func47 (by kernel_rfl) rfl #[.slice A0 l0.length c0] rfl zq ?_; (with_reducible refine (spec_l00Source.calls _ _ l0 t754 t755 t756 w _ ?side1 ?side2 ?side3 A3.out).mono ?_); (case side1 => repeat (first | (with_reducible first | exact HB.out | apply below_alloc | apply pw_below_drewN | apply below_drew1) | exact HB.out)); (case side2 => exact HR0.out); (case side3 => exact HC0.out); rintro e w5 ⟨g757, rfl, hi, hb, hb2⟩; refine ⟨_, rfl, ?_⟩; have n0_ := zm (hb); have n1_ := zm (hi); clear HB; have HB := n0_; have HI757 := n1_; clear n0_ n1_; (try clear hb); (try clear hb2); (try clear hk); (try clear hi)) | ((with_reducible refine gate_callee (f := 85) rfl ?_); refine goesL_ (some 8) rfl rfl Try.func85 (by kernel_rfl) rfl #[.pointer (some ⟨g757, 0, none⟩), .int .i64 a1] rfl zq ?_; (with_reducible refine (spec_l00Src_some.calls k g757 t754 t755 t756 a1 t758 t759 t760 w _ ?side1 ?side2 A4.out).mono ?_); (case side1 => repeat (first | (with_reducible first | exact HI757.out | apply IsS112.alloc | apply IsS112.drewN | apply IsS112.drew | apply IsS112.set_1 | apply IsS112.set_2) | exact HI757.out)); (case side2 => repeat (first | (with_reducible first | exact HB.out | apply below_alloc | apply pw_below_drewN | apply below_drew1 | refine below_set ?_ (IsS112.ge HI757.out)) | exact HB.out)); rintro e w6 ⟨rfl, hi, hb, hk⟩; refine ⟨_, rfl, ?_⟩; have n0_ := zm (hb); have n1_ := zm (hi); clear HB; clear HI757; have HB := n0_; have HI757 := n1_; clear n0_ n1_; (try clear hb); (try clear hb2); (try clear hk); (try clear hi)))
 go_ret
 exact ⟨by first | rfl | (simp [errW_none, errW_some] <;> rfl) | (simp [*, errW_none, errW_some] <;> rfl), zg_7 HB.out HI757.out⟩
/-! ### DrawD -/
theorem disk_fill (l : List Int) (h : ∀ x ∈ l, 0 ≤ x ∧ x ≤ 255) : ∀ (i : Nat) (at_ seed : Int) (n : Nat) (D : List ByteArray) (P : List S92), P.length + i ≤ 100 → n + 100 * i ≤ 1000000000 → srcOK at_ seed n → diskOK D P = true →
    ∃ D' P' a s, Ev (fun k => spec_l00Src_disk.l0 k (i : Int) l at_ seed D P) (D', P', a, s) ∧ diskOK D' P' = true ∧ P'.length ≤ P.length + i := by
  intro i
  induction i with
  | zero =>
    intro at_ seed n D P hp hn hs hok
    obtain ⟨e1, e2, _, _⟩ := disk_in hok
    refine ⟨D, P, at_, seed, Ev.step (f := fun _ => some (D, P, at_, seed)) (fun k => ?_) (ev_some _), hok, by omega⟩
    simp only [spec_l00Src_disk.l0]; rw [if_neg (by omega), own_eq D P (by omega) (by omega)]; rfl
  | succ i ih =>
    intro at_ seed n D P hp hn hs hok
    obtain ⟨e1, e2, e3, e4⟩ := disk_in hok
    obtain ⟨p, a1, s1, f1, p0, -, p1, o1⟩ := next_ok l h at_ seed n hs (by omega) 5
    obtain ⟨q, a2, s2, f2, q0, -, q1, o2⟩ := next_ok l h a1 s1 _ o1 (by omega) 4
    have q1' := q1 (by omega)
    by_cases c : p = 0
    · obtain ⟨D', P', a', s', h1, h2, h3⟩ := ih a2 s2 _ (landS q P 200 D) (landP q false P 200) (by have := (landP_sub q false P 200).2; omega) (by omega) o2 (land_ok hok q 200 false)
      refine ⟨D', P', a', s', Ev.succ ?_, h2, by have := (landP_sub q false P 200).2; omega⟩
      simp only [spec_l00Src_disk.l0, f1, f2, Option.bind_some]
      refine ev_pos (by omega) (ev_pos c (ev_bind (ev_bind (settle_land hok q 200 (by omega) false).2 (ev_some _)) ?_))
      rw [w64 (n := ((i + 1 : Nat) : Int) - 1) (by omega) (by omega), show ((i + 1 : Nat) : Int) - 1 = (i : Int) by omega]
      exact h1
    · obtain ⟨r, a3, s3, f3, r0, -, r1, o3⟩ := next_ok l h a2 s2 _ o2 (by omega) 8
      obtain ⟨m, a4, s4, f4, m0, -, m1, o4⟩ := next_ok l h a3 s3 _ o3 (by omega) 5
      have r1' := r1 (by omega)
      have m1' := m1 (by omega)
      obtain ⟨j, rfl⟩ : ∃ j : Nat, m = (j : Int) := ⟨m.toNat, by omega⟩
      obtain ⟨t, a5, s5, f5, ht, o5⟩ := some_ev l h j (by omega) a4 s4 _ o4 (by omega)
      have hw : spec_l01Write.f D P q r t = some (D, P ++ [(⟨q, r, t⟩ : S92)]) := by
        unfold spec_l01Write.f
        simp only [Option.bind_some, List.length_nil, List.nil_append, List.length_singleton]
        rw [if_pos (by omega), if_pos (by omega)]
      obtain ⟨D', P', a', s', h1, h2, h3⟩ := ih a5 s5 _ D (P ++ [(⟨q, r, t⟩ : S92)]) (by simp; omega) (by omega) o5 (disk_of e1 (by simp; omega) e3 (by
        intro x hx
        rcases List.mem_append.1 hx with hx | hx
        · exact e4 x hx
        · rw [List.mem_singleton.1 hx]; exact io_of q0 (by show q ≤ 3; omega) r0 (by show r ≤ 63; omega) (by show t.size ≤ 80; omega)))
      refine ⟨D', P', a', s', Ev.succ ?_, h2, by simp at h3; omega⟩
      simp only [spec_l00Src_disk.l0, f1, f2, f3, f4, Option.bind_some]
      refine ev_pos (by omega) (ev_neg c (ev_bind f5 ?_))
      simp only [hw, Option.bind_some]
      rw [w64 (n := ((i + 1 : Nat) : Int) - 1) (by omega) (by omega), show ((i + 1 : Nat) : Int) - 1 = (i : Int) by omega]
      exact h1
theorem disk_drawn (l : List Int) (h : ∀ x ∈ l, 0 ≤ x ∧ x ≤ 255) : ∃ D P, Ev (fun k => spec_DiskOf.f k l) (D, P) ∧ diskOK D P = true ∧ P.length ≤ 19 := by
  have hnew : spec_l01New.f = some (List.replicate 64 (⟨#[]⟩ : ByteArray), ([] : List S92)) := rfl
  unfold spec_DiskOf.f spec_l00Source.f spec_l00Src_disk.f
  simp only [hnew, Option.bind_some]
  obtain ⟨m, a1, s1, e1, m0, -, m1, o1⟩ := next_ok l h _ _ _ (source_ok l) (by omega) 20
  have m1' := m1 (by omega)
  rw [e1]; simp only [Option.bind_some]
  obtain ⟨j, rfl⟩ : ∃ j : Nat, m = (j : Int) := ⟨m.toNat, by omega⟩
  obtain ⟨D, P, a, s, e, h1, h2⟩ := disk_fill l h j a1 s1 _ (List.replicate 64 (⟨#[]⟩ : ByteArray)) [] (by simp; omega) (by omega) o1 (disk_of (by simp) (by simp) (by intro x hx; rw [(List.mem_replicate.1 hx).2]; exact Nat.zero_le _) (by simp))
  exact ⟨D, P, ev_bind e (ev_some _), h1, by simp at h2; omega⟩
theorem text_drawn (l : List Int) (h : ∀ x ∈ l, 0 ≤ x ∧ x ≤ 255) (m : Nat) (hm : m ≤ 1000) : ∃ t, Ev (fun k => spec_TextOf.f k l (m : Int)) t ∧ t.size = m := by
  unfold spec_TextOf.f spec_l00Source.f
  simp only [Option.bind_some]
  obtain ⟨t, a, s, e, ht, _⟩ := some_ev l h m (by omega) _ _ _ (source_ok l) (by omega)
  exact ⟨t, ev_bind e (ev_some _), ht⟩
/-! ### At -/
theorem at_ok (l : List Int) (h : ∀ x ∈ l, 0 ≤ x ∧ x ≤ 255) (i : Int) (hi0 : 0 ≤ i) (hi : i ≤ 1000000) (n : Int) : ∃ r, laws_at.f l i n = some r ∧ 0 ≤ r ∧ (n ≤ 1 → r = 0) ∧ (1 ≤ n → r < n) := by
  unfold laws_at.f
  by_cases c1 : n ≤ 1
  · rw [if_pos c1]; exact ⟨0, rfl, by omega, fun _ => rfl, fun _ => by omega⟩
  · rw [if_neg c1]
    by_cases c2 : (l.length : Int) = 0
    · rw [if_pos c2, if_neg (by omega)]
      have x1 : wrap64 (i * 7) = i * 7 := w64 (by omega) (by omega)
      rw [x1]
      have := tmod_range (show 0 ≤ i * 7 by omega) (show 0 < n by omega)
      exact ⟨_, rfl, this.1, fun h => absurd h c1, fun _ => this.2⟩
    · rw [if_neg c2]
      have x1 : wrap64 (i + 1) = i + 1 := w64 (by omega) (by omega)
      rw [x1]
      have m1 := tmod_range hi0 (show 0 < (l.length : Int) by omega)
      have m2 := tmod_range (show 0 ≤ i + 1 by omega) (show 0 < (l.length : Int) by omega)
      rw [if_pos m1.1, if_pos m1.2, if_pos m2.1, if_pos m2.2, if_neg (by omega)]
      have b1 := rd_byte l h (Int.tmod i (l.length : Int))
      have b2 := rd_byte l h (Int.tmod (i + 1) (l.length : Int))
      generalize rd l (Int.tmod i (l.length : Int)) = u at b1 ⊢
      generalize rd l (Int.tmod (i + 1) (l.length : Int)) = v at b2 ⊢
      have d0 : 0 ≤ Int.tdiv i (l.length : Int) := by rw [Int.tdiv_eq_ediv_of_nonneg hi0]; exact Int.ediv_nonneg hi0 (by omega)
      have d1 : Int.tdiv i (l.length : Int) ≤ i := by rw [Int.tdiv_eq_ediv_of_nonneg hi0]; exact Int.ediv_le_self _ hi0
      generalize Int.tdiv i (l.length : Int) = q at d0 d1 ⊢
      have y1 : wrap64 u = u := w64 (by omega) (by omega)
      have y2 : wrap64 v = v := w64 (by omega) (by omega)
      have y3 : wrap64 q = q := w64 (by omega) (by omega)
      have y4 : wrap64 (u * 31) = u * 31 := w64 (by omega) (by omega)
      rw [y1, y2, y3, y4]
      have y5 : wrap64 (u * 31 + v) = u * 31 + v := w64 (by omega) (by omega)
      rw [y5]
      have y6 : wrap64 (u * 31 + v + q) = u * 31 + v + q := w64 (by omega) (by omega)
      rw [y6]
      have := tmod_range (show 0 ≤ u * 31 + v + q by omega) (show 0 < n by omega)
      exact ⟨_, rfl, this.1, fun h => absurd h c1, fun _ => this.2⟩
end Go.Proofs.Ytajflpcihblkfaa.Q
