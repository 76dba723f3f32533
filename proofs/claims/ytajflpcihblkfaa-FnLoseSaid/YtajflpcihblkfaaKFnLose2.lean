/- What laws.FnLose reaches, part 2: the functions as Lean functions, the proofs that the program's functions answer so, and plain laws about them. -/
import Derived.Test.YtajflpcihblkfaaKFnLose1
namespace Go.Proofs.Ytajflpcihblkfaa.Q
open Go.RowKit Go.Proofs.Ytajflpcihblkfaa.Ext Go.Proofs.YtajflpcihblkfaaW.PrintWords Go.Proofs.YtajflpcihblkfaaW.PrintLast Go.Proofs.YtajflpcihblkfaaW.PrintMore
attribute [local go_sem] max2_int min2_int max_two min_two max_three min_three max_four min_four   -- for this text's walks alone
set_option linter.unusedVariables false
set_option linter.unusedSimpArgs false

set_option linter.unusedVariables false
set_option linter.unusedSimpArgs false
/-! ### impl_Disk_settle: function 70 -/
/-- What the closure of settle sees: the host, how many writes are to be kept, the disk, whether the others are lost. -/
structure impl_Disk_settle_I (W : World) (base gH gK gO gL gR : Nat) (host keep : Int) (lose : Bool) (sv pv : Value) (secs : List ByteArray) : Prop where
  h : W.heap[gH]? = some (.cells #[.int .i64 host] 3 (0, 0))
  k : W.heap[gK]? = some (.cells #[.int .i64 keep] 3 (0, 0))
  o : W.heap[gO]? = some (.cells #[sv, pv] 48 (0, 0))
  l : W.heap[gL]? = some (.cells #[.bool lose] 4 (0, 0))
  s : Kd.R Kd.string 9 W base (fun _ => True) sv secs
  n : gH ≠ gK
  r : W.heap[gR]? = some (.cells #[.slice none 0 0, .slice none 0 0] 48 (0, 0))
def impl_Disk_settle_stp (host : Int) (lose : Bool) (keep : Int) (secs : List ByteArray) (x : S92) : Option (Bool × Int × List ByteArray) :=
  if x.f0 = host then (if keep > 0 then (if 0 ≤ x.f1 then (if x.f1 < (secs.length : Int) then some (true, wrap64 (keep - 1), secs.set x.f1.toNat x.f2) else none) else none) else some (lose, keep, secs)) else some (false, keep, secs)
theorem impl_Disk_settle_I.below {W W1 : World} {base gH gK gO gL gR : Nat} {host keep : Int} {lose : Bool} {sv pv : Value} {secs : List ByteArray} (I : impl_Disk_settle_I W base gH gK gO gL gR host keep lose sv pv secs) (hb : Below W.heap.size W W1) : impl_Disk_settle_I W1 base gH gK gO gL gR host keep lose sv pv secs :=
  ⟨blk_below I.h hb, blk_below I.k hb, blk_below I.o hb, blk_below I.l hb, Kd.R_below I.s hb, I.n, blk_below I.r hb⟩
set_option maxHeartbeats 4000000 in
set_option maxRecDepth 100000 in
theorem impl_Disk_settle_clos {w0 W : World} {gH gK gO gL gR : Nat} {host keep : Int} {lose : Bool} {sv pv : Value} {secs : List ByteArray} (I : impl_Disk_settle_I W w0.heap.size gH gK gO gL gR host keep lose sv pv secs) (hB : Below w0.heap.size w0 W) (hg : w0.heap.size ≤ gK) (x : S92) (b : Bool) (keep' : Int) (secs' : List ByteArray) (hst : impl_Disk_settle_stp host lose keep secs x = some (b, keep', secs')) :
    Calls Try.prog 115 #[.agg #[.int .i64 x.f0, .int .i64 x.f1, .string x.f2], .pointer (some ⟨gH, 0, none⟩), .pointer (some ⟨gK, 0, none⟩), .pointer (some ⟨gO, 0, none⟩), .pointer (some ⟨gL, 0, none⟩)] W
      fun e W' => e = .returned (.bool b) ∧ impl_Disk_settle_I W' w0.heap.size gH gK gO gL gR host keep' lose sv pv secs' ∧ Below w0.heap.size w0 W' ∧ Kept W W' (fun k_ => k_ = gK ∨ some k_ = sv.ownBlock) := by
  have hu92 := Try.underlying92
  have hu48 := Try.underlying48
  have II := zm I
  have HB := zm hB
  have HG := zm hg
  clear I hB hg
  unfold impl_Disk_settle_stp at hst
  by_cases c1 : x.f0 = host
  · rw [if_pos c1] at hst
    have d1 : (x.f0 != host) = false := by simp [c1]
    have d2 : decide (x.f0 = host) = true := decide_eq_true c1
    have d3 : decide (x.f0 ≠ host) = false := by simp [c1]
    have d4 : (x.f0 == host) = true := by simp [c1]
    clear c1
    by_cases c2 : keep > 0
    · rw [if_pos c2] at hst
      have e1 : decide (keep > 0) = true := decide_eq_true c2
      have e2 : decide (0 < keep) = true := decide_eq_true c2
      clear c2
      by_cases c3 : 0 ≤ x.f1
      · rw [if_pos c3] at hst
        by_cases c4 : x.f1 < (secs.length : Int)
        · rw [if_pos c4] at hst
          simp only [Option.some.injEq, Prod.mk.injEq] at hst
          obtain ⟨rfl, rfl, rfl⟩ := hst
          have C3 := zm c3
          have C4 := zm c4
          have q3 := eq_true c3
          have q4 := eq_true c4
          have f3 : decide (0 ≤ x.f1) = true := decide_eq_true c3
          have f4 : decide (x.f1 < (secs.length : Int)) = true := decide_eq_true c4
          clear c3 c4
          obtain ⟨gs, cs, rfl, hgs, hgl, hcl, HS⟩ := Kd.R_form II.out.s (by have := C3.out; have := C4.out; omega)
          have GS := zm hgs
          clear hgs hgl hcl HS
          go_enter Try.func115, Try.ntmps115
          go_wp2_with (first
            | ((with_reducible refine gate_dst (N := 5) rfl ?_); refine box_event ?hg (N := 5) ?hd (cs := #[.int .i64 x.f0, .int .i64 x.f1, .string x.f2]) (t := 92) ?hr ?_; (case hd => rfl); (case hg => rfl); (case hr => first | (go_simp; done) | (go_simp; rfl)); intro gb hg w4 hbox hb; have BK := zm hbox; have I4 := zm (II.out.below hb); have HB4 := zm (below_step HB.out hb); have KK := zm (Kept.of_below hb (fun k_ => k_ = gK ∨ some k_ = (.slice (some ⟨gs, 0, none⟩) secs.length cs : Value).ownBlock)); clear hb hbox hg; have hx0 : w4.cell? ⟨gb, 0, none⟩ = some (.int .i64 x.f0) := (blk_cell BK.out 0).trans rfl; have hh : w4.cell? ⟨gH, 0, none⟩ = some (.int .i64 host) := (blk_cell I4.out.h 0).trans rfl; have hk : w4.cell? ⟨gK, 0, none⟩ = some (.int .i64 keep) := (blk_cell I4.out.k 0).trans rfl; have hfk := blk_frozen I4.out.k 0)
            | ((with_reducible refine gate_store (t := 3) (p := 2) rfl ?_); refine store_event (t := 3) (p := 2) (v := ?vo1) (w1 := (w4.setCell ⟨gK, 0, none⟩ (.int .i64 (wrap64 (keep - 1))))) ?hg ?ho ?hn ?hr ?_; (case ho => rfl); (case hg => rfl); (case hn => rfl); (case hr => first | (go_simp; done) | (go_simp; rfl)); intro w5 hw; have I5 := zm (show impl_Disk_settle_I w5 w0.heap.size gH gK gO gL gR host (wrap64 (keep - 1)) lose (.slice (some ⟨gs, 0, none⟩) secs.length cs) pv secs from by rw [hw]; exact ⟨blk_far I4.out.h I4.out.n _, blk_set I4.out.k 0 _, blk_far I4.out.o (blk_ne I4.out.o I4.out.k (by decide)) _, blk_far I4.out.l (blk_ne I4.out.l I4.out.k (by decide)) _, Kd.R_mono (Kd.R_set I4.out.s I4.out.k (by decide) 0 _) (fun _ _ => trivial), I4.out.n, blk_far I4.out.r (blk_ne I4.out.r I4.out.k (by decide)) _⟩); have B5 := zm (show w5.heap[gb]? = some (.cells #[.int .i64 x.f0, .int .i64 x.f1, .string x.f2] 92 (0, 0)) from by rw [hw]; exact blk_far BK.out (blk_ne BK.out I4.out.k (by decide)) _); have HB5 := zm (show Below w0.heap.size w0 w5 from by rw [hw]; exact below_set HB4.out HG.out); have K5 := zm (show Kept W w5 (fun k_ => k_ = gK ∨ some k_ = (.slice (some ⟨gs, 0, none⟩) secs.length cs : Value).ownBlock) from by rw [hw]; exact Kept.setCell KK.out (.inl (.inl rfl)) _); clear hw I4 BK HB4 KK hx0 hh hk hfk; have ho : w5.cell? ⟨gO, 0, none⟩ = some (.slice (some ⟨gs, 0, none⟩) secs.length cs) := (blk_cell I5.out.o 0).trans rfl; have hx1 : w5.cell? ⟨gb, 1, none⟩ = some (.int .i64 x.f1) := (blk_cell B5.out 1).trans rfl; have hx2 : w5.cell? ⟨gb, 2, none⟩ = some (.string x.f2) := (blk_cell B5.out 2).trans rfl; obtain ⟨hy, hz⟩ := Kd.R_celln (⟨#[]⟩ : ByteArray) I5.out.s x.f1 C3.out C4.out; have HP := zm (Kd.R_putg I5.out.s x.f1 x.f2))
            | ((with_reducible refine gate_store (t := 9) (p := 21) rfl ?_); refine store_event (t := 9) (p := 21) (v := ?vo2) (w1 := (w5.setCell ⟨gs, x.f1.toNat, none⟩ (.string x.f2))) ?hg ?ho ?hn ?hr ?_; (case ho => rfl); (case hg => rfl); (case hn => rfl); (case hr => first | (go_simp; done) | (go_simp; rfl)); intro w6 hw; have hgr : w5.grownBy w6 (some gs) := (by rw [hw]; exact HP.out.2); have nO := Kd.R_ne I5.out.s I5.out.o (by decide); have nH := Kd.R_ne I5.out.s I5.out.h (by decide); have nK := Kd.R_ne I5.out.s I5.out.k (by decide); have nL := Kd.R_ne I5.out.s I5.out.l (by decide); have nR := Kd.R_ne I5.out.s I5.out.r (by decide); have I6 := zm (show impl_Disk_settle_I w6 w0.heap.size gH gK gO gL gR host (wrap64 (keep - 1)) lose (.slice (some ⟨gs, 0, none⟩) secs.length cs) pv (secs.set x.f1.toNat x.f2) from ⟨blk_grown I5.out.h hgr nH, blk_grown I5.out.k hgr nK, blk_grown I5.out.o hgr nO, blk_grown I5.out.l hgr nL, (by rw [hw]; exact HP.out.1), I5.out.n, blk_grown I5.out.r hgr nR⟩); have HB6 := zm (show Below w0.heap.size w0 w6 from by rw [hw]; exact below_set HB5.out GS.out); have K6 := zm (Kept.of_grown (S := (fun k_ => k_ = gK ∨ some k_ = (.slice (some ⟨gs, 0, none⟩) secs.length cs : Value).ownBlock)) hgr K5.out (fun k_ e_ => .inl (.inr (by simp [Value.ownBlock, e_])))); clear hw hgr nO nH nK nL nR I5 B5 HB5 K5 ho hx1 hx2 hy hz HP))
          go_ret
          exact ⟨rfl, I6.out, HB6.out, K6.out⟩
        · rw [if_neg c4] at hst; cases hst
      · rw [if_neg c3] at hst; cases hst
    · rw [if_neg c2] at hst
      have e1 : decide (keep > 0) = false := decide_eq_false c2
      have e2 : decide (0 < keep) = false := decide_eq_false c2
      clear c2
      simp only [Option.some.injEq, Prod.mk.injEq] at hst
      obtain ⟨rfl, rfl, rfl⟩ := hst
      go_enter Try.func115, Try.ntmps115
      go_wp2_with (first
        | ((with_reducible refine gate_dst (N := 5) rfl ?_); refine box_event ?hg (N := 5) ?hd (cs := #[.int .i64 x.f0, .int .i64 x.f1, .string x.f2]) (t := 92) ?hr ?_; (case hd => rfl); (case hg => rfl); (case hr => first | (go_simp; done) | (go_simp; rfl)); intro gb hg w4 hbox hb; have BK := zm hbox; have I4 := zm (II.out.below hb); have HB4 := zm (below_step HB.out hb); have KK := zm (Kept.of_below hb (fun k_ => k_ = gK ∨ some k_ = sv.ownBlock)); clear hb hbox hg; have hx0 : w4.cell? ⟨gb, 0, none⟩ = some (.int .i64 x.f0) := (blk_cell BK.out 0).trans rfl; have hh : w4.cell? ⟨gH, 0, none⟩ = some (.int .i64 host) := (blk_cell I4.out.h 0).trans rfl; have hk : w4.cell? ⟨gK, 0, none⟩ = some (.int .i64 keep) := (blk_cell I4.out.k 0).trans rfl; have hl : w4.cell? ⟨gL, 0, none⟩ = some (.bool lose) := (blk_cell I4.out.l 0).trans rfl))
      go_ret
      exact ⟨rfl, I4.out, HB4.out, KK.out⟩
  · rw [if_neg c1] at hst
    have d1 : (x.f0 != host) = true := by simp [c1]
    have d2 : decide (x.f0 = host) = false := decide_eq_false c1
    have d3 : decide (x.f0 ≠ host) = true := decide_eq_true c1
    have d4 : (x.f0 == host) = false := by simp [c1]
    clear c1
    simp only [Option.some.injEq, Prod.mk.injEq] at hst
    obtain ⟨rfl, rfl, rfl⟩ := hst
    go_enter Try.func115, Try.ntmps115
    go_wp2_with (first
      | ((with_reducible refine gate_dst (N := 5) rfl ?_); refine box_event ?hg (N := 5) ?hd (cs := #[.int .i64 x.f0, .int .i64 x.f1, .string x.f2]) (t := 92) ?hr ?_; (case hd => rfl); (case hg => rfl); (case hr => first | (go_simp; done) | (go_simp; rfl)); intro gb hg w4 hbox hb; have BK := zm hbox; have I4 := zm (II.out.below hb); have HB4 := zm (below_step HB.out hb); have KK := zm (Kept.of_below hb (fun k_ => k_ = gK ∨ some k_ = sv.ownBlock)); clear hb hbox hg; have hx0 : w4.cell? ⟨gb, 0, none⟩ = some (.int .i64 x.f0) := (blk_cell BK.out 0).trans rfl; have hh : w4.cell? ⟨gH, 0, none⟩ = some (.int .i64 host) := (blk_cell I4.out.h 0).trans rfl))
    go_ret
    exact ⟨rfl, I4.out, HB4.out, KK.out⟩
def impl_Disk_settle_idx (host : Int) (lose : Bool) : List S92 → Int → List ByteArray → Nat → Option (Int × Int × List ByteArray)
  | [], keep, secs, _ => some (-1, keep, secs)
  | x :: r, keep, secs, i => (impl_Disk_settle_stp host lose keep secs x).bind fun b => if b.1 = true then some ((i : Int), b.2.1, b.2.2) else impl_Disk_settle_idx host lose r b.2.1 b.2.2 (i + 1)
theorem impl_Disk_settle_rd (l : List S92) (i : Nat) (h : i < l.length) : rd_T92 l (i : Int) = l[i] := by simp [rd_T92, h]
set_option maxHeartbeats 4000000 in
set_option maxRecDepth 100000 in
theorem impl_Disk_settle_index {w0 W : World} {gH gK gO gL gR : Nat} {host keep : Int} {lose : Bool} {sv pv v : Value} {secs : List ByteArray} {pend : List S92} (I : impl_Disk_settle_I W w0.heap.size gH gK gO gL gR host keep lose sv pv secs) (hB : Below w0.heap.size w0 W) (hg : w0.heap.size ≤ gK)
    (RP : Kd.R k92 92 W w0.heap.size (fun k_ => k_ ≠ gK ∧ some k_ ≠ sv.ownBlock) v pend) (hl : pend.length ≤ 1000000000) (r keep' : Int) (secs' : List ByteArray) (h : impl_Disk_settle_idx host lose pend keep secs 0 = some (r, keep', secs')) :
    Calls Try.prog 139 #[v, .func (.func 115) #[] #[.pointer (some ⟨gH, 0, none⟩), .pointer (some ⟨gK, 0, none⟩), .pointer (some ⟨gO, 0, none⟩), .pointer (some ⟨gL, 0, none⟩)]] W
      fun e W' => e = .returned (.int .i64 r) ∧ impl_Disk_settle_I W' w0.heap.size gH gK gO gL gR host keep' lose sv pv secs' ∧ Below w0.heap.size w0 W' ∧ Kept W W' (fun k_ => k_ = gK ∨ some k_ = sv.ownBlock) := by
  obtain ⟨Ao, co, rfl⟩ := Kd.R_slice RP
  have PP := zm RP
  have II := zm I
  have HB := zm hB
  have HG := zm hg
  have HK := zm (Kept.refl W (fun k_ => k_ = gK ∨ some k_ = sv.ownBlock))
  have H := zm h
  have HL := zm hl
  clear RP I hB hg h hl
  go_enter Try.func139, Try.ntmps139
  go_wp2
  go_loopg [8] pend.length (fun kq v8 w' => ∃ (x : Int) (kp : Int) (sc : List ByteArray), v8 = .int .i64 x ∧ Aside0 (0 ≤ x ∧ x.toNat ≤ pend.length ∧ kq = pend.length - x.toNat) ∧ Aside0 (impl_Disk_settle_idx host lose (pend.drop x.toNat) kp sc x.toNat = some (r, keep', secs')) ∧ Aside0 (impl_Disk_settle_I w' w0.heap.size gH gK gO gL gR host kp lose sv pv sc) ∧ Aside0 (Below w0.heap.size w0 w') ∧ Aside0 (Kept W w' (fun k_ => k_ = gK ∨ some k_ = sv.ownBlock)))
  case atStart => exact ⟨0, keep, secs, rfl, ⟨by omega, by omega, by simp⟩, ⟨by rw [show (0 : Int).toNat = 0 from rfl, List.drop_zero]; exact H.out⟩, II, HB, HK⟩
  case round =>
    try clear c1
    try clear p2
    clear II HB HK H
    obtain ⟨x, kp, sc, rfl, HM, H, II, HB, HK⟩ := hrel
    by_cases hc : x < (pend.length : Int)
    · have hd : decide (x < (pend.length : Int)) = true := decide_eq_true hc
      have hlt : x.toNat < pend.length := by have := HM.out; omega
      have h0x : 0 ≤ x := HM.out.1
      have h := H.out
      rw [List.drop_eq_getElem_cons hlt] at h
      simp only [impl_Disk_settle_idx] at h
      have h2 := Option.bind_eq_some_iff.mp h
      clear h
      obtain ⟨⟨b, k2, s2⟩, hst, h⟩ := h2
      have PQ := zm (Kd.R_kept PP.out HK.out (fun k_ hk_ hs_ => hs_.elim hk_.1 hk_.2))
      obtain ⟨gp, cp, ep, _, _, _, _⟩ := Kd.R_form PQ.out (by omega)
      (first | cases ep | (injection ep with ea_ en_ ec_; (first | subst ea_ | (injection ea_ with ea_; subst ea_)); subst ec_; clear en_))
      obtain ⟨ce, hcl, hM, hcc, hfr⟩ := Kd.R_elem PQ.out z92 x h0x hc
      obtain rfl := k92_openM hM
      have hx0 : wr.cell? ⟨gp, x.toNat * 3, none⟩ = some (.int .i64 (rd_T92 pend x).f0) := hcc 0 _ rfl
      have hx1 : wr.cell? ⟨gp, x.toNat * 3 + 1, none⟩ = some (.int .i64 (rd_T92 pend x).f1) := hcc 1 _ rfl
      have hx2 : wr.cell? ⟨gp, x.toNat * 3 + 2, none⟩ = some (.string (rd_T92 pend x).f2) := hcc 2 _ rfl
      clear hcl hM hcc hfr
      have hr0 : rd_T92 pend x = pend[x.toNat] := by simp [rd_T92, hlt]
      have ST := zm (show impl_Disk_settle_stp host lose kp sc (rd_T92 pend x) = some (b, k2, s2) from by rw [hr0]; exact hst)
      have HT := zm hlt
      have HH := zm h
      have WN : Aside0 (wrap64 (x + 1) = x + 1) := ⟨by unfold wrap64; have := HL.out; omega⟩
      have HC := zm hc
      have p0 := eq_true h0x
      have p1 := eq_true hc
      have d0 : decide (0 ≤ x) = true := decide_eq_true h0x
      clear h hst hr0 hlt H h0x hc
      cases b with
      | true =>
        go_wp2_with (first
          | ((with_reducible refine gate_dst (N := 16) rfl ?_); refine goesV (some 16) rfl rfl Try.func115 (by kernel_rfl) rfl #[.agg #[.int .i64 (rd_T92 pend x).f0, .int .i64 (rd_T92 pend x).f1, .string (rd_T92 pend x).f2], .pointer (some ⟨gH, 0, none⟩), .pointer (some ⟨gK, 0, none⟩), .pointer (some ⟨gO, 0, none⟩), .pointer (some ⟨gL, 0, none⟩)] rfl (cap := #[.pointer (some ⟨gH, 0, none⟩), .pointer (some ⟨gK, 0, none⟩), .pointer (some ⟨gO, 0, none⟩), .pointer (some ⟨gL, 0, none⟩)]) ?hx ?hargs ?_; (case hx => rfl); (case hargs => simp [Act.eval]); refine (impl_Disk_settle_clos II.out HB.out HG.out (rd_T92 pend x) _ _ _ ST.out).mono ?_; rintro e w2 ⟨rfl, hI, hb, hkp⟩; refine ⟨_, rfl, ?_⟩; have I2 := zm hI; have HB2 := zm hb; have HK2 := zm (HK.out.then_ hkp (fun _ h_ => .inl h_)); clear hI hb hkp hx0 hx1 hx2))
        have h := HH.out
        simp only [if_true, Option.some.injEq, Prod.mk.injEq] at h
        obtain ⟨e1, rfl, rfl⟩ := h
        have e2 : x = r := by have := HM.out; omega
        subst e2
        go_ret
        exact ⟨rfl, I2.out, HB2.out, HK2.out⟩
      | false =>
        go_wp2_with (first
          | ((with_reducible refine gate_dst (N := 16) rfl ?_); refine goesV (some 16) rfl rfl Try.func115 (by kernel_rfl) rfl #[.agg #[.int .i64 (rd_T92 pend x).f0, .int .i64 (rd_T92 pend x).f1, .string (rd_T92 pend x).f2], .pointer (some ⟨gH, 0, none⟩), .pointer (some ⟨gK, 0, none⟩), .pointer (some ⟨gO, 0, none⟩), .pointer (some ⟨gL, 0, none⟩)] rfl (cap := #[.pointer (some ⟨gH, 0, none⟩), .pointer (some ⟨gK, 0, none⟩), .pointer (some ⟨gO, 0, none⟩), .pointer (some ⟨gL, 0, none⟩)]) ?hx ?hargs ?_; (case hx => rfl); (case hargs => simp [Act.eval]); refine (impl_Disk_settle_clos II.out HB.out HG.out (rd_T92 pend x) _ _ _ ST.out).mono ?_; rintro e w2 ⟨rfl, hI, hb, hkp⟩; refine ⟨_, rfl, ?_⟩; have I2 := zm hI; have HB2 := zm hb; have HK2 := zm (HK.out.then_ hkp (fun _ h_ => .inl h_)); clear hI hb hkp hx0 hx1 hx2))
        go_roundg (pend.length - (x + 1).toNat)
        case measure => have := HM.out; have := HT.out; omega
        case rel => exact ⟨x + 1, k2, s2, by rw [WN.out], ⟨by have := HM.out; omega, by have := HM.out; have := HT.out; omega, rfl⟩, ⟨by have h := HH.out; simp only [Bool.false_eq_true, if_false] at h; rw [show (x + 1).toNat = x.toNat + 1 from by have := HM.out; omega]; exact h⟩, I2, HB2, HK2⟩
    · have hd : decide (x < (pend.length : Int)) = false := decide_eq_false hc
      have e : pend.drop x.toNat = [] := List.drop_of_length_le (by omega)
      have h := H.out
      rw [e] at h
      simp only [impl_Disk_settle_idx, Option.some.injEq, Prod.mk.injEq] at h
      obtain ⟨rfl, rfl, rfl⟩ := h
      clear e hc H
      go_wp2
      go_ret
      exact ⟨rfl, II.out, HB.out, HK.out⟩
def impl_Disk_settle_go (host : Int) (lose : Bool) : List S92 → Int → List ByteArray → Option (List S92 × Int × List ByteArray)
  | [], keep, secs => some ([], keep, secs)
  | x :: r, keep, secs => (impl_Disk_settle_stp host lose keep secs x).bind fun b => (impl_Disk_settle_go host lose r b.2.1 b.2.2).bind fun q => some (if b.1 = true then q.1 else x :: q.1, q.2.1, q.2.2)
theorem impl_Disk_settle_go_idx (host : Int) (lose : Bool) : ∀ (l : List S92) (keep : Int) (secs : List ByteArray) (n : Nat) (out : List S92) (kf : Int) (sf : List ByteArray), impl_Disk_settle_go host lose l keep secs = some (out, kf, sf) →
    (impl_Disk_settle_idx host lose l keep secs n = some (-1, kf, sf) ∧ out = l) ∨ ∃ (i : Nat) (k1 : Int) (s1 : List ByteArray) (rest : List S92), i < l.length ∧ impl_Disk_settle_idx host lose l keep secs n = some (((n + i : Nat) : Int), k1, s1) ∧ impl_Disk_settle_go host lose (l.drop (i + 1)) k1 s1 = some (rest, kf, sf) ∧ out = l.take i ++ rest := by
  intro l
  induction l with
  | nil =>
    intro keep secs n out kf sf h
    simp only [impl_Disk_settle_go, Option.some.injEq, Prod.mk.injEq] at h
    obtain ⟨rfl, rfl, rfl⟩ := h
    exact .inl ⟨rfl, rfl⟩
  | cons x r ih =>
    intro keep secs n out kf sf h
    simp only [impl_Disk_settle_go] at h
    obtain ⟨⟨b, k1, s1⟩, hst, h⟩ := Option.bind_eq_some_iff.mp h
    obtain ⟨⟨o1, k2, s2⟩, hgo, h⟩ := Option.bind_eq_some_iff.mp h
    simp only [Option.some.injEq, Prod.mk.injEq] at h
    obtain ⟨rfl, rfl, rfl⟩ := h
    cases b with
    | true =>
      refine .inr ⟨0, k1, s1, o1, by simp, ?_, by simpa using hgo, by simp⟩
      simp only [impl_Disk_settle_idx, hst, Option.bind_some, if_true, Nat.add_zero]
    | false =>
      rcases ih k1 s1 (n + 1) o1 k2 s2 hgo with ⟨h1, h2⟩ | ⟨i, k3, s3, rest, h1, h2, h3, h4⟩
      · refine .inl ⟨?_, by simp [h2]⟩
        simp only [impl_Disk_settle_idx, hst, Option.bind_some, Bool.false_eq_true, if_false]
        exact h1
      · refine .inr ⟨i + 1, k3, s3, rest, by simp; omega, ?_, by simpa using h3, by simp [h4]⟩
        simp only [impl_Disk_settle_idx, hst, Option.bind_some, Bool.false_eq_true, if_false]
        rw [h2]; congr 2; omega
theorem impl_Disk_settle_blk {g : Nat} {t : TypeId} : ∀ (vs : List Value) (o : Nat) {w : World} {cs : Array Value}, w.heap[g]? = some (.cells cs t (0, 0)) → ∃ cs', (w.setCells g o vs).heap[g]? = some (.cells cs' t (0, 0)) ∧ cs'.size = cs.size ∧ ∀ j, j < o → cs'[j]? = cs[j]? := by
  intro vs
  induction vs with
  | nil => intro o w cs h; exact ⟨cs, h, rfl, fun _ _ => rfl⟩
  | cons v r ih =>
    intro o w cs h
    obtain ⟨cs', h1, h2, h3⟩ := ih (o + 1) (blk_set h o v)
    refine ⟨cs', h1, by rw [h2, Array.size_setIfInBounds], fun j hj => ?_⟩
    rw [h3 j (by omega)]
    exact Array.getElem?_setIfInBounds_ne (by omega)
theorem impl_Disk_settle_cut {W : World} {base gp i cap : Nat} {ok : Nat → Prop} {xs : List S92} (h : Kd.R k92 92 W base ok (.slice (some ⟨gp, 0, none⟩) i cap) xs) (vs : List Value) (o : Nat) (ho : i * 3 ≤ o) : Kd.R k92 92 (W.setCells gp o vs) base ok (.slice (some ⟨gp, 0, none⟩) i cap) xs := by
  have hn := (Kd.R_reads' h).1
  obtain ⟨h0, inner, ⟨hl, ho'⟩, hr⟩ := h
  refine ⟨h0, inner, ⟨hl, ?_⟩, hr.imp_ (fun p c hp => by obtain rfl := k92_openM hp; exact k92_mkM _ _ _ p)⟩
  rcases ho' with ⟨e, _⟩ | ⟨g, cap', cur, e, hb, hh, h1, h2, h3, h4⟩
  · cases e
  · injection e with e1 e2 e3
    injection e1 with e1
    injection e1 with e1
    subst e1 e3
    obtain ⟨cs', q1, q2, q3⟩ := impl_Disk_settle_blk vs o hh
    refine .inr ⟨gp, _, cs', by rw [hn], hb, q1, h1, h2, q2.trans h3, ?_⟩
    rw [← h4]
    refine List.ext_getElem? (fun j => ?_)
    rw [List.getElem?_take, List.getElem?_take]
    by_cases c : j < xs.length * (k92).sz
    · rw [if_pos c, if_pos c, Array.getElem?_toList, Array.getElem?_toList]
      exact q3 j (Nat.lt_of_lt_of_le c (by rw [← hn]; exact ho))
    · rw [if_neg c, if_neg c]
theorem impl_Disk_settle_kept {g : Nat} : ∀ (vs : List Value) (o : Nat) (w : World), Kept w (w.setCells g o vs) (fun k_ => k_ = g) := by
  intro vs
  induction vs with
  | nil => intro o w; exact Kept.refl _ _
  | cons v r ih => intro o w; exact (Kept.setCell (Kept.refl w (fun k_ => k_ = g)) (p := ⟨g, o, none⟩) (.inl rfl) v).then_ (ih (o + 1) _) (fun _ h_ => .inl h_)
theorem impl_Disk_settle_bel {g : Nat} {w0 : World} (hg : w0.heap.size ≤ g) : ∀ (vs : List Value) (o : Nat) (w : World), Below w0.heap.size w0 w → Below w0.heap.size w0 (w.setCells g o vs) := by
  intro vs
  induction vs with
  | nil => intro o w h; exact h
  | cons v r ih => intro o w h; exact ih (o + 1) _ (below_set h hg)
theorem impl_Disk_settle_I.kept {W W1 : World} {base gH gK gO gL gR : Nat} {host keep : Int} {lose : Bool} {sv pv : Value} {secs : List ByteArray} (I : impl_Disk_settle_I W base gH gK gO gL gR host keep lose sv pv secs) {g : Nat} {cs : Array Value} (hk : Kept W W1 (fun k_ => k_ = g)) (hc : W.heap[g]? = some (.cells cs 92 (0, 0))) : impl_Disk_settle_I W1 base gH gK gO gL gR host keep lose sv pv secs :=
  ⟨blk_kept I.h hk (fun e => blk_ne I.h hc (by decide) e), blk_kept I.k hk (fun e => blk_ne I.k hc (by decide) e), blk_kept I.o hk (fun e => blk_ne I.o hc (by decide) e), blk_kept I.l hk (fun e => blk_ne I.l hc (by decide) e), Kd.R_mono (Kd.R_kept (Kd.R_types I.s hc (by decide)) hk (fun _ h_ e => h_.2 e)) (fun _ _ => trivial), I.n, blk_kept I.r hk (fun e => blk_ne I.r hc (by decide) e)⟩
/-- clear of the rest of a row: some cells from there on are written. -/
theorem impl_Disk_settle_clear {W : World} {base gp n cap : Nat} {ok : Nat → Prop} {xs : List S92} (h : Kd.R k92 92 W base ok (.slice (some ⟨gp, 0, none⟩) n cap) xs) (a : Nat) (ha : a < n) (cc : Nat) (ty : TypeId) :
    ∃ vs, (Builtin.clear_ #[46] ty #[.slice (some ⟨gp, a * 3, none⟩) (n - a) cc]).run Try.prog W = .ok (.tuple #[]) (W.setCells gp (a * 3) vs) := by
  have hz : ∀ w, (zeroValue 92).run Try.prog w = .ok (.agg #[.int .i64 0, .int .i64 0, .string ⟨#[]⟩]) w := Try.zeroValue92
  obtain ⟨m, hm⟩ : ∃ m, n - a = m + 1 := ⟨n - a - 1, by omega⟩
  refine ⟨(Builtin.zeroCells (Value.agg #[.int .i64 0, .int .i64 0, .string ⟨#[]⟩]).cells (n - a)).toList, ?_⟩
  have hlen : (Builtin.zeroCells (Value.agg #[.int .i64 0, .int .i64 0, .string ⟨#[]⟩]).cells (n - a)).toList.length = (n - a) * 3 := by simp [Builtin.zeroCells, Value.cells]
  have hn := (Kd.R_reads' h).1
  have hst := run_storeCells_cells (P := Try.prog) gp (a * 3) (Builtin.zeroCells (Value.agg #[.int .i64 0, .int .i64 0, .string ⟨#[]⟩]).cells (n - a)).toList 0 W (by
    intro j hj
    rw [hlen] at hj
    obtain ⟨c, hcl, hM, hcc, hfr⟩ := Kd.R_elem h z92 ((a + j / 3 : Nat) : Int) (by omega) (by omega)
    have hj3 : j % 3 < c.length := by rw [hcl]; exact Nat.mod_lt _ (by decide)
    have := hcc (j % 3) _ (List.getElem?_eq_getElem hj3)
    rw [Int.toNat_natCast] at this
    have e : a * 3 + 0 + j = (a + j / 3) * (k92).sz + j % 3 := by show a * 3 + 0 + j = (a + j / 3) * 3 + j % 3; omega
    rw [e, this]; rfl) (by
    intro j hj
    rw [hlen] at hj
    obtain ⟨c, hcl, hM, hcc, hfr⟩ := Kd.R_elem h z92 ((a + j / 3 : Nat) : Int) (by omega) (by omega)
    have := hfr (j % 3)
    rw [Int.toNat_natCast] at this
    have e : a * 3 + 0 + j = (a + j / 3) * (k92).sz + j % 3 := by show a * 3 + 0 + j = (a + j / 3) * 3 + j % 3; omega
    rw [e]; exact this) (by
    intro v hv
    simp only [Builtin.zeroCells, Array.toList_map, List.mem_map] at hv
    obtain ⟨q, _, rfl⟩ := hv
    have hq : q % 3 < 3 := Nat.mod_lt _ (by decide)
    show ((#[Value.int .i64 0, .int .i64 0, .string ⟨#[]⟩] : Array Value)[q % 3]!).oneCell' = true
    rcases (show q % 3 = 0 ∨ q % 3 = 1 ∨ q % 3 = 2 by omega) with e | e | e <;> rw [e] <;> rfl)
  simp only [Nat.add_zero] at hst
  rw [hm] at hst ⊢
  simp [Builtin.clear_, run_underlying Try.underlying46, hz, hst]
set_option maxHeartbeats 8000000 in
set_option maxRecDepth 100000 in
theorem impl_Disk_settle_delete {w0 W : World} {gH gK gO gL gR : Nat} {host keep : Int} {lose : Bool} {sv pv v : Value} {secs : List ByteArray} {pend : List S92} (I : impl_Disk_settle_I W w0.heap.size gH gK gO gL gR host keep lose sv pv secs) (hB : Below w0.heap.size w0 W) (hg : w0.heap.size ≤ gK)
    (RP : Kd.R k92 92 W w0.heap.size (fun k_ => k_ ≠ gK ∧ some k_ ≠ sv.ownBlock) v pend) (hl : pend.length ≤ 1000000000) (out : List S92) (kf : Int) (sf : List ByteArray) (h : impl_Disk_settle_go host lose pend keep secs = some (out, kf, sf)) :
    Calls Try.prog 114 #[v, .func (.func 115) #[] #[.pointer (some ⟨gH, 0, none⟩), .pointer (some ⟨gK, 0, none⟩), .pointer (some ⟨gO, 0, none⟩), .pointer (some ⟨gL, 0, none⟩)]] W
      fun e W' => ∃ v', e = .returned v' ∧ Kd.R k92 92 W' w0.heap.size (fun k_ => k_ ≠ gK ∧ some k_ ≠ sv.ownBlock) v' out ∧ impl_Disk_settle_I W' w0.heap.size gH gK gO gL gR host kf lose sv pv sf ∧ Below w0.heap.size w0 W' := by
  have hu92 := Try.underlying92
  have hidx := impl_Disk_settle_index (pend := pend) I hB hg RP hl
  have PP := zm RP
  have HG := zm hg
  have HL := zm hl
  obtain ⟨Ao, co, rfl⟩ := Kd.R_slice RP
  rcases impl_Disk_settle_go_idx host lose pend keep secs 0 out kf sf h with ⟨h1, rfl⟩ | ⟨i0, k1, s1, rest0, h1, h2, h3, rfl⟩
  · have HX := zm (hidx (-1) kf sf h1)
    clear I hB hg RP hl hidx h h1
    go_enter Try.func114, Try.ntmps114
    go_wp2_with (first
      | ((with_reducible refine gate_callee (f := 139) rfl ?_); refine goesL_ (some 10) rfl rfl Try.func139 (by kernel_rfl) rfl #[.slice Ao out.length co, .func (.func 115) #[] #[.pointer (some ⟨gH, 0, none⟩), .pointer (some ⟨gK, 0, none⟩), .pointer (some ⟨gO, 0, none⟩), .pointer (some ⟨gL, 0, none⟩)]] rfl (by (try simp only [List.map_toArray, List.map_cons, List.map_nil]); first | done | rfl) ?_; refine HX.out.mono ?_; rintro e w2 ⟨rfl, hI, hb, hkp⟩; refine ⟨_, rfl, ?_⟩; have I2 := zm hI; have HB2 := zm hb; have P2 := zm (Kd.R_kept PP.out hkp (fun k_ hk_ hs_ => hs_.elim hk_.1 hk_.2)); clear hI hb hkp))
    go_ret
    exact ⟨_, rfl, P2.out, I2.out, HB2.out⟩
  · have HX := zm (hidx _ k1 s1 h2)
    have H3 := zm h3
    have H1 := zm h1
    clear I hB hg RP hl hidx h h1 h2 h3
    obtain ⟨gp, cp, ep, gb1, _, gc1, _⟩ := Kd.R_form PP.out (by have := H1.out; omega)
    (first | cases ep | (injection ep with ea_ en_ ec_; (first | subst ea_ | (injection ea_ with ea_; subst ea_)); subst ec_; clear en_))
    have GP := zm gb1
    have NE : ((((0 + i0 : Nat) : Int)) == -1) = false := beq_eq_false_iff_ne.2 (by omega)
    have NE2 : decide ((((0 + i0 : Nat) : Int)) = -1) = false := decide_eq_false (by omega)
    clear gb1
    go_enter Try.func114, Try.ntmps114
    go_wp2_with (first
      | ((with_reducible refine gate_callee (f := 139) rfl ?_); refine goesL_ (some 10) rfl rfl Try.func139 (by kernel_rfl) rfl #[.slice (some ⟨gp, 0, none⟩) pend.length co, .func (.func 115) #[] #[.pointer (some ⟨gH, 0, none⟩), .pointer (some ⟨gK, 0, none⟩), .pointer (some ⟨gO, 0, none⟩), .pointer (some ⟨gL, 0, none⟩)]] rfl (by (try simp only [List.map_toArray, List.map_cons, List.map_nil]); first | done | rfl) ?_; refine HX.out.mono ?_; rintro e w2 ⟨rfl, hI, hb, hkp⟩; refine ⟨_, rfl, ?_⟩; have I2 := zm hI; have HB2 := zm hb; have P2 := zm (Kd.R_kept PP.out hkp (fun k_ hk_ hs_ => hs_.elim hk_.1 hk_.2)); clear hI hb hkp))
    go_loopg [5, 6] pend.length (fun kq v5 v6 w' => ∃ (a j : Int) (dk rest : List S92) (kp : Int) (sc : List ByteArray), v5 = .int .i64 a ∧ v6 = .int .i64 j ∧ Aside0 (0 ≤ a ∧ a < j ∧ j.toNat ≤ pend.length ∧ pend.length - j.toNat ≤ kq ∧ dk.length = pend.length) ∧ Aside0 (pend.take i0 ++ rest0 = dk.take a.toNat ++ rest ∧ dk.drop j.toNat = pend.drop j.toNat) ∧ Aside0 (impl_Disk_settle_go host lose (pend.drop j.toNat) kp sc = some (rest, kf, sf)) ∧ Aside0 (Kd.R k92 92 w' w0.heap.size (fun k_ => k_ ≠ gK ∧ some k_ ≠ sv.ownBlock) (.slice (some ⟨gp, 0, none⟩) pend.length co) dk) ∧ Aside0 (impl_Disk_settle_I w' w0.heap.size gH gK gO gL gR host kp lose sv pv sc) ∧ Aside0 (Below w0.heap.size w0 w'))
    case atStart =>
      have h1 := H1.out
      have hL := HL.out
      refine ⟨(i0 : Int), ((i0 + 1 : Nat) : Int), pend, rest0, k1, s1, by simp, ?_, ⟨by omega, by omega, by omega, ?_, rfl⟩, ⟨by simp, rfl⟩, ⟨by simpa using H3.out⟩, P2, I2, HB2⟩
      · have e : wrap64 ((((0 + i0 : Nat) : Int)) + 1) = ((i0 + 1 : Nat) : Int) := by unfold wrap64; omega
        first | rw [e] | (simp only [Nat.zero_add] at e; rw [e]) | simp [e]
      · omega
    case round =>
      try clear c1
      try clear p2
      clear HX PP H3 P2 I2 HB2
      obtain ⟨a, j, dk, rest, kp, sc, rfl, rfl, HM, HO, HGo, HR, II, HB⟩ := hrel
      by_cases hj : j < (pend.length : Int)
      · have hd : decide (j < (pend.length : Int)) = true := decide_eq_true hj
        have h0j : 0 ≤ j := by have := HM.out; omega
        have hjp : j.toNat < pend.length := by omega
        have hjd : j.toNat < dk.length := by have := HM.out; omega
        have he : dk[j.toNat] = pend[j.toNat] ∧ dk.drop (j.toNat + 1) = pend.drop (j.toNat + 1) := by
          have := HO.out.2
          rw [List.drop_eq_getElem_cons hjd, List.drop_eq_getElem_cons hjp] at this
          injection this with e1 e2
          exact ⟨e1, e2⟩
        have h := HGo.out
        rw [List.drop_eq_getElem_cons hjp] at h
        simp only [impl_Disk_settle_go] at h
        have hh := Option.bind_eq_some_iff.mp h
        clear h
        obtain ⟨⟨b, k2, s2⟩, hst, hh⟩ := hh
        have hh2 := Option.bind_eq_some_iff.mp hh
        clear hh
        obtain ⟨⟨o1, k3, s3⟩, hgo, hh⟩ := hh2
        simp only [Option.some.injEq, Prod.mk.injEq] at hh
        obtain ⟨hrest, rfl, rfl⟩ := hh
        obtain ⟨ce, hcl, hM, hcc, hfr⟩ := Kd.R_elem HR.out z92 j h0j hj
        obtain rfl := k92_openM hM
        obtain ⟨x, hx⟩ : ∃ x, x = rd_T92 dk j := ⟨_, rfl⟩
        have hxp : x = pend[j.toNat] := by rw [hx, ← he.1]; simp [rd_T92, hjd]
        have hx0 : wr.cell? ⟨gp, j.toNat * 3, none⟩ = some (.int .i64 x.f0) := by rw [hx]; exact hcc 0 _ rfl
        have hx1 : wr.cell? ⟨gp, j.toNat * 3 + 1, none⟩ = some (.int .i64 x.f1) := by rw [hx]; exact hcc 1 _ rfl
        have hx2 : wr.cell? ⟨gp, j.toNat * 3 + 2, none⟩ = some (.string x.f2) := by rw [hx]; exact hcc 2 _ rfl
        clear hcl hM hcc hfr hx
        have ST := zm (show impl_Disk_settle_stp host lose kp sc x = some (b, k2, s2) from by rw [hxp]; exact hst)
        have RS := zm (show rest = if b = true then o1 else x :: o1 from by rw [hxp]; exact hrest.symm)
        have GO := zm hgo
        have HE := zm he.2
        have HJ := zm hj
        have A0 := zm (show 0 ≤ a from HM.out.1)
        have A1 := zm (show a < (pend.length : Int) from by have := HM.out; omega)
        have WJ : Aside0 (wrap64 (j + 1) = j + 1) := ⟨by unfold wrap64; have := HL.out; omega⟩
        have WA : Aside0 (wrap64 (a + 1) = a + 1) := ⟨by unfold wrap64; have := HL.out; have := HM.out; omega⟩
        have p0 := eq_true h0j
        have p1 := eq_true hj
        have p3 := eq_true A0.out
        have p4 := eq_true A1.out
        clear h0j hj hjd he hst hrest hgo hxp hjp HGo
        cases b with
        | true =>
          go_wp2_with (first
            | ((with_reducible refine gate_dst (N := 7) rfl ?_); refine box_event ?hg (N := 7) ?hd (cs := #[.int .i64 0, .int .i64 0, .string ⟨#[]⟩]) (t := 92) ?hr ?_; (case hd => rfl); (case hg => rfl); (case hr => first | (go_simp; done) | (go_simp; rfl)); intro gb hgb w4 hbox hb; have BK := zm hbox; have R4 := zm (Kd.R_below (Kd.R_elderB HR.out gb (by rw [hgb]; exact Nat.le_refl _)) hb); have I4 := zm (II.out.below hb); have B4 := zm (below_step HB.out hb); have GE := zm (show w0.heap.size ≤ gb from by rw [hgb]; exact HB.out.size); clear hb hbox hgb HR II HB; have hz0 : w4.cell? ⟨gb, 0, none⟩ = some (.int .i64 0) := (blk_cell BK.out 0).trans rfl; have hz1 : w4.cell? ⟨gb, 1, none⟩ = some (.int .i64 0) := (blk_cell BK.out 1).trans rfl; have hz2 : w4.cell? ⟨gb, 2, none⟩ = some (.string ⟨#[]⟩) := (blk_cell BK.out 2).trans rfl; have hf0 := blk_frozen BK.out 0; have hf1 := blk_frozen BK.out 1; have hf2 := blk_frozen BK.out 2)
            | ((with_reducible refine gate_store (t := 92) (p := 7) rfl ?_); refine store_event (t := 92) (p := 7) (v := ?vo1) (w1 := (((w4.setCell ⟨gb, 0, none⟩ (.int .i64 x.f0)).setCell ⟨gb, 1, none⟩ (.int .i64 x.f1)).setCell ⟨gb, 2, none⟩ (.string x.f2))) ?hg ?ho ?hn ?hr ?_; (case ho => rfl); (case hg => rfl); (case hn => rfl); (case hr => first | (go_simp; done) | (go_simp; rfl)); intro w5 hw; have BB := zm (show w5.heap[gb]? = some (.cells #[.int .i64 x.f0, .int .i64 x.f1, .string x.f2] 92 (0, 0)) from by rw [hw]; exact blk_set (blk_set (blk_set BK.out 0 _) 1 _) 2 _); have K45 := (show Kept w4 w5 (fun k_ => k_ = gb) from by rw [hw]; exact Kept.setCell (Kept.setCell (Kept.setCell (Kept.refl w4 (fun k_ => k_ = gb)) (p := ⟨gb, 0, none⟩) (.inl rfl) _) (p := ⟨gb, 1, none⟩) (.inl rfl) _) (p := ⟨gb, 2, none⟩) (.inl rfl) _); have R5 := zm (Kd.R_kept R4.out K45 (fun _ h_ e_ => h_.2 e_)); have I5 := zm (I4.out.kept K45 BK.out); have B5 := zm (show Below w0.heap.size w0 w5 from by rw [hw]; exact below_set (below_set (below_set B4.out GE.out) GE.out) GE.out); clear hw K45 R4 I4 B4 BK GE hz0 hz1 hz2 hf0 hf1 hf2; have hb0 : w5.cell? ⟨gb, 0, none⟩ = some (.int .i64 x.f0) := (blk_cell BB.out 0).trans rfl; have hb1 : w5.cell? ⟨gb, 1, none⟩ = some (.int .i64 x.f1) := (blk_cell BB.out 1).trans rfl; have hb2 : w5.cell? ⟨gb, 2, none⟩ = some (.string x.f2) := (blk_cell BB.out 2).trans rfl)
            | ((with_reducible refine gate_dst (N := 28) rfl ?_); refine goesV (some 28) rfl rfl Try.func115 (by kernel_rfl) rfl #[.agg #[.int .i64 x.f0, .int .i64 x.f1, .string x.f2], .pointer (some ⟨gH, 0, none⟩), .pointer (some ⟨gK, 0, none⟩), .pointer (some ⟨gO, 0, none⟩), .pointer (some ⟨gL, 0, none⟩)] rfl (cap := #[.pointer (some ⟨gH, 0, none⟩), .pointer (some ⟨gK, 0, none⟩), .pointer (some ⟨gO, 0, none⟩), .pointer (some ⟨gL, 0, none⟩)]) ?hx ?hargs ?_; (case hx => rfl); (case hargs => simp [Act.eval]); refine (impl_Disk_settle_clos I5.out B5.out HG.out x _ _ _ ST.out).mono ?_; rintro e w6 ⟨rfl, hI, hb, hkp⟩; refine ⟨_, rfl, ?_⟩; have BC := zm (blk_kept BB.out hkp (fun h_ => h_.elim (fun e_ => blk_ne BB.out I5.out.k (by decide) e_) (fun e_ => Kd.R_ne I5.out.s BB.out (by decide) e_))); have R6 := zm (Kd.R_kept R5.out hkp (fun k_ hk_ hs_ => hs_.elim hk_.1.1 hk_.1.2)); have I6 := zm hI; have B6 := zm hb; clear hI hb hkp BB R5 I5 B5 hb0 hb1 hb2))
          go_roundg (pend.length - (j + 1).toNat)
          case measure => have := HM.out; have := HJ.out; omega
          case rel =>
            have hm := HM.out
            have hjl := HJ.out
            refine ⟨a, j + 1, dk, o1, k2, s2, rfl, by rw [WJ.out], ⟨hm.1, by omega, by omega, Nat.le_refl _, hm.2.2.2.2⟩, ⟨by rw [HO.out.1, RS.out]; simp, by rw [show (j + 1).toNat = j.toNat + 1 by omega]; exact HE.out⟩, ⟨by rw [show (j + 1).toNat = j.toNat + 1 by omega]; exact GO.out⟩, ⟨Kd.R_mono R6.out (fun _ h_ => h_.1)⟩, I6, B6⟩
        | false =>
          go_wp2_with (first
            | ((with_reducible refine gate_dst (N := 7) rfl ?_); refine box_event ?hg (N := 7) ?hd (cs := #[.int .i64 0, .int .i64 0, .string ⟨#[]⟩]) (t := 92) ?hr ?_; (case hd => rfl); (case hg => rfl); (case hr => first | (go_simp; done) | (go_simp; rfl)); intro gb hgb w4 hbox hb; have BK := zm hbox; have R4 := zm (Kd.R_below (Kd.R_elderB HR.out gb (by rw [hgb]; exact Nat.le_refl _)) hb); have I4 := zm (II.out.below hb); have B4 := zm (below_step HB.out hb); have GE := zm (show w0.heap.size ≤ gb from by rw [hgb]; exact HB.out.size); clear hb hbox hgb HR II HB; have hz0 : w4.cell? ⟨gb, 0, none⟩ = some (.int .i64 0) := (blk_cell BK.out 0).trans rfl; have hz1 : w4.cell? ⟨gb, 1, none⟩ = some (.int .i64 0) := (blk_cell BK.out 1).trans rfl; have hz2 : w4.cell? ⟨gb, 2, none⟩ = some (.string ⟨#[]⟩) := (blk_cell BK.out 2).trans rfl; have hf0 := blk_frozen BK.out 0; have hf1 := blk_frozen BK.out 1; have hf2 := blk_frozen BK.out 2)
            | ((with_reducible refine gate_store (t := 92) (p := 7) rfl ?_); refine store_event (t := 92) (p := 7) (v := ?vo1) (w1 := (((w4.setCell ⟨gb, 0, none⟩ (.int .i64 x.f0)).setCell ⟨gb, 1, none⟩ (.int .i64 x.f1)).setCell ⟨gb, 2, none⟩ (.string x.f2))) ?hg ?ho ?hn ?hr ?_; (case ho => rfl); (case hg => rfl); (case hn => rfl); (case hr => first | (go_simp; done) | (go_simp; rfl)); intro w5 hw; have BB := zm (show w5.heap[gb]? = some (.cells #[.int .i64 x.f0, .int .i64 x.f1, .string x.f2] 92 (0, 0)) from by rw [hw]; exact blk_set (blk_set (blk_set BK.out 0 _) 1 _) 2 _); have K45 := (show Kept w4 w5 (fun k_ => k_ = gb) from by rw [hw]; exact Kept.setCell (Kept.setCell (Kept.setCell (Kept.refl w4 (fun k_ => k_ = gb)) (p := ⟨gb, 0, none⟩) (.inl rfl) _) (p := ⟨gb, 1, none⟩) (.inl rfl) _) (p := ⟨gb, 2, none⟩) (.inl rfl) _); have R5 := zm (Kd.R_kept R4.out K45 (fun _ h_ e_ => h_.2 e_)); have I5 := zm (I4.out.kept K45 BK.out); have B5 := zm (show Below w0.heap.size w0 w5 from by rw [hw]; exact below_set (below_set (below_set B4.out GE.out) GE.out) GE.out); clear hw K45 R4 I4 B4 BK GE hz0 hz1 hz2 hf0 hf1 hf2; have hb0 : w5.cell? ⟨gb, 0, none⟩ = some (.int .i64 x.f0) := (blk_cell BB.out 0).trans rfl; have hb1 : w5.cell? ⟨gb, 1, none⟩ = some (.int .i64 x.f1) := (blk_cell BB.out 1).trans rfl; have hb2 : w5.cell? ⟨gb, 2, none⟩ = some (.string x.f2) := (blk_cell BB.out 2).trans rfl)
            | ((with_reducible refine gate_dst (N := 28) rfl ?_); refine goesV (some 28) rfl rfl Try.func115 (by kernel_rfl) rfl #[.agg #[.int .i64 x.f0, .int .i64 x.f1, .string x.f2], .pointer (some ⟨gH, 0, none⟩), .pointer (some ⟨gK, 0, none⟩), .pointer (some ⟨gO, 0, none⟩), .pointer (some ⟨gL, 0, none⟩)] rfl (cap := #[.pointer (some ⟨gH, 0, none⟩), .pointer (some ⟨gK, 0, none⟩), .pointer (some ⟨gO, 0, none⟩), .pointer (some ⟨gL, 0, none⟩)]) ?hx ?hargs ?_; (case hx => rfl); (case hargs => simp [Act.eval]); refine (impl_Disk_settle_clos I5.out B5.out HG.out x _ _ _ ST.out).mono ?_; rintro e w6 ⟨rfl, hI, hb, hkp⟩; refine ⟨_, rfl, ?_⟩; have BC := zm (blk_kept BB.out hkp (fun h_ => h_.elim (fun e_ => blk_ne BB.out I5.out.k (by decide) e_) (fun e_ => Kd.R_ne I5.out.s BB.out (by decide) e_))); have R6 := zm (Kd.R_kept R5.out hkp (fun k_ hk_ hs_ => hs_.elim hk_.1.1 hk_.1.2)); have I6 := zm hI; have B6 := zm hb; clear hI hb hkp BB R5 I5 B5 hb0 hb1 hb2; have hc0 : w6.cell? ⟨gb, 0, none⟩ = some (.int .i64 x.f0) := (blk_cell BC.out 0).trans rfl; have hc1 : w6.cell? ⟨gb, 1, none⟩ = some (.int .i64 x.f1) := (blk_cell BC.out 1).trans rfl; have hc2 : w6.cell? ⟨gb, 2, none⟩ = some (.string x.f2) := (blk_cell BC.out 2).trans rfl; obtain ⟨ce, hcl, hM, hcc, hfr⟩ := Kd.R_elem R6.out z92 a A0.out A1.out; obtain rfl := k92_openM hM; have hy0 := hcc 0 _ rfl; have hy1 := hcc 1 _ rfl; have hy2 := hcc 2 _ rfl; have hg0 := hfr 0; have hg1 := hfr 1; have hg2 := hfr 2; (try simp only [show (k92).sz = 3 from rfl, Nat.add_zero] at hy0 hy1 hy2 hg0 hg1 hg2); have HP := zm (Kd.R_seg R6.out a A0.out A1.out (seg := [.int .i64 x.f0, .int .i64 x.f1, .string x.f2]) (j := 0) hcl hcc (show 3 ≤ 3 from by decide) (x' := x) (okp := fun _ => False) (k92_mkM _ _ _ x) (fun _ hk => hk.elim)); clear hcl hM hcc hfr)
            | ((with_reducible refine gate_store (t := 92) (p := 33) rfl ?_); refine store_event (t := 92) (p := 33) (v := ?vo2) (w1 := (((w6.setCell ⟨gp, a.toNat * 3, none⟩ (.int .i64 x.f0)).setCell ⟨gp, a.toNat * 3 + 1, none⟩ (.int .i64 x.f1)).setCell ⟨gp, a.toNat * 3 + 2, none⟩ (.string x.f2))) ?hg ?ho ?hn ?hr ?_; (case ho => rfl); (case hg => rfl); (case hn => rfl); (case hr => first | (go_simp; done) | (go_simp; rfl)); intro w7 hw; have hgr : w6.grownBy w7 (some gp) := (by rw [hw]; exact HP.out.2); have R7 := zm (show Kd.R k92 92 w7 w0.heap.size (fun k_ => k_ ≠ gK ∧ some k_ ≠ sv.ownBlock) (.slice (some ⟨gp, 0, none⟩) pend.length co) (dk.set a.toNat x) from by rw [hw]; exact Kd.R_mono HP.out.1 (fun _ h_ => h_.1)); have I7 := zm (I6.out.kept (Kept.of_grown (S := fun k_ => k_ = gp) hgr (Kept.refl _ _) (fun k_ e_ => .inl (by injection e_ with e_; exact e_.symm))) (Classical.choose_spec (Kd.R_typed R6.out gp rfl))); have B7 := zm (show Below w0.heap.size w0 w7 from by rw [hw]; exact below_set (below_set (below_set B6.out GP.out) GP.out) GP.out); clear hw hgr HP R6 I6 B6 BC hc0 hc1 hc2 hy0 hy1 hy2 hg0 hg1 hg2))
          go_roundg (pend.length - (j + 1).toNat)
          case measure => have := HM.out; have := HJ.out; omega
          case rel =>
            have hm := HM.out
            have hjl := HJ.out
            refine ⟨a + 1, j + 1, dk.set a.toNat x, o1, k2, s2, by rw [WA.out], by rw [WJ.out], ⟨by omega, by omega, by omega, Nat.le_refl _, by rw [List.length_set]; exact hm.2.2.2.2⟩, ⟨?_, ?_⟩, ⟨by rw [show (j + 1).toNat = j.toNat + 1 by omega]; exact GO.out⟩, R7, I7, B7⟩
            · rw [HO.out.1, RS.out, show (a + 1).toNat = a.toNat + 1 by omega, List.take_succ_eq_append_getElem (by rw [List.length_set]; omega), List.getElem_set_self, List.take_set_of_le (Nat.le_refl _)]
              simp
            · rw [show (j + 1).toNat = j.toNat + 1 by omega, List.drop_set_of_lt (by omega)]; exact HE.out
      · have hd : decide (j < (pend.length : Int)) = false := decide_eq_false hj
        have ej : j.toNat = pend.length := by have := HM.out; omega
        have h := HGo.out
        rw [ej, List.drop_of_length_le (Nat.le_refl _)] at h
        simp only [impl_Disk_settle_go, Option.some.injEq, Prod.mk.injEq] at h
        obtain ⟨h4, rfl, rfl⟩ := h
        have HOUT := zm (show pend.take i0 ++ rest0 = dk.take a.toNat from by rw [HO.out.1, ← h4, List.append_nil])
        have A0 := zm (show 0 ≤ a from HM.out.1)
        have A1 := zm (show a.toNat < pend.length from by have := HM.out; omega)
        obtain ⟨vs, hclr⟩ := impl_Disk_settle_clear HR.out a.toNat A1.out (co - a.toNat) 0
        clear h4 ej hj HGo HO
        have hco : pend.length ≤ co := (Kd.R_reads' HR.out).2.1
        have n1 : (co = a.toNat) = False := eq_false (by have := A1.out; omega)
        have n2 : (a.toNat = co) = False := eq_false (by have := A1.out; omega)
        have n3 : ¬ co = a.toNat := by have := A1.out; omega
        have p3 := eq_true A0.out
        have p4 : (a ≤ (pend.length : Int)) = True := eq_true (by have := A1.out; omega)
        have p5 : (a.toNat ≤ pend.length) = True := eq_true (by have := A1.out; omega)
        have p6 : (a.toNat ≤ co) = True := eq_true (by have := A1.out; omega)
        have p7 : ((co : Int) < a) = False := eq_false (by have := A1.out; omega)
        have p8 : (a ≤ (co : Int)) = True := eq_true (by have := A1.out; omega)
        go_wp2
        go_ret
        refine ⟨_, rfl, ?_, II.out.kept (impl_Disk_settle_kept vs _ wr) (Classical.choose_spec (Kd.R_typed HR.out gp rfl)), impl_Disk_settle_bel GP.out vs _ _ HB.out⟩
        rw [HOUT.out]
        exact impl_Disk_settle_cut (Kd.R_take HR.out (by have := HM.out; omega)) vs _ (Nat.le_refl _)
def impl_Disk_settle.f (l0_0 : List ByteArray) (l0_1 : List (S92)) (a1 : Int) (a2 : Int) (a3 : Bool) : Option (List ByteArray × (List (S92))) := (impl_Disk_copied.f l0_0 l0_1).bind fun t => if t.2.length ≤ 1000000000 then (impl_Disk_settle_go a1 a3 t.2 a2 t.1).bind fun q => some (q.2.2, q.1) else none
set_option maxHeartbeats 8000000 in
set_option maxRecDepth 100000 in
theorem impl_Disk_settle.calls (A0_0 : Option Addr) (c0_0 : Nat) (l0_0 : List ByteArray) (A0_1 : Option Addr) (c0_1 : Nat) (l0_1 : List (S92)) (a1 : Int) (a2 : Int) (a3 : Bool) (r1 : List ByteArray) (r2 : List (S92)) (w : World) (hr0_0 : Kd.C Kd.string w A0_0 l0_0.length l0_0) (hc0_0 : l0_0.length ≤ c0_0) (hr0_1 : Kd.C k92 w A0_1 l0_1.length l0_1) (hc0_1 : l0_1.length ≤ c0_1) (h : impl_Disk_settle.f l0_0 l0_1 a1 a2 a3 = some (r1, r2)) :
    Calls Try.prog 70 #[.agg #[.slice A0_0 l0_0.length c0_0, .slice A0_1 l0_1.length c0_1], .int .i64 a1, .int .i64 a2, .bool a3] w fun e w' => ∃ v0_ v1_ : Value, e = .returned (.agg #[v0_, v1_]) ∧ Kd.R Kd.string 9 w' w.heap.size (fun _ => True) v0_ r1 ∧ Kd.R k92 92 w' w.heap.size (fun _ => True) v1_ r2 ∧ Below w.heap.size w w' := by
 have hu48 := Try.underlying48
 have HR0 := zm hr0_0
 have HC0 := zm hc0_0
 have HR1 := zm hr0_1
 have HC1 := zm hc0_1
 have HB := zm (Below.refl w.heap.size w)
 unfold impl_Disk_settle.f at h
 obtain ⟨⟨t1, t2⟩, ht, h⟩ := Option.bind_eq_some_iff.mp h
 have hlim : t2.length ≤ 1000000000 := by
  by_cases c : t2.length ≤ 1000000000
  ·exact c
  ·rw [if_neg c] at h; cases h
 rw [if_pos hlim] at h
 obtain ⟨⟨q1, kf, sf⟩, hgo, h⟩ := Option.bind_eq_some_iff.mp h
 simp only [Option.some.injEq, Prod.mk.injEq] at h
 obtain ⟨rfl, rfl⟩ := h
 have T0 := zm ht
 have HL := zm hlim
 have HGo := zm (show impl_Disk_settle_go a1 a3 t2 a2 t1 = some (q1, kf, sf) from hgo)
 clear hr0_0 hc0_0 hr0_1 hc0_1 ht hlim hgo
 go_enter Try.func70, Try.ntmps70
 go_wp2_with (first
  | ((with_reducible refine gate_dst (N := 4) rfl ?_); refine box_event ?hg (N := 4) ?hd (cs := #[.slice A0_0 l0_0.length c0_0, .slice A0_1 l0_1.length c0_1]) (t := 48) ?hr ?_; (case hd => rfl); (case hg => rfl); (case hr => first | (go_simp; done) | (go_simp; rfl)); intro g0 hg0 w1 hbox hb;  have ng0 := zm hbox; have nB := zm (below_step HB.out hb); have nG := zm (show w.heap.size ≤ g0 from by rw [hg0]; exact HB.out.size); clear HB hbox hb hg0; have HB := nB; have Bg0 := ng0; have Gg0 := nG; clear nB ng0 nG)
  | ((with_reducible refine gate_dst (N := 5) rfl ?_); refine box_event ?hg (N := 5) ?hd (cs := #[.int .i64 a1]) (t := 3) ?hr ?_; (case hd => rfl); (case hg => rfl); (case hr => first | (go_simp; done) | (go_simp; rfl)); intro gH hgH w2 hbox hb; have mg0 := zm (blk_below Bg0.out hb); clear Bg0; have Bg0 := mg0; clear mg0;  have ngH := zm hbox; have nB := zm (below_step HB.out hb); have nG := zm (show w.heap.size ≤ gH from by rw [hgH]; exact HB.out.size); clear HB hbox hb hgH; have HB := nB; have BgH := ngH; have GgH := nG; clear nB ngH nG)
  | ((with_reducible refine gate_dst (N := 6) rfl ?_); refine box_event ?hg (N := 6) ?hd (cs := #[.int .i64 a2]) (t := 3) ?hr ?_; (case hd => rfl); (case hg => rfl); (case hr => first | (go_simp; done) | (go_simp; rfl)); intro gK hgK w3 hbox hb; have nHK := zm (show gH ≠ gK from by rw [hgK]; exact Nat.ne_of_lt (blk_lt BgH.out)); have mg0 := zm (blk_below Bg0.out hb); clear Bg0; have Bg0 := mg0; clear mg0; have mgH := zm (blk_below BgH.out hb); clear BgH; have BgH := mgH; clear mgH;  have ngK := zm hbox; have nB := zm (below_step HB.out hb); have nG := zm (show w.heap.size ≤ gK from by rw [hgK]; exact HB.out.size); clear HB hbox hb hgK; have HB := nB; have BgK := ngK; have GgK := nG; clear nB ngK nG ; have HHK := nHK; clear nHK)
  | ((with_reducible refine gate_dst (N := 7) rfl ?_); refine box_event ?hg (N := 7) ?hd (cs := #[.bool a3]) (t := 4) ?hr ?_; (case hd => rfl); (case hg => rfl); (case hr => first | (go_simp; done) | (go_simp; rfl)); intro gL hgL w4 hbox hb; have mg0 := zm (blk_below Bg0.out hb); clear Bg0; have Bg0 := mg0; clear mg0; have mgH := zm (blk_below BgH.out hb); clear BgH; have BgH := mgH; clear mgH; have mgK := zm (blk_below BgK.out hb); clear BgK; have BgK := mgK; clear mgK;  have ngL := zm hbox; have nB := zm (below_step HB.out hb); have nG := zm (show w.heap.size ≤ gL from by rw [hgL]; exact HB.out.size); clear HB hbox hb hgL; have HB := nB; have BgL := ngL; have GgL := nG; clear nB ngL nG)
  | ((with_reducible refine gate_dst (N := 8) rfl ?_); refine box_event ?hg (N := 8) ?hd (cs := #[.slice none 0 0, .slice none 0 0]) (t := 48) ?hr ?_; (case hd => rfl); (case hg => rfl); (case hr => first | (go_simp; done) | (go_simp; rfl)); intro gR hgR w5 hbox hb; have mg0 := zm (blk_below Bg0.out hb); clear Bg0; have Bg0 := mg0; clear mg0; have mgH := zm (blk_below BgH.out hb); clear BgH; have BgH := mgH; clear mgH; have mgK := zm (blk_below BgK.out hb); clear BgK; have BgK := mgK; clear mgK; have mgL := zm (blk_below BgL.out hb); clear BgL; have BgL := mgL; clear mgL;  have ngR := zm hbox; have nB := zm (below_step HB.out hb); have nG := zm (show w.heap.size ≤ gR from by rw [hgR]; exact HB.out.size); clear HB hbox hb hgR; have HB := nB; have BgR := ngR; have GgR := nG; clear nB ngR nG; have hcg0 : w5.cell? ⟨g0, 0, none⟩ = some (.slice A0_0 l0_0.length c0_0) := (blk_cell Bg0.out 0).trans rfl; have hcg1 : w5.cell? ⟨g0, 1, none⟩ = some (.slice A0_1 l0_1.length c0_1) := (blk_cell Bg0.out 1).trans rfl)
  | ((with_reducible refine gate_callee (f := 76) rfl ?_); refine goesL_ (some 11) rfl rfl Try.func76 (by kernel_rfl) rfl #[.agg #[.slice A0_0 l0_0.length c0_0, .slice A0_1 l0_1.length c0_1]] rfl (by (try simp only [List.map_toArray, List.map_cons, List.map_nil]); first | done | rfl) ?_; (with_reducible refine (impl_Disk_copied.calls A0_0 c0_0 l0_0 A0_1 c0_1 l0_1 t1 t2 _ ?s1 ?s2 ?s3 ?s4 T0.out).mono ?_); (case s1 => exact Kd.C_below HR0.out HB.out); (case s2 => exact HC0.out); (case s3 => exact Kd.C_below HR1.out HB.out); (case s4 => exact HC1.out); rintro e w6 ⟨v0, v1, rfl, ho0, ho1, hb⟩; refine ⟨_, rfl, ?_⟩; have R0 := zm (Kd.R_lower ho0 HB.out.size); have R1 := zm (Kd.R_lower ho1 HB.out.size); have mgH := zm (blk_below BgH.out hb); clear BgH; have BgH := mgH; clear mgH; have mgK := zm (blk_below BgK.out hb); clear BgK; have BgK := mgK; clear mgK; have mgL := zm (blk_below BgL.out hb); clear BgL; have BgL := mgL; clear mgL; have mgR := zm (blk_below BgR.out hb); clear BgR; have BgR := mgR; clear mgR;  have nB := zm (below_step HB.out hb); clear HB hb ho0 ho1 hcg0 hcg1 Bg0; have HB := nB; clear nB)
  | ((with_reducible refine gate_dst (N := 9) rfl ?_); refine box_event ?hg (N := 9) ?hd (cs := #[.slice none 0 0, .slice none 0 0]) (t := 48) ?hr ?_; (case hd => rfl); (case hg => rfl); (case hr => first | (go_simp; done) | (go_simp; rfl)); intro gO hgO w7 hbox hb; have NRO := zm (show gR ≠ gO from by rw [hgO]; exact Nat.ne_of_lt (blk_lt BgR.out)); have mgH := zm (blk_below BgH.out hb); clear BgH; have BgH := mgH; clear mgH; have mgK := zm (blk_below BgK.out hb); clear BgK; have BgK := mgK; clear mgK; have mgL := zm (blk_below BgL.out hb); clear BgL; have BgL := mgL; clear mgL; have mgR := zm (blk_below BgR.out hb); clear BgR; have BgR := mgR; clear mgR;  have mR0 := zm (Kd.R_below R0.out hb); have mR1 := zm (Kd.R_below R1.out hb); have BgO := zm hbox; have nB := zm (below_step HB.out hb); have GgO := zm (show w.heap.size ≤ gO from by rw [hgO]; exact HB.out.size); clear HB hbox hb hgO R0 R1; have HB := nB; have R0 := mR0; have R1 := mR1; clear nB mR0 mR1; have hz0 : w7.cell? ⟨gO, 0, none⟩ = some (.slice none 0 0) := (blk_cell BgO.out 0).trans rfl; have hz1 : w7.cell? ⟨gO, 1, none⟩ = some (.slice none 0 0) := (blk_cell BgO.out 1).trans rfl; have hf0 := blk_frozen BgO.out 0; have hf1 := blk_frozen BgO.out 1; obtain ⟨As, cs, rfl⟩ := Kd.R_slice R0.out; obtain ⟨Ap, cp, rfl⟩ := Kd.R_slice R1.out)
  | ((with_reducible refine gate_store (t := 48) (p := 9) rfl ?_); refine store_event (t := 48) (p := 9) (v := ?vo1) (w1 := ((w7.setCell ⟨gO, 0, none⟩ (.slice As t1.length cs)).setCell ⟨gO, 1, none⟩ (.slice Ap t2.length cp))) ?hg ?ho ?hn ?hr ?_; (case ho => rfl); (case hg => rfl); (case hn => rfl); (case hr => first | (go_simp; done) | (go_simp; rfl)); intro w8 hw; have K78 := (show Kept w7 w8 (fun k_ => k_ = gO) from by rw [hw]; exact Kept.setCell (Kept.setCell (Kept.refl w7 (fun k_ => k_ = gO)) (p := ⟨gO, 0, none⟩) (.inl rfl) _) (p := ⟨gO, 1, none⟩) (.inl rfl) _); have mO := zm (show w8.heap[gO]? = some (.cells #[.slice As t1.length cs, .slice Ap t2.length cp] 48 (0, 0)) from by rw [hw]; exact blk_set (blk_set BgO.out 0 _) 1 _); have mR := zm (blk_kept BgR.out K78 NRO.out); have I8 := zm (show impl_Disk_settle_I w8 w.heap.size gH gK gO gL gR a1 a2 a3 (.slice As t1.length cs) (.slice Ap t2.length cp) t1 from ⟨blk_kept BgH.out K78 (blk_ne BgH.out BgO.out (by decide)), blk_kept BgK.out K78 (blk_ne BgK.out BgO.out (by decide)), mO.out, blk_kept BgL.out K78 (blk_ne BgL.out BgO.out (by decide)), Kd.R_mono (Kd.R_kept (Kd.R_types R0.out BgO.out (by decide)) K78 (fun _ h_ => h_.2)) (fun _ _ => trivial), HHK.out, mR.out⟩); have nR1 := (Kd.R_kept (Kd.R_types R1.out BgO.out (by decide)) K78 (fun _ h_ => h_.2)); have R8 := zm (show Kd.R k92 92 w8 w.heap.size (fun k_ => k_ ≠ gK ∧ some k_ ≠ (.slice As t1.length cs : Value).ownBlock) (.slice Ap t2.length cp) t2 from Kd.R_mono (Kd.R_apart' (v := .slice As t1.length cs) (Kd.R_types nR1 I8.out.k (by decide)) (Kd.R_typed I8.out.s) (by decide)) (fun _ h_ => ⟨h_.1.2, h_.2⟩)); have nB := zm (show Below w.heap.size w w8 from by rw [hw]; exact below_set (below_set HB.out GgO.out) GgO.out); clear hw K78 R0 R1 nR1 HB BgR BgO BgH BgK BgL hz0 hz1 hf0 hf1; have HB := nB; have BgR := mR; clear nB mR mO; have hc1 : w8.cell? ⟨gO, 1, none⟩ = some (.slice Ap t2.length cp) := (blk_cell I8.out.o 1).trans rfl)
  | ((with_reducible refine gate_callee (f := 114) rfl ?_); refine goesL_ (some 15) rfl rfl Try.func114 (by kernel_rfl) rfl #[.slice Ap t2.length cp, .func (.func 115) #[] #[.pointer (some ⟨gH, 0, none⟩), .pointer (some ⟨gK, 0, none⟩), .pointer (some ⟨gO, 0, none⟩), .pointer (some ⟨gL, 0, none⟩)]] rfl (by (try simp only [List.map_toArray, List.map_cons, List.map_nil]); first | done | rfl) ?_; refine (impl_Disk_settle_delete (w0 := w) I8.out HB.out GgK.out R8.out HL.out q1 kf sf HGo.out).mono ?_; rintro e w9 ⟨v9, rfl, hr, hI, hb⟩; refine ⟨_, rfl, ?_⟩; obtain ⟨A9, c9, rfl⟩ := Kd.R_slice hr; have I9 := zm hI; have R9 := zm hr; have B9 := zm hb; clear hI hr hb I8 R8 HB BgR hc1; have hq1 : w9.cell? ⟨gO, 1, none⟩ = some (.slice Ap t2.length cp) := (blk_cell I9.out.o 1).trans rfl; have hfq := blk_frozen I9.out.o 1)
  | ((with_reducible refine gate_store (t := 46) (p := 16) rfl ?_); refine store_event (t := 46) (p := 16) (v := ?vo2) (w1 := (w9.setCell ⟨gO, 1, none⟩ (.slice A9 q1.length c9))) ?hg ?ho ?hn ?hr ?_; (case ho => rfl); (case hg => rfl); (case hn => rfl); (case hr => first | (go_simp; done) | (go_simp; rfl)); intro w10 hw; have K := (show Kept w9 w10 (fun k_ => k_ = gO) from by rw [hw]; exact Kept.setCell (Kept.refl w9 (fun k_ => k_ = gO)) (p := ⟨gO, 1, none⟩) (.inl rfl) _); have O10 := zm (show w10.heap[gO]? = some (.cells #[.slice As t1.length cs, .slice A9 q1.length c9] 48 (0, 0)) from by rw [hw]; exact blk_set I9.out.o 1 _); have Q10 := zm (blk_kept I9.out.r K NRO.out); have S10 := zm (Kd.R_kept (Kd.R_types I9.out.s I9.out.o (by decide)) K (fun _ h_ => h_.2)); have R10 := zm (Kd.R_kept (Kd.R_types R9.out I9.out.o (by decide)) K (fun _ h_ => h_.2)); have B10 := zm (show Below w.heap.size w w10 from by rw [hw]; exact below_set B9.out GgO.out); clear hw K I9 R9 B9 hq1 hfq; have ho0 : w10.cell? ⟨gO, 0, none⟩ = some (.slice As t1.length cs) := (blk_cell O10.out 0).trans rfl; have ho1 : w10.cell? ⟨gO, 1, none⟩ = some (.slice A9 q1.length c9) := (blk_cell O10.out 1).trans rfl; have hr0 : w10.cell? ⟨gR, 0, none⟩ = some (.slice none 0 0) := (blk_cell Q10.out 0).trans rfl; have hr1 : w10.cell? ⟨gR, 1, none⟩ = some (.slice none 0 0) := (blk_cell Q10.out 1).trans rfl; have hfr0 := blk_frozen Q10.out 0; have hfr1 := blk_frozen Q10.out 1)
  | ((with_reducible refine gate_store (t := 48) (p := 8) rfl ?_); refine store_event (t := 48) (p := 8) (v := ?vo3) (w1 := ((w10.setCell ⟨gR, 0, none⟩ (.slice As t1.length cs)).setCell ⟨gR, 1, none⟩ (.slice A9 q1.length c9))) ?hg ?ho ?hn ?hr ?_; (case ho => rfl); (case hg => rfl); (case hn => rfl); (case hr => first | (go_simp; done) | (go_simp; rfl)); intro w11 hw; have K := (show Kept w10 w11 (fun k_ => k_ = gR) from by rw [hw]; exact Kept.setCell (Kept.setCell (Kept.refl w10 (fun k_ => k_ = gR)) (p := ⟨gR, 0, none⟩) (.inl rfl) _) (p := ⟨gR, 1, none⟩) (.inl rfl) _); have Q11 := zm (show w11.heap[gR]? = some (.cells #[.slice As t1.length cs, .slice A9 q1.length c9] 48 (0, 0)) from by rw [hw]; exact blk_set (blk_set Q10.out 0 _) 1 _); have S11 := zm (Kd.R_kept (Kd.R_types S10.out Q10.out (by decide)) K (fun _ h_ => h_.2)); have R11 := zm (Kd.R_kept (Kd.R_types R10.out Q10.out (by decide)) K (fun _ h_ => h_.2)); have B11 := zm (show Below w.heap.size w w11 from by rw [hw]; exact below_set (below_set B10.out GgR.out) GgR.out); clear hw K S10 R10 B10 Q10 O10 ho0 ho1 hr0 hr1 hfr0 hfr1))
 refine bodyPost_ret (results_cell_row rfl _ _ gR 48 #[.slice As t1.length cs, .slice A9 q1.length c9] (0, 0) _ rfl Q11.out Try.underlying48 rfl (by kernel_rfl)) rfl ?_
 exact ⟨_, _, rfl, Kd.R_mono S11.out (fun _ _ => trivial), Kd.R_mono R11.out (fun _ _ => trivial), B11.out⟩
theorem eqA92 (d : Nat) (w : World) (x0 y0 : Int) (x1 y1 : Int) (x2 y2 : ByteArray) :
    (Op.equalIn (d + 2) 92 (.agg #[.int .i64 x0, .int .i64 x1, .string x2]) (.agg #[.int .i64 y0, .int .i64 y1, .string y2])).run Try.prog w = .ok (x0 == y0 && (x1 == y1 && (x2.toList == y2.toList))) w := by
  refine eqA_of Try.underlying92 (by kernel_rfl) ?_
  refine eqf_cons (by rfl) (by go_simp; rfl) (by go_simp; rfl) (by go_simp) ?_
  refine eqf_cons (by rfl) (by go_simp; rfl) (by go_simp; rfl) (by go_simp) ?_
  exact eqf_last (by rfl) (by go_simp; rfl) (by go_simp; rfl) (by go_simp)
section
attribute [local go_sem high] eqA92
/-! ### impl_LandOne: function 28 -/
def impl_LandOne.f (k : Nat) (l0_0 : List ByteArray) (l0_1 : List (S92)) (a1 : Int) : Option (List ByteArray × (List (S92)) × Int) := (impl_Disk_codes.f l0_0 l0_1 a1).bind fun t605 => (if t605 = 0 then ((impl_Disk_pending.f k l0_0 l0_1 a1).bind fun t606 => (if t606 = 0 then ((impl_Disk_copied.f l0_0 l0_1).bind fun bt607 => (some (bt607.1, bt607.2, 5))) else ((impl_Disk_settle.f l0_0 l0_1 a1 1 false).bind fun bt613 => (some (bt613.1, bt613.2, 0))))) else (some (([] : List ByteArray), ([] : List (S92)), t605)))
theorem impl_LandOne.mono : ∀ a0 a1 a2 k, LeO (impl_LandOne.f k a0 a1 a2) (impl_LandOne.f (k + 1) a0 a1 a2) := by
  intro a0 a1 a2 k
  unfold impl_LandOne.f
  repeat' first
      | (with_reducible exact impl_Disk_pending.mono _ _ _ _)
      | (with_reducible exact LeO.refl _)
      | (with_reducible exact LeO.none _)
      | (with_reducible refine LeO.ite ?_ ?_)
      | (with_reducible refine LeO.bind ?_ (fun _ => ?_))
      | exact impl_Disk_pending.mono _ _ _ _
      | exact LeO.none _
      | refine LeO.ite ?_ ?_
      | refine LeO.bind ?_ (fun _ => ?_)
set_option maxHeartbeats 8000000 in
set_option maxRecDepth 100000 in
theorem impl_LandOne.calls (k : Nat) (A0_0 : Option Addr) (c0_0 : Nat) (l0_0 : List ByteArray) (A0_1 : Option Addr) (c0_1 : Nat) (l0_1 : List (S92)) (a1 : Int) (r1 : List ByteArray) (r2 : List (S92)) (r3 : Int) (w : World) (hr0_0 : Kd.C Kd.string w A0_0 l0_0.length l0_0) (hc0_0 : l0_0.length ≤ c0_0) (hr0_1 : Kd.C k92 w A0_1 l0_1.length l0_1) (hc0_1 : l0_1.length ≤ c0_1) (h : impl_LandOne.f k l0_0 l0_1 a1 = some (r1, r2, r3)) :
    Calls Try.prog 28 #[.agg #[.slice A0_0 l0_0.length c0_0, .slice A0_1 l0_1.length c0_1], .int .i64 a1] w fun e w' => ∃ v0_ v1_ : Value, e = .returned (.tuple #[.agg #[v0_, v1_], .int .i64 r3]) ∧ Kd.R Kd.string 9 w' w.heap.size (fun _ => True) v0_ r1 ∧ Kd.R k92 92 w' w.heap.size (fun _ => True) v1_ r2 ∧ Below w.heap.size w w' := by
 have hu48 := Try.underlying48
 have Zg := zm hr0_0
 have Zh := zm hc0_0
 clear hr0_0 hc0_0
 have Zi := zm hr0_1
 have Zj := zm hc0_1
 clear hr0_1 hc0_1
 have HB := zm (Below.refl w.heap.size w)
 have H : ((impl_Disk_codes.f l0_0 l0_1 a1).bind fun t605 => (if t605 = 0 then ((impl_Disk_pending.f k l0_0 l0_1 a1).bind fun t606 => (if t606 = 0 then ((impl_Disk_copied.f l0_0 l0_1).bind fun bt607 => (some (bt607.1, bt607.2, 5))) else ((impl_Disk_settle.f l0_0 l0_1 a1 1 false).bind fun bt613 => (some (bt613.1, bt613.2, 0))))) else (some (([] : List ByteArray), ([] : List (S92)), t605)))) = some (r1, r2, r3) := h
 clear h
 replace H := Option.bind_eq_some_iff.mp H
 obtain ⟨t605, A30, H⟩ := H
 replace H : (if t605 = 0 then ((impl_Disk_pending.f k l0_0 l0_1 a1).bind fun t606 => (if t606 = 0 then ((impl_Disk_copied.f l0_0 l0_1).bind fun bt607 => (some (bt607.1, bt607.2, 5))) else ((impl_Disk_settle.f l0_0 l0_1 a1 1 false).bind fun bt613 => (some (bt613.1, bt613.2, 0))))) else (some (([] : List ByteArray), ([] : List (S92)), t605))) = some (r1, r2, r3) := H
 have A3 := zm A30
 clear A30
 by_cases c4 : t605 = 0
 ·rw [if_pos c4] at H
  have c4b0 : (t605 == 0) = true := beq_iff_eq.mpr c4
  have c4b1 : (t605 != 0) = false := bne_eq_false_iff_eq.mpr c4
  clear c4
  replace H := Option.bind_eq_some_iff.mp H
  obtain ⟨t606, A50, H⟩ := H
  replace H : (if t606 = 0 then ((impl_Disk_copied.f l0_0 l0_1).bind fun bt607 => (some (bt607.1, bt607.2, 5))) else ((impl_Disk_settle.f l0_0 l0_1 a1 1 false).bind fun bt613 => (some (bt613.1, bt613.2, 0)))) = some (r1, r2, r3) := H
  have A5 := zm A50
  clear A50
  by_cases c6 : t606 = 0
  ·rw [if_pos c6] at H
   have c6b0 : (t606 == 0) = true := beq_iff_eq.mpr c6
   have c6b1 : (t606 != 0) = false := bne_eq_false_iff_eq.mpr c6
   clear c6
   replace H := Option.bind_eq_some_iff.mp H
   obtain ⟨⟨t607, t610⟩, A70, H⟩ := H
   replace H : (some (t607, t610, 5)) = some (r1, r2, r3) := H
   have A7 := zm A70
   clear A70
   simp only [Option.some.injEq, Prod.mk.injEq] at H
   obtain ⟨rfl, rfl, rfl⟩ := H
   go_enter Try.func28, Try.ntmps28
   go_wp2_with (first | ((with_reducible refine gate_dst (N := 2) rfl ?_); refine box_event ?hg (N := 2) ?hd (cs := #[.slice A0_0 l0_0.length c0_0, .slice A0_1 l0_1.length c0_1]) (t := 48) ?hr ?_; (case hd => rfl); (case hg => rfl); (case hr => first | (go_simp; done) | (go_simp; rfl)); intro gb603 hg w8 hbox hb; have n0_ := zm (below_step (zg_0 HB.out) hb); have n1_ := zm (hbox); have n2_ := zm ((by rw [hg]; exact (below_size (zg_0 HB.out)) : w.heap.size ≤ gb603)); have n3_ := zm ((by rw [hg]; exact (below_size (zg_0 HB.out)) : w.heap.size ≤ gb603)); clear HB; have HB := n0_; have Za := n1_; have Zk := n2_; have Zc := n3_; clear n0_ n1_ n2_ n3_; clear hb hbox hg) | ((with_reducible refine gate_dst (N := 4) rfl ?_); refine box_event ?hg (N := 4) ?hd (cs := #[.slice none 0 0, .slice none 0 0]) (t := 48) ?hr ?_; (case hd => rfl); (case hg => rfl); (case hr => first | (go_simp; done) | (go_simp; rfl)); intro gb604 hg w9 hbox hb; have n0_ := zm (blk_below (g := gb603) (o := .cells #[.slice A0_0 l0_0.length c0_0, .slice A0_1 l0_1.length c0_1] 48 (0, 0)) (zg_2 Za.out) hb); have n1_ := zm (below_step (zg_1 HB.out Zc.out) hb); have n2_ := zm (hbox); have n3_ := zm ((by rw [hg]; exact (below_size (zg_1 HB.out Zc.out)) : w.heap.size ≤ gb604)); have n4_ := zm ((by rw [hg]; exact (below_size (zg_1 HB.out Zc.out)) : w.heap.size ≤ gb604)); have n5_ := zm ((by rw [hg]; exact Nat.ne_of_lt (blk_lt (g := gb603) (o := .cells #[.slice A0_0 l0_0.length c0_0, .slice A0_1 l0_1.length c0_1] 48 (0, 0)) (zg_2 Za.out)) : gb603 ≠ gb604)); have n6_ := zm ((by rw [hg]; exact Nat.ne_of_gt (blk_lt (g := gb603) (o := .cells #[.slice A0_0 l0_0.length c0_0, .slice A0_1 l0_1.length c0_1] 48 (0, 0)) (zg_2 Za.out)) : gb604 ≠ gb603)); clear Za; clear HB; have Za := n0_; have HB := n1_; have Zb := n2_; have Zl := n3_; have Zd := n4_; have Ze := n5_; have Zf := n6_; clear n0_ n1_ n2_ n3_ n4_ n5_ n6_; clear hb hbox hg; have hnb10 := Ze.out; have hnc10 := Zf.out; have hcz11_0 : w9.cell? ⟨gb603, 0, none⟩ = some (.slice A0_0 l0_0.length c0_0) := (blk_cell Za.out 0).trans rfl; have hcz11_1 : w9.cell? ⟨gb603, 1, none⟩ = some (.slice A0_1 l0_1.length c0_1) := (blk_cell Za.out 1).trans rfl; have hfz11_0 := blk_frozen Za.out 0; have hfz11_1 := blk_frozen Za.out 1) | ((with_reducible refine gate_callee (f := 74) rfl ?_); refine goesL_ (some 9) rfl rfl Try.func74 (by kernel_rfl) rfl #[.agg #[.slice A0_0 l0_0.length c0_0, .slice A0_1 l0_1.length c0_1], .int .i64 a1] rfl zq ?_; (with_reducible refine (impl_Disk_codes.calls _ _ l0_0 _ _ l0_1 a1 t605 _ ?side1 ?side2 ?side3 ?side4 A3.out).mono ?_); (case side1 => repeat (first | exact (Kd.C_below Zg.out HB.out) | (with_reducible refine Kd.C_alloc ?_ _) | (with_reducible refine Kd.C_drewN ?_ _) | (with_reducible refine Kd.C_drew ?_))); (case side2 => exact Zh.out); (case side3 => repeat (first | exact (Kd.C_below Zi.out HB.out) | (with_reducible refine Kd.C_alloc ?_ _) | (with_reducible refine Kd.C_drewN ?_ _) | (with_reducible refine Kd.C_drew ?_))); (case side4 => exact Zj.out); rintro e w12 ⟨rfl, hb⟩; refine ⟨_, rfl, ?_⟩; have n0_ := zm (blk_below (g := gb603) (o := .cells #[.slice A0_0 l0_0.length c0_0, .slice A0_1 l0_1.length c0_1] 48 (0, 0)) (zg_2 Za.out) hb); have n1_ := zm (blk_below (g := gb604) (o := .cells #[.slice none 0 0, .slice none 0 0] 48 (0, 0)) (zg_2 Zb.out) hb); have n2_ := zm (below_step (zg_3 HB.out Zc.out Zd.out) hb); clear Za; clear Zb; clear HB; have Za := n0_; have Zb := n1_; have HB := n2_; clear n0_ n1_ n2_; (try clear hb); (try clear hb2); (try clear hk); (try clear hi); have hcz13_0 : w12.cell? ⟨gb603, 0, none⟩ = some (.slice A0_0 l0_0.length c0_0) := (blk_cell Za.out 0).trans rfl; have hcz13_1 : w12.cell? ⟨gb603, 1, none⟩ = some (.slice A0_1 l0_1.length c0_1) := (blk_cell Za.out 1).trans rfl; have hfz13_0 := blk_frozen Za.out 0; have hfz13_1 := blk_frozen Za.out 1) | ((with_reducible refine gate_callee (f := 75) rfl ?_); refine goesL_ (some 16) rfl rfl Try.func75 (by kernel_rfl) rfl #[.agg #[.slice A0_0 l0_0.length c0_0, .slice A0_1 l0_1.length c0_1], .int .i64 a1] rfl zq ?_; (with_reducible refine (impl_Disk_pending.calls k _ _ l0_0 _ _ l0_1 a1 t606 _ ?side1 ?side2 ?side3 ?side4 A5.out).mono ?_); (case side1 => repeat (first | exact (Kd.C_below Zg.out HB.out) | (with_reducible refine Kd.C_alloc ?_ _) | (with_reducible refine Kd.C_drewN ?_ _) | (with_reducible refine Kd.C_drew ?_))); (case side2 => exact Zh.out); (case side3 => repeat (first | exact (Kd.C_below Zi.out HB.out) | (with_reducible refine Kd.C_alloc ?_ _) | (with_reducible refine Kd.C_drewN ?_ _) | (with_reducible refine Kd.C_drew ?_))); (case side4 => exact Zj.out); rintro e w14 ⟨rfl, hb⟩; refine ⟨_, rfl, ?_⟩; have n0_ := zm (blk_below (g := gb603) (o := .cells #[.slice A0_0 l0_0.length c0_0, .slice A0_1 l0_1.length c0_1] 48 (0, 0)) (zg_2 Za.out) hb); have n1_ := zm (blk_below (g := gb604) (o := .cells #[.slice none 0 0, .slice none 0 0] 48 (0, 0)) (zg_2 Zb.out) hb); have n2_ := zm (below_step (zg_3 HB.out Zc.out Zd.out) hb); clear Za; clear Zb; clear HB; have Za := n0_; have Zb := n1_; have HB := n2_; clear n0_ n1_ n2_; (try clear hb); (try clear hb2); (try clear hk); (try clear hi); have hcz15_0 : w14.cell? ⟨gb603, 0, none⟩ = some (.slice A0_0 l0_0.length c0_0) := (blk_cell Za.out 0).trans rfl; have hcz15_1 : w14.cell? ⟨gb603, 1, none⟩ = some (.slice A0_1 l0_1.length c0_1) := (blk_cell Za.out 1).trans rfl; have hfz15_0 := blk_frozen Za.out 0; have hfz15_1 := blk_frozen Za.out 1) | ((with_reducible refine gate_callee (f := 76) rfl ?_); refine goesL_ (some 19) rfl rfl Try.func76 (by kernel_rfl) rfl #[.agg #[.slice A0_0 l0_0.length c0_0, .slice A0_1 l0_1.length c0_1]] rfl zq ?_; (with_reducible refine (impl_Disk_copied.calls _ _ l0_0 _ _ l0_1 t607 t610 _ ?side1 ?side2 ?side3 ?side4 A7.out).mono ?_); (case side1 => repeat (first | exact (Kd.C_below Zg.out HB.out) | (with_reducible refine Kd.C_alloc ?_ _) | (with_reducible refine Kd.C_drewN ?_ _) | (with_reducible refine Kd.C_drew ?_))); (case side2 => exact Zh.out); (case side3 => repeat (first | exact (Kd.C_below Zi.out HB.out) | (with_reducible refine Kd.C_alloc ?_ _) | (with_reducible refine Kd.C_drewN ?_ _) | (with_reducible refine Kd.C_drew ?_))); (case side4 => exact Zj.out); rintro e w16 ⟨v608, v611, rfl, ho0, ho1, hb⟩; refine ⟨_, rfl, ?_⟩; have n0_ := zm (Kd.R_lower ho0 (below_size (zg_3 HB.out Zc.out Zd.out))); have n1_ := zm (Kd.R_lower ho1 (below_size (zg_3 HB.out Zc.out Zd.out))); have n2_ := zm (blk_below (g := gb603) (o := .cells #[.slice A0_0 l0_0.length c0_0, .slice A0_1 l0_1.length c0_1] 48 (0, 0)) (zg_2 Za.out) hb); have n3_ := zm (blk_below (g := gb604) (o := .cells #[.slice none 0 0, .slice none 0 0] 48 (0, 0)) (zg_2 Zb.out) hb); have n4_ := zm (below_step (zg_3 HB.out Zc.out Zd.out) hb); clear Za; clear Zb; clear HB; have Zm := n0_; have Zn := n1_; have Za := n2_; have Zb := n3_; have HB := n4_; clear n0_ n1_ n2_ n3_ n4_; (try clear hb); (try clear hb2); (try clear hk); (try clear hi); (try clear ho0); (try clear ho1); obtain ⟨Ao17, co17, eo17⟩ := Kd.R_slice Zm.out; subst eo17; have hcz18_0 : w16.cell? ⟨gb604, 0, none⟩ = some (.slice none 0 0) := (blk_cell Zb.out 0).trans rfl; have hcz18_1 : w16.cell? ⟨gb604, 1, none⟩ = some (.slice none 0 0) := (blk_cell Zb.out 1).trans rfl; have hfz18_0 := blk_frozen Zb.out 0; have hfz18_1 := blk_frozen Zb.out 1; obtain ⟨Ao19, co19, eo19⟩ := Kd.R_slice Zn.out; subst eo19))
   refine bodyPost_ret (results_ct rfl _ _ gb604 48 #[.slice Ao17 t607.length co17, .slice Ao19 t610.length co19] (0, 0) _ rfl (by (with_reducible repeat (first | refine blk_drewN ?_ _ | refine blk_drew ?_ | refine blk_alloc ?_ _)); refine blk_put (cs := #[.slice Ao17 t607.length co17, .slice none 0 0]) ?_ 1 _ rfl; (with_reducible repeat (first | refine blk_drewN ?_ _ | refine blk_drew ?_ | refine blk_alloc ?_ _)); refine blk_put (cs := #[.slice none 0 0, .slice none 0 0]) ?_ 0 _ rfl; (with_reducible repeat (first | refine blk_drewN ?_ _ | refine blk_drew ?_ | refine blk_alloc ?_ _)); exact Zb.out) Try.underlying48 rfl (by kernel_rfl)) rfl ?_
   exact ⟨_, _, by first | rfl | (simp [errW_none, errW_some] <;> rfl) | (simp [*, errW_none, errW_some] <;> rfl), by (with_reducible repeat (first | apply Kd.R_alloc | apply Kd.R_drewN | apply Kd.R_drew)); exact Kd.R_mono (Kd.R_far (p := ⟨gb604, 1, none⟩) (Kd.R_far (p := ⟨gb604, 0, none⟩) (Kd.R_types Zm.out Zb.out (by decide)) (fun _ hk => hk.2) (.slice Ao17 t607.length co17)) (fun _ hk => hk.2) (.slice Ao19 t610.length co19)) (fun _ hk => trivial), by (with_reducible repeat (first | apply Kd.R_alloc | apply Kd.R_drewN | apply Kd.R_drew)); exact Kd.R_mono (Kd.R_far (p := ⟨gb604, 1, none⟩) (Kd.R_far (p := ⟨gb604, 0, none⟩) (Kd.R_types Zn.out Zb.out (by decide)) (fun _ hk => hk.2) (.slice Ao17 t607.length co17)) (fun _ hk => hk.2) (.slice Ao19 t610.length co19)) (fun _ hk => trivial), zg_3 HB.out Zc.out Zd.out⟩
  ·rw [if_neg c6] at H
   have c6b0 : (t606 == 0) = false := beq_eq_false_iff_ne.mpr c6
   have c6b1 : (t606 != 0) = true := bne_iff_ne.mpr c6
   replace H := Option.bind_eq_some_iff.mp H
   obtain ⟨⟨t613, t616⟩, A200, H⟩ := H
   replace H : (some (t613, t616, 0)) = some (r1, r2, r3) := H
   have A20 := zm A200
   clear A200
   simp only [Option.some.injEq, Prod.mk.injEq] at H
   obtain ⟨rfl, rfl, rfl⟩ := H
   go_enter Try.func28, Try.ntmps28
   go_wp2_with (first | ((with_reducible refine gate_dst (N := 2) rfl ?_); refine box_event ?hg (N := 2) ?hd (cs := #[.slice A0_0 l0_0.length c0_0, .slice A0_1 l0_1.length c0_1]) (t := 48) ?hr ?_; (case hd => rfl); (case hg => rfl); (case hr => first | (go_simp; done) | (go_simp; rfl)); intro gb603 hg w21 hbox hb; have n0_ := zm (below_step (zg_0 HB.out) hb); have n1_ := zm (hbox); have n2_ := zm ((by rw [hg]; exact (below_size (zg_0 HB.out)) : w.heap.size ≤ gb603)); have n3_ := zm ((by rw [hg]; exact (below_size (zg_0 HB.out)) : w.heap.size ≤ gb603)); clear HB; have HB := n0_; have Za := n1_; have Zk := n2_; have Zc := n3_; clear n0_ n1_ n2_ n3_; clear hb hbox hg) | ((with_reducible refine gate_dst (N := 4) rfl ?_); refine box_event ?hg (N := 4) ?hd (cs := #[.slice none 0 0, .slice none 0 0]) (t := 48) ?hr ?_; (case hd => rfl); (case hg => rfl); (case hr => first | (go_simp; done) | (go_simp; rfl)); intro gb604 hg w22 hbox hb; have n0_ := zm (blk_below (g := gb603) (o := .cells #[.slice A0_0 l0_0.length c0_0, .slice A0_1 l0_1.length c0_1] 48 (0, 0)) (zg_2 Za.out) hb); have n1_ := zm (below_step (zg_1 HB.out Zc.out) hb); have n2_ := zm (hbox); have n3_ := zm ((by rw [hg]; exact (below_size (zg_1 HB.out Zc.out)) : w.heap.size ≤ gb604)); have n4_ := zm ((by rw [hg]; exact (below_size (zg_1 HB.out Zc.out)) : w.heap.size ≤ gb604)); have n5_ := zm ((by rw [hg]; exact Nat.ne_of_lt (blk_lt (g := gb603) (o := .cells #[.slice A0_0 l0_0.length c0_0, .slice A0_1 l0_1.length c0_1] 48 (0, 0)) (zg_2 Za.out)) : gb603 ≠ gb604)); have n6_ := zm ((by rw [hg]; exact Nat.ne_of_gt (blk_lt (g := gb603) (o := .cells #[.slice A0_0 l0_0.length c0_0, .slice A0_1 l0_1.length c0_1] 48 (0, 0)) (zg_2 Za.out)) : gb604 ≠ gb603)); clear Za; clear HB; have Za := n0_; have HB := n1_; have Zb := n2_; have Zl := n3_; have Zd := n4_; have Ze := n5_; have Zf := n6_; clear n0_ n1_ n2_ n3_ n4_ n5_ n6_; clear hb hbox hg; have hnb23 := Ze.out; have hnc23 := Zf.out; have hcz24_0 : w22.cell? ⟨gb603, 0, none⟩ = some (.slice A0_0 l0_0.length c0_0) := (blk_cell Za.out 0).trans rfl; have hcz24_1 : w22.cell? ⟨gb603, 1, none⟩ = some (.slice A0_1 l0_1.length c0_1) := (blk_cell Za.out 1).trans rfl; have hfz24_0 := blk_frozen Za.out 0; have hfz24_1 := blk_frozen Za.out 1) | ((with_reducible refine gate_callee (f := 74) rfl ?_); refine goesL_ (some 9) rfl rfl Try.func74 (by kernel_rfl) rfl #[.agg #[.slice A0_0 l0_0.length c0_0, .slice A0_1 l0_1.length c0_1], .int .i64 a1] rfl zq ?_; (with_reducible refine (impl_Disk_codes.calls _ _ l0_0 _ _ l0_1 a1 t605 _ ?side1 ?side2 ?side3 ?side4 A3.out).mono ?_); (case side1 => repeat (first | exact (Kd.C_below Zg.out HB.out) | (with_reducible refine Kd.C_alloc ?_ _) | (with_reducible refine Kd.C_drewN ?_ _) | (with_reducible refine Kd.C_drew ?_))); (case side2 => exact Zh.out); (case side3 => repeat (first | exact (Kd.C_below Zi.out HB.out) | (with_reducible refine Kd.C_alloc ?_ _) | (with_reducible refine Kd.C_drewN ?_ _) | (with_reducible refine Kd.C_drew ?_))); (case side4 => exact Zj.out); rintro e w25 ⟨rfl, hb⟩; refine ⟨_, rfl, ?_⟩; have n0_ := zm (blk_below (g := gb603) (o := .cells #[.slice A0_0 l0_0.length c0_0, .slice A0_1 l0_1.length c0_1] 48 (0, 0)) (zg_2 Za.out) hb); have n1_ := zm (blk_below (g := gb604) (o := .cells #[.slice none 0 0, .slice none 0 0] 48 (0, 0)) (zg_2 Zb.out) hb); have n2_ := zm (below_step (zg_3 HB.out Zc.out Zd.out) hb); clear Za; clear Zb; clear HB; have Za := n0_; have Zb := n1_; have HB := n2_; clear n0_ n1_ n2_; (try clear hb); (try clear hb2); (try clear hk); (try clear hi); have hcz26_0 : w25.cell? ⟨gb603, 0, none⟩ = some (.slice A0_0 l0_0.length c0_0) := (blk_cell Za.out 0).trans rfl; have hcz26_1 : w25.cell? ⟨gb603, 1, none⟩ = some (.slice A0_1 l0_1.length c0_1) := (blk_cell Za.out 1).trans rfl; have hfz26_0 := blk_frozen Za.out 0; have hfz26_1 := blk_frozen Za.out 1) | ((with_reducible refine gate_callee (f := 75) rfl ?_); refine goesL_ (some 16) rfl rfl Try.func75 (by kernel_rfl) rfl #[.agg #[.slice A0_0 l0_0.length c0_0, .slice A0_1 l0_1.length c0_1], .int .i64 a1] rfl zq ?_; (with_reducible refine (impl_Disk_pending.calls k _ _ l0_0 _ _ l0_1 a1 t606 _ ?side1 ?side2 ?side3 ?side4 A5.out).mono ?_); (case side1 => repeat (first | exact (Kd.C_below Zg.out HB.out) | (with_reducible refine Kd.C_alloc ?_ _) | (with_reducible refine Kd.C_drewN ?_ _) | (with_reducible refine Kd.C_drew ?_))); (case side2 => exact Zh.out); (case side3 => repeat (first | exact (Kd.C_below Zi.out HB.out) | (with_reducible refine Kd.C_alloc ?_ _) | (with_reducible refine Kd.C_drewN ?_ _) | (with_reducible refine Kd.C_drew ?_))); (case side4 => exact Zj.out); rintro e w27 ⟨rfl, hb⟩; refine ⟨_, rfl, ?_⟩; have n0_ := zm (blk_below (g := gb603) (o := .cells #[.slice A0_0 l0_0.length c0_0, .slice A0_1 l0_1.length c0_1] 48 (0, 0)) (zg_2 Za.out) hb); have n1_ := zm (blk_below (g := gb604) (o := .cells #[.slice none 0 0, .slice none 0 0] 48 (0, 0)) (zg_2 Zb.out) hb); have n2_ := zm (below_step (zg_3 HB.out Zc.out Zd.out) hb); clear Za; clear Zb; clear HB; have Za := n0_; have Zb := n1_; have HB := n2_; clear n0_ n1_ n2_; (try clear hb); (try clear hb2); (try clear hk); (try clear hi); have hcz28_0 : w27.cell? ⟨gb603, 0, none⟩ = some (.slice A0_0 l0_0.length c0_0) := (blk_cell Za.out 0).trans rfl; have hcz28_1 : w27.cell? ⟨gb603, 1, none⟩ = some (.slice A0_1 l0_1.length c0_1) := (blk_cell Za.out 1).trans rfl; have hfz28_0 := blk_frozen Za.out 0; have hfz28_1 := blk_frozen Za.out 1) | ((with_reducible refine gate_callee (f := 70) rfl ?_); refine goesL_ (some 22) rfl rfl Try.func70 (by kernel_rfl) rfl #[.agg #[.slice A0_0 l0_0.length c0_0, .slice A0_1 l0_1.length c0_1], .int .i64 a1, .int .i64 1, .bool false] rfl zq ?_; (with_reducible refine (impl_Disk_settle.calls _ _ l0_0 _ _ l0_1 a1 1 false t613 t616 _ ?side1 ?side2 ?side3 ?side4 A20.out).mono ?_); (case side1 => repeat (first | exact (Kd.C_below Zg.out HB.out) | (with_reducible refine Kd.C_alloc ?_ _) | (with_reducible refine Kd.C_drewN ?_ _) | (with_reducible refine Kd.C_drew ?_))); (case side2 => exact Zh.out); (case side3 => repeat (first | exact (Kd.C_below Zi.out HB.out) | (with_reducible refine Kd.C_alloc ?_ _) | (with_reducible refine Kd.C_drewN ?_ _) | (with_reducible refine Kd.C_drew ?_))); (case side4 => exact Zj.out); rintro e w29 ⟨v614, v617, rfl, ho0, ho1, hb⟩; refine ⟨_, rfl, ?_⟩; have n0_ := zm (Kd.R_lower ho0 (below_size (zg_3 HB.out Zc.out Zd.out))); have n1_ := zm (Kd.R_lower ho1 (below_size (zg_3 HB.out Zc.out Zd.out))); have n2_ := zm (blk_below (g := gb603) (o := .cells #[.slice A0_0 l0_0.length c0_0, .slice A0_1 l0_1.length c0_1] 48 (0, 0)) (zg_2 Za.out) hb); have n3_ := zm (blk_below (g := gb604) (o := .cells #[.slice none 0 0, .slice none 0 0] 48 (0, 0)) (zg_2 Zb.out) hb); have n4_ := zm (below_step (zg_3 HB.out Zc.out Zd.out) hb); clear Za; clear Zb; clear HB; have Zo := n0_; have Zp := n1_; have Za := n2_; have Zb := n3_; have HB := n4_; clear n0_ n1_ n2_ n3_ n4_; (try clear hb); (try clear hb2); (try clear hk); (try clear hi); (try clear ho0); (try clear ho1); obtain ⟨Ao30, co30, eo30⟩ := Kd.R_slice Zo.out; subst eo30; have hcz31_0 : w29.cell? ⟨gb604, 0, none⟩ = some (.slice none 0 0) := (blk_cell Zb.out 0).trans rfl; have hcz31_1 : w29.cell? ⟨gb604, 1, none⟩ = some (.slice none 0 0) := (blk_cell Zb.out 1).trans rfl; have hfz31_0 := blk_frozen Zb.out 0; have hfz31_1 := blk_frozen Zb.out 1; obtain ⟨Ao32, co32, eo32⟩ := Kd.R_slice Zp.out; subst eo32))
   refine bodyPost_ret (results_ct rfl _ _ gb604 48 #[.slice Ao30 t613.length co30, .slice Ao32 t616.length co32] (0, 0) _ rfl (by (with_reducible repeat (first | refine blk_drewN ?_ _ | refine blk_drew ?_ | refine blk_alloc ?_ _)); refine blk_put (cs := #[.slice Ao30 t613.length co30, .slice none 0 0]) ?_ 1 _ rfl; (with_reducible repeat (first | refine blk_drewN ?_ _ | refine blk_drew ?_ | refine blk_alloc ?_ _)); refine blk_put (cs := #[.slice none 0 0, .slice none 0 0]) ?_ 0 _ rfl; (with_reducible repeat (first | refine blk_drewN ?_ _ | refine blk_drew ?_ | refine blk_alloc ?_ _)); exact Zb.out) Try.underlying48 rfl (by kernel_rfl)) rfl ?_
   exact ⟨_, _, by first | rfl | (simp [errW_none, errW_some] <;> rfl) | (simp [*, errW_none, errW_some] <;> rfl), by (with_reducible repeat (first | apply Kd.R_alloc | apply Kd.R_drewN | apply Kd.R_drew)); exact Kd.R_mono (Kd.R_far (p := ⟨gb604, 1, none⟩) (Kd.R_far (p := ⟨gb604, 0, none⟩) (Kd.R_types Zo.out Zb.out (by decide)) (fun _ hk => hk.2) (.slice Ao30 t613.length co30)) (fun _ hk => hk.2) (.slice Ao32 t616.length co32)) (fun _ hk => trivial), by (with_reducible repeat (first | apply Kd.R_alloc | apply Kd.R_drewN | apply Kd.R_drew)); exact Kd.R_mono (Kd.R_far (p := ⟨gb604, 1, none⟩) (Kd.R_far (p := ⟨gb604, 0, none⟩) (Kd.R_types Zp.out Zb.out (by decide)) (fun _ hk => hk.2) (.slice Ao30 t613.length co30)) (fun _ hk => hk.2) (.slice Ao32 t616.length co32)) (fun _ hk => trivial), zg_3 HB.out Zc.out Zd.out⟩
 ·rw [if_neg c4] at H
  have c4b0 : (t605 == 0) = false := beq_eq_false_iff_ne.mpr c4
  have c4b1 : (t605 != 0) = true := bne_iff_ne.mpr c4
  simp only [Option.some.injEq, Prod.mk.injEq] at H
  obtain ⟨rfl, rfl, rfl⟩ := H
  go_enter Try.func28, Try.ntmps28
  go_wp2_with (first | ((with_reducible refine gate_dst (N := 2) rfl ?_); refine box_event ?hg (N := 2) ?hd (cs := #[.slice A0_0 l0_0.length c0_0, .slice A0_1 l0_1.length c0_1]) (t := 48) ?hr ?_; (case hd => rfl); (case hg => rfl); (case hr => first | (go_simp; done) | (go_simp; rfl)); intro gb603 hg w33 hbox hb; have n0_ := zm (below_step (zg_0 HB.out) hb); have n1_ := zm (hbox); have n2_ := zm ((by rw [hg]; exact (below_size (zg_0 HB.out)) : w.heap.size ≤ gb603)); have n3_ := zm ((by rw [hg]; exact (below_size (zg_0 HB.out)) : w.heap.size ≤ gb603)); clear HB; have HB := n0_; have Za := n1_; have Zk := n2_; have Zc := n3_; clear n0_ n1_ n2_ n3_; clear hb hbox hg) | ((with_reducible refine gate_dst (N := 4) rfl ?_); refine box_event ?hg (N := 4) ?hd (cs := #[.slice none 0 0, .slice none 0 0]) (t := 48) ?hr ?_; (case hd => rfl); (case hg => rfl); (case hr => first | (go_simp; done) | (go_simp; rfl)); intro gb604 hg w34 hbox hb; have n0_ := zm (blk_below (g := gb603) (o := .cells #[.slice A0_0 l0_0.length c0_0, .slice A0_1 l0_1.length c0_1] 48 (0, 0)) (zg_2 Za.out) hb); have n1_ := zm (below_step (zg_1 HB.out Zc.out) hb); have n2_ := zm (hbox); have n3_ := zm ((by rw [hg]; exact (below_size (zg_1 HB.out Zc.out)) : w.heap.size ≤ gb604)); have n4_ := zm ((by rw [hg]; exact (below_size (zg_1 HB.out Zc.out)) : w.heap.size ≤ gb604)); have n5_ := zm ((by rw [hg]; exact Nat.ne_of_lt (blk_lt (g := gb603) (o := .cells #[.slice A0_0 l0_0.length c0_0, .slice A0_1 l0_1.length c0_1] 48 (0, 0)) (zg_2 Za.out)) : gb603 ≠ gb604)); have n6_ := zm ((by rw [hg]; exact Nat.ne_of_gt (blk_lt (g := gb603) (o := .cells #[.slice A0_0 l0_0.length c0_0, .slice A0_1 l0_1.length c0_1] 48 (0, 0)) (zg_2 Za.out)) : gb604 ≠ gb603)); clear Za; clear HB; have Za := n0_; have HB := n1_; have Zb := n2_; have Zl := n3_; have Zd := n4_; have Ze := n5_; have Zf := n6_; clear n0_ n1_ n2_ n3_ n4_ n5_ n6_; clear hb hbox hg; have hnb35 := Ze.out; have hnc35 := Zf.out; have hcz36_0 : w34.cell? ⟨gb603, 0, none⟩ = some (.slice A0_0 l0_0.length c0_0) := (blk_cell Za.out 0).trans rfl; have hcz36_1 : w34.cell? ⟨gb603, 1, none⟩ = some (.slice A0_1 l0_1.length c0_1) := (blk_cell Za.out 1).trans rfl; have hfz36_0 := blk_frozen Za.out 0; have hfz36_1 := blk_frozen Za.out 1) | ((with_reducible refine gate_callee (f := 74) rfl ?_); refine goesL_ (some 9) rfl rfl Try.func74 (by kernel_rfl) rfl #[.agg #[.slice A0_0 l0_0.length c0_0, .slice A0_1 l0_1.length c0_1], .int .i64 a1] rfl zq ?_; (with_reducible refine (impl_Disk_codes.calls _ _ l0_0 _ _ l0_1 a1 t605 _ ?side1 ?side2 ?side3 ?side4 A3.out).mono ?_); (case side1 => repeat (first | exact (Kd.C_below Zg.out HB.out) | (with_reducible refine Kd.C_alloc ?_ _) | (with_reducible refine Kd.C_drewN ?_ _) | (with_reducible refine Kd.C_drew ?_))); (case side2 => exact Zh.out); (case side3 => repeat (first | exact (Kd.C_below Zi.out HB.out) | (with_reducible refine Kd.C_alloc ?_ _) | (with_reducible refine Kd.C_drewN ?_ _) | (with_reducible refine Kd.C_drew ?_))); (case side4 => exact Zj.out); rintro e w37 ⟨rfl, hb⟩; refine ⟨_, rfl, ?_⟩; have n0_ := zm (blk_below (g := gb603) (o := .cells #[.slice A0_0 l0_0.length c0_0, .slice A0_1 l0_1.length c0_1] 48 (0, 0)) (zg_2 Za.out) hb); have n1_ := zm (blk_below (g := gb604) (o := .cells #[.slice none 0 0, .slice none 0 0] 48 (0, 0)) (zg_2 Zb.out) hb); have n2_ := zm (below_step (zg_3 HB.out Zc.out Zd.out) hb); clear Za; clear Zb; clear HB; have Za := n0_; have Zb := n1_; have HB := n2_; clear n0_ n1_ n2_; (try clear hb); (try clear hb2); (try clear hk); (try clear hi); have hcz38_0 : w37.cell? ⟨gb604, 0, none⟩ = some (.slice none 0 0) := (blk_cell Zb.out 0).trans rfl; have hcz38_1 : w37.cell? ⟨gb604, 1, none⟩ = some (.slice none 0 0) := (blk_cell Zb.out 1).trans rfl; have hfz38_0 := blk_frozen Zb.out 0; have hfz38_1 := blk_frozen Zb.out 1))
  refine bodyPost_ret (results_ct rfl _ _ gb604 48 #[.slice none 0 0, .slice none 0 0] (0, 0) _ rfl (by (with_reducible repeat (first | refine blk_drewN ?_ _ | refine blk_drew ?_ | refine blk_alloc ?_ _)); refine blk_put (cs := #[.slice none 0 0, .slice none 0 0]) ?_ 1 _ rfl; (with_reducible repeat (first | refine blk_drewN ?_ _ | refine blk_drew ?_ | refine blk_alloc ?_ _)); refine blk_put (cs := #[.slice none 0 0, .slice none 0 0]) ?_ 0 _ rfl; (with_reducible repeat (first | refine blk_drewN ?_ _ | refine blk_drew ?_ | refine blk_alloc ?_ _)); exact Zb.out) Try.underlying48 rfl (by kernel_rfl)) rfl ?_
  exact ⟨_, _, by first | rfl | (simp [errW_none, errW_some] <;> rfl) | (simp [*, errW_none, errW_some] <;> rfl), by first | exact Kd.R_nil _ _ _ _ _ | exact Kd.N_nil _ _ _ _ _ | exact Kd.V_nil _ _ _ _ _ | exact Kd.Q_nil _ _ _ _ _ | exact Kd.S_nil _ _ _ _ _, by first | exact Kd.R_nil _ _ _ _ _ | exact Kd.N_nil _ _ _ _ _ | exact Kd.V_nil _ _ _ _ _ | exact Kd.Q_nil _ _ _ _ _ | exact Kd.S_nil _ _ _ _ _, zg_3 HB.out Zc.out Zd.out⟩
end
/-! ### impl_LoseHost: function 25 -/
def impl_LoseHost.f (l0_0 : List ByteArray) (l0_1 : List (S92)) (a1 : Int) (a2 : Int) : Option (List ByteArray × (List (S92)) × Int) := (impl_DiskOK.f l0_0 l0_1).bind fun t556 => ((impl_isHost.f a1).bind fun t557 => ((impl_within.f a2 0 200).bind fun t558 => ((impl_first.f (([Any.b (!t556), Any.n 1, Any.b (!t557), Any.n 4, Any.b (!t558), Any.n 4] : List Any))).bind fun t562 => (if t562 = 0 then ((impl_Disk_settle.f l0_0 l0_1 a1 a2 true).bind fun bt563 => (some (bt563.1, bt563.2, 0))) else (some (([] : List ByteArray), ([] : List (S92)), t562))))))
set_option maxHeartbeats 8000000 in
set_option maxRecDepth 100000 in
theorem impl_LoseHost.calls (A0_0 : Option Addr) (c0_0 : Nat) (l0_0 : List ByteArray) (A0_1 : Option Addr) (c0_1 : Nat) (l0_1 : List (S92)) (a1 : Int) (a2 : Int) (r1 : List ByteArray) (r2 : List (S92)) (r3 : Int) (w : World) (hr0_0 : Kd.C Kd.string w A0_0 l0_0.length l0_0) (hc0_0 : l0_0.length ≤ c0_0) (hr0_1 : Kd.C k92 w A0_1 l0_1.length l0_1) (hc0_1 : l0_1.length ≤ c0_1) (h : impl_LoseHost.f l0_0 l0_1 a1 a2 = some (r1, r2, r3)) :
    Calls Try.prog 25 #[.agg #[.slice A0_0 l0_0.length c0_0, .slice A0_1 l0_1.length c0_1], .int .i64 a1, .int .i64 a2] w fun e w' => ∃ v0_ v1_ : Value, e = .returned (.tuple #[.agg #[v0_, v1_], .int .i64 r3]) ∧ Kd.R Kd.string 9 w' w.heap.size (fun _ => True) v0_ r1 ∧ Kd.R k92 92 w' w.heap.size (fun _ => True) v1_ r2 ∧ Below w.heap.size w w' := by
 have hu48 := Try.underlying48
 have Zh := zm hr0_0
 have Zi := zm hc0_0
 clear hr0_0 hc0_0
 have Zj := zm hr0_1
 have Zk := zm hc0_1
 clear hr0_1 hc0_1
 have HB := zm (Below.refl w.heap.size w)
 have H : ((impl_DiskOK.f l0_0 l0_1).bind fun t556 => ((impl_isHost.f a1).bind fun t557 => ((impl_within.f a2 0 200).bind fun t558 => ((impl_first.f (([Any.b (!t556), Any.n 1, Any.b (!t557), Any.n 4, Any.b (!t558), Any.n 4] : List Any))).bind fun t562 => (if t562 = 0 then ((impl_Disk_settle.f l0_0 l0_1 a1 a2 true).bind fun bt563 => (some (bt563.1, bt563.2, 0))) else (some (([] : List ByteArray), ([] : List (S92)), t562))))))) = some (r1, r2, r3) := h
 clear h
 replace H := Option.bind_eq_some_iff.mp H
 obtain ⟨t556, A40, H⟩ := H
 replace H : ((impl_isHost.f a1).bind fun t557 => ((impl_within.f a2 0 200).bind fun t558 => ((impl_first.f (([Any.b (!t556), Any.n 1, Any.b (!t557), Any.n 4, Any.b (!t558), Any.n 4] : List Any))).bind fun t562 => (if t562 = 0 then ((impl_Disk_settle.f l0_0 l0_1 a1 a2 true).bind fun bt563 => (some (bt563.1, bt563.2, 0))) else (some (([] : List ByteArray), ([] : List (S92)), t562)))))) = some (r1, r2, r3) := H
 have A4 := zm A40
 clear A40
 replace H := Option.bind_eq_some_iff.mp H
 obtain ⟨t557, A50, H⟩ := H
 replace H : ((impl_within.f a2 0 200).bind fun t558 => ((impl_first.f (([Any.b (!t556), Any.n 1, Any.b (!t557), Any.n 4, Any.b (!t558), Any.n 4] : List Any))).bind fun t562 => (if t562 = 0 then ((impl_Disk_settle.f l0_0 l0_1 a1 a2 true).bind fun bt563 => (some (bt563.1, bt563.2, 0))) else (some (([] : List ByteArray), ([] : List (S92)), t562))))) = some (r1, r2, r3) := H
 have A5 := zm A50
 clear A50
 replace H := Option.bind_eq_some_iff.mp H
 obtain ⟨t558, A60, H⟩ := H
 replace H : ((impl_first.f (([Any.b (!t556), Any.n 1, Any.b (!t557), Any.n 4, Any.b (!t558), Any.n 4] : List Any))).bind fun t562 => (if t562 = 0 then ((impl_Disk_settle.f l0_0 l0_1 a1 a2 true).bind fun bt563 => (some (bt563.1, bt563.2, 0))) else (some (([] : List ByteArray), ([] : List (S92)), t562)))) = some (r1, r2, r3) := H
 have A6 := zm A60
 clear A60
 obtain ⟨y559, hy559⟩ : ∃ y_ : List Any, y_ = (([Any.b (!t556), Any.n 1, Any.b (!t557), Any.n 4, Any.b (!t558), Any.n 4] : List Any)) := ⟨_, rfl⟩
 replace H : ((impl_first.f y559).bind fun t562 => (if t562 = 0 then ((impl_Disk_settle.f l0_0 l0_1 a1 a2 true).bind fun bt563 => (some (bt563.1, bt563.2, 0))) else (some (([] : List ByteArray), ([] : List (S92)), t562)))) = some (r1, r2, r3) := by first | (rw [hy559]; with_reducible exact H) | (have H2_ := (Option.bind_some _ _).symm.trans H; rw [hy559]; with_reducible exact H2_) | (have H2_ := (Option.bind_some _ _).symm.trans H; with_reducible exact H2_) | with_reducible exact H | (rw [hy559]; exact H) | exact H
 have Ny559 := zm hy559
 clear hy559
 replace H := Option.bind_eq_some_iff.mp H
 obtain ⟨t562, A70, H⟩ := H
 replace H : (if t562 = 0 then ((impl_Disk_settle.f l0_0 l0_1 a1 a2 true).bind fun bt563 => (some (bt563.1, bt563.2, 0))) else (some (([] : List ByteArray), ([] : List (S92)), t562))) = some (r1, r2, r3) := H
 have A7 := zm A70
 clear A70
 by_cases c8 : t562 = 0
 ·rw [if_pos c8] at H
  have c8b0 : (t562 == 0) = true := beq_iff_eq.mpr c8
  have c8b1 : (t562 != 0) = false := bne_eq_false_iff_eq.mpr c8
  clear c8
  replace H := Option.bind_eq_some_iff.mp H
  obtain ⟨⟨t563, t566⟩, A90, H⟩ := H
  replace H : (some (t563, t566, 0)) = some (r1, r2, r3) := H
  have A9 := zm A90
  clear A90
  simp only [Option.some.injEq, Prod.mk.injEq] at H
  obtain ⟨rfl, rfl, rfl⟩ := H
  go_enter Try.func25, Try.ntmps25
  go_wp2_with (first | ((with_reducible refine gate_dst (N := 3) rfl ?_); refine box_event ?hg (N := 3) ?hd (cs := #[.slice A0_0 l0_0.length c0_0, .slice A0_1 l0_1.length c0_1]) (t := 48) ?hr ?_; (case hd => rfl); (case hg => rfl); (case hr => first | (go_simp; done) | (go_simp; rfl)); intro gb554 hg w10 hbox hb; have n0_ := zm (below_step (zg_0 HB.out) hb); have n1_ := zm (hbox); have n2_ := zm ((by rw [hg]; exact (below_size (zg_0 HB.out)) : w.heap.size ≤ gb554)); have n3_ := zm ((by rw [hg]; exact (below_size (zg_0 HB.out)) : w.heap.size ≤ gb554)); clear HB; have HB := n0_; have Za := n1_; have Zn := n2_; have Zc := n3_; clear n0_ n1_ n2_ n3_; clear hb hbox hg) | ((with_reducible refine gate_dst (N := 6) rfl ?_); refine box_event ?hg (N := 6) ?hd (cs := #[.slice none 0 0, .slice none 0 0]) (t := 48) ?hr ?_; (case hd => rfl); (case hg => rfl); (case hr => first | (go_simp; done) | (go_simp; rfl)); intro gb555 hg w11 hbox hb; have n0_ := zm (blk_below (g := gb554) (o := .cells #[.slice A0_0 l0_0.length c0_0, .slice A0_1 l0_1.length c0_1] 48 (0, 0)) (zg_2 Za.out) hb); have n1_ := zm (below_step (zg_1 HB.out Zc.out) hb); have n2_ := zm (hbox); have n3_ := zm ((by rw [hg]; exact (below_size (zg_1 HB.out Zc.out)) : w.heap.size ≤ gb555)); have n4_ := zm ((by rw [hg]; exact (below_size (zg_1 HB.out Zc.out)) : w.heap.size ≤ gb555)); have n5_ := zm ((by rw [hg]; exact Nat.ne_of_lt (blk_lt (g := gb554) (o := .cells #[.slice A0_0 l0_0.length c0_0, .slice A0_1 l0_1.length c0_1] 48 (0, 0)) (zg_2 Za.out)) : gb554 ≠ gb555)); have n6_ := zm ((by rw [hg]; exact Nat.ne_of_gt (blk_lt (g := gb554) (o := .cells #[.slice A0_0 l0_0.length c0_0, .slice A0_1 l0_1.length c0_1] 48 (0, 0)) (zg_2 Za.out)) : gb555 ≠ gb554)); clear Za; clear HB; have Za := n0_; have HB := n1_; have Zb := n2_; have Zo := n3_; have Zd := n4_; have Zf := n5_; have Zg := n6_; clear n0_ n1_ n2_ n3_ n4_ n5_ n6_; clear hb hbox hg; have hnb12 := Zf.out; have hnc12 := Zg.out; have hcz13_0 : w11.cell? ⟨gb554, 0, none⟩ = some (.slice A0_0 l0_0.length c0_0) := (blk_cell Za.out 0).trans rfl; have hcz13_1 : w11.cell? ⟨gb554, 1, none⟩ = some (.slice A0_1 l0_1.length c0_1) := (blk_cell Za.out 1).trans rfl; have hfz13_0 := blk_frozen Za.out 0; have hfz13_1 := blk_frozen Za.out 1) | ((with_reducible refine gate_callee (f := 42) rfl ?_); refine goesL_ (some 10) rfl rfl Try.func42 (by kernel_rfl) rfl #[.agg #[.slice A0_0 l0_0.length c0_0, .slice A0_1 l0_1.length c0_1]] rfl zq ?_; (with_reducible refine (impl_DiskOK.calls _ _ l0_0 _ _ l0_1 t556 _ ?side1 ?side2 ?side3 ?side4 A4.out).mono ?_); (case side1 => repeat (first | exact (Kd.C_below Zh.out HB.out) | (with_reducible refine Kd.C_alloc ?_ _) | (with_reducible refine Kd.C_drewN ?_ _) | (with_reducible refine Kd.C_drew ?_))); (case side2 => exact Zi.out); (case side3 => repeat (first | exact (Kd.C_below Zj.out HB.out) | (with_reducible refine Kd.C_alloc ?_ _) | (with_reducible refine Kd.C_drewN ?_ _) | (with_reducible refine Kd.C_drew ?_))); (case side4 => exact Zk.out); rintro e w14 ⟨rfl, hb⟩; refine ⟨_, rfl, ?_⟩; have n0_ := zm (blk_below (g := gb554) (o := .cells #[.slice A0_0 l0_0.length c0_0, .slice A0_1 l0_1.length c0_1] 48 (0, 0)) (zg_2 Za.out) hb); have n1_ := zm (blk_below (g := gb555) (o := .cells #[.slice none 0 0, .slice none 0 0] 48 (0, 0)) (zg_2 Zb.out) hb); have n2_ := zm (below_step (zg_3 HB.out Zc.out Zd.out) hb); clear Za; clear Zb; clear HB; have Za := n0_; have Zb := n1_; have HB := n2_; clear n0_ n1_ n2_; (try clear hb); (try clear hb2); (try clear hk); (try clear hi)) | ((with_reducible refine gate_callee (f := 56) rfl ?_); refine goesL_ (some 15) rfl rfl Try.func56 (by kernel_rfl) rfl #[.int .i64 a1] rfl zq ?_; (with_reducible refine (impl_isHost.calls a1 t557 _ A5.out).mono ?_); rintro e w' ⟨rfl, ⟨nd, rfl⟩⟩; refine ⟨_, rfl, ?_⟩; (try (rw [drewN_self w14]; generalize hq_ : World.drewN w14 _ = w14; have n0_ : Aside0 (w14.heap[gb554]? = some (.cells #[.slice A0_0 l0_0.length c0_0, .slice A0_1 l0_1.length c0_1] 48 (0, 0))) := ⟨by rw [← hq_]; exact (zg_2 Za.out)⟩; have n1_ : Aside0 (w14.heap[gb555]? = some (.cells #[.slice none 0 0, .slice none 0 0] 48 (0, 0))) := ⟨by rw [← hq_]; exact (zg_2 Zb.out)⟩; have n2_ : Aside0 (Below w.heap.size w w14) := ⟨by rw [← hq_]; exact (zg_3 HB.out Zc.out Zd.out)⟩; clear Za Zb HB hq_; have Za := n0_; have Zb := n1_; have HB := n2_; clear n0_ n1_ n2_))) | ((with_reducible refine gate_callee (f := 65) rfl ?_); refine goesL_ (some 20) rfl rfl Try.func65 (by kernel_rfl) rfl #[.int .i64 a2, .int .i64 0, .int .i64 200] rfl zq ?_; (with_reducible refine (impl_within.calls a2 0 200 t558 _ A6.out).mono ?_); rintro e w' ⟨rfl, ⟨nd, rfl⟩⟩; refine ⟨_, rfl, ?_⟩; (try (rw [drewN_self w14]; generalize hq_ : World.drewN w14 _ = w14; have n0_ : Aside0 (w14.heap[gb554]? = some (.cells #[.slice A0_0 l0_0.length c0_0, .slice A0_1 l0_1.length c0_1] 48 (0, 0))) := ⟨by rw [← hq_]; exact (zg_2 Za.out)⟩; have n1_ : Aside0 (w14.heap[gb555]? = some (.cells #[.slice none 0 0, .slice none 0 0] 48 (0, 0))) := ⟨by rw [← hq_]; exact (zg_2 Zb.out)⟩; have n2_ : Aside0 (Below w.heap.size w w14) := ⟨by rw [← hq_]; exact (zg_3 HB.out Zc.out Zd.out)⟩; clear Za Zb HB hq_; have Za := n0_; have Zb := n1_; have HB := n2_; clear n0_ n1_ n2_))) | ((with_reducible refine gate_dst (N := 24) rfl ?_); refine Kd.R_lit kAny _ 20 ?hg (N := 24) ?hd (xs := ([Any.b (!t556), Any.n 1, Any.b (!t557), Any.n 4, Any.b (!t558), Any.n 4] : List Any)) (inner := [.iface 4 (.bool (!t556)), .iface 3 (.int .i64 1), .iface 4 (.bool (!t557)), .iface 3 (.int .i64 4), .iface 4 (.bool (!t558)), .iface 3 (.int .i64 4)]) (ok := fun _ => True) (okp := fun _ => True) ?hr ?hp (fun _ hk => hk) trivial (Below.refl _ _) (Nat.le_refl _) (by simp) ?_; (case hd => rfl); (case hg => rfl); (case hr => first | (go_simp; done) | (go_simp; rfl)); (case hp => exact (Reps.one (show Kd.M kAny _ _ _ (Any.b (!t556)) [.iface 4 (.bool (!t556))] from rfl) (Reps.one (show Kd.M kAny _ _ _ (Any.n 1) [.iface 3 (.int .i64 1)] from rfl) (Reps.one (show Kd.M kAny _ _ _ (Any.b (!t557)) [.iface 4 (.bool (!t557))] from rfl) (Reps.one (show Kd.M kAny _ _ _ (Any.n 4) [.iface 3 (.int .i64 4)] from rfl) (Reps.one (show Kd.M kAny _ _ _ (Any.b (!t558)) [.iface 4 (.bool (!t558))] from rfl) (Reps.one (show Kd.M kAny _ _ _ (Any.n 4) [.iface 3 (.int .i64 4)] from rfl) (Reps.none _ _)))))))); intro v560 w15 ho16 hb hg_ hnew_; clear hg_ hnew_; (first | rw [← Ny559.out] at ho16 | (simp only [Int.reduceToNat] at ho16; rw [← Ny559.out] at ho16)); have n0_ := zm (Kd.R_lower ho16 (below_size (zg_3 HB.out Zc.out Zd.out))); have n1_ := zm (blk_below (g := gb554) (o := .cells #[.slice A0_0 l0_0.length c0_0, .slice A0_1 l0_1.length c0_1] 48 (0, 0)) (zg_2 Za.out) hb); have n2_ := zm (blk_below (g := gb555) (o := .cells #[.slice none 0 0, .slice none 0 0] 48 (0, 0)) (zg_2 Zb.out) hb); have n3_ := zm (below_step (zg_3 HB.out Zc.out Zd.out) hb); clear Za; clear Zb; clear HB; have Ze := n0_; have Za := n1_; have Zb := n2_; have HB := n3_; clear n0_ n1_ n2_ n3_; clear hb ho16; obtain ⟨Ao17, co17, eo17⟩ := Kd.R_slice Ze.out; subst eo17) | ((with_reducible refine gate_callee (f := 54) rfl ?_); refine goesL_ (some 25) rfl rfl Try.func54 (by kernel_rfl) rfl #[.slice Ao17 y559.length co17] rfl zq ?_; (with_reducible refine (impl_first.calls _ _ y559 t562 _ ?side1 ?side2 A7.out).mono ?_); (case side1 => repeat (first | exact (Kd.R_reads' Ze.out).2.2 | (with_reducible refine Kd.C_alloc ?_ _) | (with_reducible refine Kd.C_drewN ?_ _) | (with_reducible refine Kd.C_drew ?_))); (case side2 => exact (Kd.R_reads' Ze.out).2.1); rintro e w' ⟨rfl, ⟨nd, rfl⟩⟩; refine ⟨_, rfl, ?_⟩; (try (rw [drewN_self w15]; generalize hq_ : World.drewN w15 _ = w15; have n0_ : Aside0 (Kd.R kAny 20 w15 w.heap.size (fun _ => True) (.slice Ao17 y559.length co17) y559) := ⟨by rw [← hq_]; exact (zg_4 Ze.out)⟩; have n1_ : Aside0 (w15.heap[gb554]? = some (.cells #[.slice A0_0 l0_0.length c0_0, .slice A0_1 l0_1.length c0_1] 48 (0, 0))) := ⟨by rw [← hq_]; exact (zg_2 Za.out)⟩; have n2_ : Aside0 (w15.heap[gb555]? = some (.cells #[.slice none 0 0, .slice none 0 0] 48 (0, 0))) := ⟨by rw [← hq_]; exact (zg_2 Zb.out)⟩; have n3_ : Aside0 (Below w.heap.size w w15) := ⟨by rw [← hq_]; exact (zg_3 HB.out Zc.out Zd.out)⟩; clear Ze Za Zb HB hq_; have Ze := n0_; have Za := n1_; have Zb := n2_; have HB := n3_; clear n0_ n1_ n2_ n3_)); have hcz18_0 : w15.cell? ⟨gb554, 0, none⟩ = some (.slice A0_0 l0_0.length c0_0) := (blk_cell Za.out 0).trans rfl; have hcz18_1 : w15.cell? ⟨gb554, 1, none⟩ = some (.slice A0_1 l0_1.length c0_1) := (blk_cell Za.out 1).trans rfl; have hfz18_0 := blk_frozen Za.out 0; have hfz18_1 := blk_frozen Za.out 1) | ((with_reducible refine gate_callee (f := 70) rfl ?_); refine goesL_ (some 33) rfl rfl Try.func70 (by kernel_rfl) rfl #[.agg #[.slice A0_0 l0_0.length c0_0, .slice A0_1 l0_1.length c0_1], .int .i64 a1, .int .i64 a2, .bool true] rfl zq ?_; (with_reducible refine (impl_Disk_settle.calls _ _ l0_0 _ _ l0_1 a1 a2 true t563 t566 _ ?side1 ?side2 ?side3 ?side4 A9.out).mono ?_); (case side1 => repeat (first | exact (Kd.C_below Zh.out HB.out) | (with_reducible refine Kd.C_alloc ?_ _) | (with_reducible refine Kd.C_drewN ?_ _) | (with_reducible refine Kd.C_drew ?_))); (case side2 => exact Zi.out); (case side3 => repeat (first | exact (Kd.C_below Zj.out HB.out) | (with_reducible refine Kd.C_alloc ?_ _) | (with_reducible refine Kd.C_drewN ?_ _) | (with_reducible refine Kd.C_drew ?_))); (case side4 => exact Zk.out); rintro e w19 ⟨v564, v567, rfl, ho0, ho1, hb⟩; refine ⟨_, rfl, ?_⟩; have n0_ := zm (Kd.R_below (zg_4 Ze.out) hb); have n1_ := zm (Kd.R_lower ho0 (below_size (zg_3 HB.out Zc.out Zd.out))); have n2_ := zm (Kd.R_lower ho1 (below_size (zg_3 HB.out Zc.out Zd.out))); have n3_ := zm (blk_below (g := gb554) (o := .cells #[.slice A0_0 l0_0.length c0_0, .slice A0_1 l0_1.length c0_1] 48 (0, 0)) (zg_2 Za.out) hb); have n4_ := zm (blk_below (g := gb555) (o := .cells #[.slice none 0 0, .slice none 0 0] 48 (0, 0)) (zg_2 Zb.out) hb); have n5_ := zm (below_step (zg_3 HB.out Zc.out Zd.out) hb); clear Ze; clear Za; clear Zb; clear HB; have Ze := n0_; have Zl := n1_; have Zm := n2_; have Za := n3_; have Zb := n4_; have HB := n5_; clear n0_ n1_ n2_ n3_ n4_ n5_; (try clear hb); (try clear hb2); (try clear hk); (try clear hi); (try clear ho0); (try clear ho1); obtain ⟨Ao20, co20, eo20⟩ := Kd.R_slice Zl.out; subst eo20; have hcz21_0 : w19.cell? ⟨gb555, 0, none⟩ = some (.slice none 0 0) := (blk_cell Zb.out 0).trans rfl; have hcz21_1 : w19.cell? ⟨gb555, 1, none⟩ = some (.slice none 0 0) := (blk_cell Zb.out 1).trans rfl; have hfz21_0 := blk_frozen Zb.out 0; have hfz21_1 := blk_frozen Zb.out 1; obtain ⟨Ao22, co22, eo22⟩ := Kd.R_slice Zm.out; subst eo22))
  refine bodyPost_ret (results_ct rfl _ _ gb555 48 #[.slice Ao20 t563.length co20, .slice Ao22 t566.length co22] (0, 0) _ rfl (by (with_reducible repeat (first | refine blk_drewN ?_ _ | refine blk_drew ?_ | refine blk_alloc ?_ _)); refine blk_put (cs := #[.slice Ao20 t563.length co20, .slice none 0 0]) ?_ 1 _ rfl; (with_reducible repeat (first | refine blk_drewN ?_ _ | refine blk_drew ?_ | refine blk_alloc ?_ _)); refine blk_put (cs := #[.slice none 0 0, .slice none 0 0]) ?_ 0 _ rfl; (with_reducible repeat (first | refine blk_drewN ?_ _ | refine blk_drew ?_ | refine blk_alloc ?_ _)); exact Zb.out) Try.underlying48 rfl (by kernel_rfl)) rfl ?_
  exact ⟨_, _, by first | rfl | (simp [errW_none, errW_some] <;> rfl) | (simp [*, errW_none, errW_some] <;> rfl), by (with_reducible repeat (first | apply Kd.R_alloc | apply Kd.R_drewN | apply Kd.R_drew)); exact Kd.R_mono (Kd.R_far (p := ⟨gb555, 1, none⟩) (Kd.R_far (p := ⟨gb555, 0, none⟩) (Kd.R_types Zl.out Zb.out (by decide)) (fun _ hk => hk.2) (.slice Ao20 t563.length co20)) (fun _ hk => hk.2) (.slice Ao22 t566.length co22)) (fun _ hk => trivial), by (with_reducible repeat (first | apply Kd.R_alloc | apply Kd.R_drewN | apply Kd.R_drew)); exact Kd.R_mono (Kd.R_far (p := ⟨gb555, 1, none⟩) (Kd.R_far (p := ⟨gb555, 0, none⟩) (Kd.R_types Zm.out Zb.out (by decide)) (fun _ hk => hk.2) (.slice Ao20 t563.length co20)) (fun _ hk => hk.2) (.slice Ao22 t566.length co22)) (fun _ hk => trivial), zg_3 HB.out Zc.out Zd.out⟩
 ·rw [if_neg c8] at H
  have c8b0 : (t562 == 0) = false := beq_eq_false_iff_ne.mpr c8
  have c8b1 : (t562 != 0) = true := bne_iff_ne.mpr c8
  simp only [Option.some.injEq, Prod.mk.injEq] at H
  obtain ⟨rfl, rfl, rfl⟩ := H
  go_enter Try.func25, Try.ntmps25
  go_wp2_with (first | ((with_reducible refine gate_dst (N := 3) rfl ?_); refine box_event ?hg (N := 3) ?hd (cs := #[.slice A0_0 l0_0.length c0_0, .slice A0_1 l0_1.length c0_1]) (t := 48) ?hr ?_; (case hd => rfl); (case hg => rfl); (case hr => first | (go_simp; done) | (go_simp; rfl)); intro gb554 hg w23 hbox hb; have n0_ := zm (below_step (zg_0 HB.out) hb); have n1_ := zm (hbox); have n2_ := zm ((by rw [hg]; exact (below_size (zg_0 HB.out)) : w.heap.size ≤ gb554)); have n3_ := zm ((by rw [hg]; exact (below_size (zg_0 HB.out)) : w.heap.size ≤ gb554)); clear HB; have HB := n0_; have Za := n1_; have Zn := n2_; have Zc := n3_; clear n0_ n1_ n2_ n3_; clear hb hbox hg) | ((with_reducible refine gate_dst (N := 6) rfl ?_); refine box_event ?hg (N := 6) ?hd (cs := #[.slice none 0 0, .slice none 0 0]) (t := 48) ?hr ?_; (case hd => rfl); (case hg => rfl); (case hr => first | (go_simp; done) | (go_simp; rfl)); intro gb555 hg w24 hbox hb; have n0_ := zm (blk_below (g := gb554) (o := .cells #[.slice A0_0 l0_0.length c0_0, .slice A0_1 l0_1.length c0_1] 48 (0, 0)) (zg_2 Za.out) hb); have n1_ := zm (below_step (zg_1 HB.out Zc.out) hb); have n2_ := zm (hbox); have n3_ := zm ((by rw [hg]; exact (below_size (zg_1 HB.out Zc.out)) : w.heap.size ≤ gb555)); have n4_ := zm ((by rw [hg]; exact (below_size (zg_1 HB.out Zc.out)) : w.heap.size ≤ gb555)); have n5_ := zm ((by rw [hg]; exact Nat.ne_of_lt (blk_lt (g := gb554) (o := .cells #[.slice A0_0 l0_0.length c0_0, .slice A0_1 l0_1.length c0_1] 48 (0, 0)) (zg_2 Za.out)) : gb554 ≠ gb555)); have n6_ := zm ((by rw [hg]; exact Nat.ne_of_gt (blk_lt (g := gb554) (o := .cells #[.slice A0_0 l0_0.length c0_0, .slice A0_1 l0_1.length c0_1] 48 (0, 0)) (zg_2 Za.out)) : gb555 ≠ gb554)); clear Za; clear HB; have Za := n0_; have HB := n1_; have Zb := n2_; have Zo := n3_; have Zd := n4_; have Zf := n5_; have Zg := n6_; clear n0_ n1_ n2_ n3_ n4_ n5_ n6_; clear hb hbox hg; have hnb25 := Zf.out; have hnc25 := Zg.out; have hcz26_0 : w24.cell? ⟨gb554, 0, none⟩ = some (.slice A0_0 l0_0.length c0_0) := (blk_cell Za.out 0).trans rfl; have hcz26_1 : w24.cell? ⟨gb554, 1, none⟩ = some (.slice A0_1 l0_1.length c0_1) := (blk_cell Za.out 1).trans rfl; have hfz26_0 := blk_frozen Za.out 0; have hfz26_1 := blk_frozen Za.out 1) | ((with_reducible refine gate_callee (f := 42) rfl ?_); refine goesL_ (some 10) rfl rfl Try.func42 (by kernel_rfl) rfl #[.agg #[.slice A0_0 l0_0.length c0_0, .slice A0_1 l0_1.length c0_1]] rfl zq ?_; (with_reducible refine (impl_DiskOK.calls _ _ l0_0 _ _ l0_1 t556 _ ?side1 ?side2 ?side3 ?side4 A4.out).mono ?_); (case side1 => repeat (first | exact (Kd.C_below Zh.out HB.out) | (with_reducible refine Kd.C_alloc ?_ _) | (with_reducible refine Kd.C_drewN ?_ _) | (with_reducible refine Kd.C_drew ?_))); (case side2 => exact Zi.out); (case side3 => repeat (first | exact (Kd.C_below Zj.out HB.out) | (with_reducible refine Kd.C_alloc ?_ _) | (with_reducible refine Kd.C_drewN ?_ _) | (with_reducible refine Kd.C_drew ?_))); (case side4 => exact Zk.out); rintro e w27 ⟨rfl, hb⟩; refine ⟨_, rfl, ?_⟩; have n0_ := zm (blk_below (g := gb554) (o := .cells #[.slice A0_0 l0_0.length c0_0, .slice A0_1 l0_1.length c0_1] 48 (0, 0)) (zg_2 Za.out) hb); have n1_ := zm (blk_below (g := gb555) (o := .cells #[.slice none 0 0, .slice none 0 0] 48 (0, 0)) (zg_2 Zb.out) hb); have n2_ := zm (below_step (zg_3 HB.out Zc.out Zd.out) hb); clear Za; clear Zb; clear HB; have Za := n0_; have Zb := n1_; have HB := n2_; clear n0_ n1_ n2_; (try clear hb); (try clear hb2); (try clear hk); (try clear hi)) | ((with_reducible refine gate_callee (f := 56) rfl ?_); refine goesL_ (some 15) rfl rfl Try.func56 (by kernel_rfl) rfl #[.int .i64 a1] rfl zq ?_; (with_reducible refine (impl_isHost.calls a1 t557 _ A5.out).mono ?_); rintro e w' ⟨rfl, ⟨nd, rfl⟩⟩; refine ⟨_, rfl, ?_⟩; (try (rw [drewN_self w27]; generalize hq_ : World.drewN w27 _ = w27; have n0_ : Aside0 (w27.heap[gb554]? = some (.cells #[.slice A0_0 l0_0.length c0_0, .slice A0_1 l0_1.length c0_1] 48 (0, 0))) := ⟨by rw [← hq_]; exact (zg_2 Za.out)⟩; have n1_ : Aside0 (w27.heap[gb555]? = some (.cells #[.slice none 0 0, .slice none 0 0] 48 (0, 0))) := ⟨by rw [← hq_]; exact (zg_2 Zb.out)⟩; have n2_ : Aside0 (Below w.heap.size w w27) := ⟨by rw [← hq_]; exact (zg_3 HB.out Zc.out Zd.out)⟩; clear Za Zb HB hq_; have Za := n0_; have Zb := n1_; have HB := n2_; clear n0_ n1_ n2_))) | ((with_reducible refine gate_callee (f := 65) rfl ?_); refine goesL_ (some 20) rfl rfl Try.func65 (by kernel_rfl) rfl #[.int .i64 a2, .int .i64 0, .int .i64 200] rfl zq ?_; (with_reducible refine (impl_within.calls a2 0 200 t558 _ A6.out).mono ?_); rintro e w' ⟨rfl, ⟨nd, rfl⟩⟩; refine ⟨_, rfl, ?_⟩; (try (rw [drewN_self w27]; generalize hq_ : World.drewN w27 _ = w27; have n0_ : Aside0 (w27.heap[gb554]? = some (.cells #[.slice A0_0 l0_0.length c0_0, .slice A0_1 l0_1.length c0_1] 48 (0, 0))) := ⟨by rw [← hq_]; exact (zg_2 Za.out)⟩; have n1_ : Aside0 (w27.heap[gb555]? = some (.cells #[.slice none 0 0, .slice none 0 0] 48 (0, 0))) := ⟨by rw [← hq_]; exact (zg_2 Zb.out)⟩; have n2_ : Aside0 (Below w.heap.size w w27) := ⟨by rw [← hq_]; exact (zg_3 HB.out Zc.out Zd.out)⟩; clear Za Zb HB hq_; have Za := n0_; have Zb := n1_; have HB := n2_; clear n0_ n1_ n2_))) | ((with_reducible refine gate_dst (N := 24) rfl ?_); refine Kd.R_lit kAny _ 20 ?hg (N := 24) ?hd (xs := ([Any.b (!t556), Any.n 1, Any.b (!t557), Any.n 4, Any.b (!t558), Any.n 4] : List Any)) (inner := [.iface 4 (.bool (!t556)), .iface 3 (.int .i64 1), .iface 4 (.bool (!t557)), .iface 3 (.int .i64 4), .iface 4 (.bool (!t558)), .iface 3 (.int .i64 4)]) (ok := fun _ => True) (okp := fun _ => True) ?hr ?hp (fun _ hk => hk) trivial (Below.refl _ _) (Nat.le_refl _) (by simp) ?_; (case hd => rfl); (case hg => rfl); (case hr => first | (go_simp; done) | (go_simp; rfl)); (case hp => exact (Reps.one (show Kd.M kAny _ _ _ (Any.b (!t556)) [.iface 4 (.bool (!t556))] from rfl) (Reps.one (show Kd.M kAny _ _ _ (Any.n 1) [.iface 3 (.int .i64 1)] from rfl) (Reps.one (show Kd.M kAny _ _ _ (Any.b (!t557)) [.iface 4 (.bool (!t557))] from rfl) (Reps.one (show Kd.M kAny _ _ _ (Any.n 4) [.iface 3 (.int .i64 4)] from rfl) (Reps.one (show Kd.M kAny _ _ _ (Any.b (!t558)) [.iface 4 (.bool (!t558))] from rfl) (Reps.one (show Kd.M kAny _ _ _ (Any.n 4) [.iface 3 (.int .i64 4)] from rfl) (Reps.none _ _)))))))); intro v560 w28 ho29 hb hg_ hnew_; clear hg_ hnew_; (first | rw [← Ny559.out] at ho29 | (simp only [Int.reduceToNat] at ho29; rw [← Ny559.out] at ho29)); have n0_ := zm (Kd.R_lower ho29 (below_size (zg_3 HB.out Zc.out Zd.out))); have n1_ := zm (blk_below (g := gb554) (o := .cells #[.slice A0_0 l0_0.length c0_0, .slice A0_1 l0_1.length c0_1] 48 (0, 0)) (zg_2 Za.out) hb); have n2_ := zm (blk_below (g := gb555) (o := .cells #[.slice none 0 0, .slice none 0 0] 48 (0, 0)) (zg_2 Zb.out) hb); have n3_ := zm (below_step (zg_3 HB.out Zc.out Zd.out) hb); clear Za; clear Zb; clear HB; have Ze := n0_; have Za := n1_; have Zb := n2_; have HB := n3_; clear n0_ n1_ n2_ n3_; clear hb ho29; obtain ⟨Ao30, co30, eo30⟩ := Kd.R_slice Ze.out; subst eo30) | ((with_reducible refine gate_callee (f := 54) rfl ?_); refine goesL_ (some 25) rfl rfl Try.func54 (by kernel_rfl) rfl #[.slice Ao30 y559.length co30] rfl zq ?_; (with_reducible refine (impl_first.calls _ _ y559 t562 _ ?side1 ?side2 A7.out).mono ?_); (case side1 => repeat (first | exact (Kd.R_reads' Ze.out).2.2 | (with_reducible refine Kd.C_alloc ?_ _) | (with_reducible refine Kd.C_drewN ?_ _) | (with_reducible refine Kd.C_drew ?_))); (case side2 => exact (Kd.R_reads' Ze.out).2.1); rintro e w' ⟨rfl, ⟨nd, rfl⟩⟩; refine ⟨_, rfl, ?_⟩; (try (rw [drewN_self w28]; generalize hq_ : World.drewN w28 _ = w28; have n0_ : Aside0 (Kd.R kAny 20 w28 w.heap.size (fun _ => True) (.slice Ao30 y559.length co30) y559) := ⟨by rw [← hq_]; exact (zg_4 Ze.out)⟩; have n1_ : Aside0 (w28.heap[gb554]? = some (.cells #[.slice A0_0 l0_0.length c0_0, .slice A0_1 l0_1.length c0_1] 48 (0, 0))) := ⟨by rw [← hq_]; exact (zg_2 Za.out)⟩; have n2_ : Aside0 (w28.heap[gb555]? = some (.cells #[.slice none 0 0, .slice none 0 0] 48 (0, 0))) := ⟨by rw [← hq_]; exact (zg_2 Zb.out)⟩; have n3_ : Aside0 (Below w.heap.size w w28) := ⟨by rw [← hq_]; exact (zg_3 HB.out Zc.out Zd.out)⟩; clear Ze Za Zb HB hq_; have Ze := n0_; have Za := n1_; have Zb := n2_; have HB := n3_; clear n0_ n1_ n2_ n3_)); have hcz31_0 : w28.cell? ⟨gb555, 0, none⟩ = some (.slice none 0 0) := (blk_cell Zb.out 0).trans rfl; have hcz31_1 : w28.cell? ⟨gb555, 1, none⟩ = some (.slice none 0 0) := (blk_cell Zb.out 1).trans rfl; have hfz31_0 := blk_frozen Zb.out 0; have hfz31_1 := blk_frozen Zb.out 1))
  refine bodyPost_ret (results_ct rfl _ _ gb555 48 #[.slice none 0 0, .slice none 0 0] (0, 0) _ rfl (by (with_reducible repeat (first | refine blk_drewN ?_ _ | refine blk_drew ?_ | refine blk_alloc ?_ _)); refine blk_put (cs := #[.slice none 0 0, .slice none 0 0]) ?_ 1 _ rfl; (with_reducible repeat (first | refine blk_drewN ?_ _ | refine blk_drew ?_ | refine blk_alloc ?_ _)); refine blk_put (cs := #[.slice none 0 0, .slice none 0 0]) ?_ 0 _ rfl; (with_reducible repeat (first | refine blk_drewN ?_ _ | refine blk_drew ?_ | refine blk_alloc ?_ _)); exact Zb.out) Try.underlying48 rfl (by kernel_rfl)) rfl ?_
  exact ⟨_, _, by first | rfl | (simp [errW_none, errW_some] <;> rfl) | (simp [*, errW_none, errW_some] <;> rfl), by first | exact Kd.R_nil _ _ _ _ _ | exact Kd.N_nil _ _ _ _ _ | exact Kd.V_nil _ _ _ _ _ | exact Kd.Q_nil _ _ _ _ _ | exact Kd.S_nil _ _ _ _ _, by first | exact Kd.R_nil _ _ _ _ _ | exact Kd.N_nil _ _ _ _ _ | exact Kd.V_nil _ _ _ _ _ | exact Kd.Q_nil _ _ _ _ _ | exact Kd.S_nil _ _ _ _ _, zg_3 HB.out Zc.out Zd.out⟩
section
attribute [local go_sem high] eqA92
/-! ### impl_PendingOf: function 27 -/
def impl_PendingOf.f (k : Nat) (l0_0 : List ByteArray) (l0_1 : List (S92)) (a1 : Int) : Option (Int × Int) := (impl_Disk_codes.f l0_0 l0_1 a1).bind fun t601 => (if t601 = 0 then ((impl_Disk_pending.f k l0_0 l0_1 a1).bind fun t602 => (some (t602, 0))) else (some (0, t601)))
theorem impl_PendingOf.mono : ∀ a0 a1 a2 k, LeO (impl_PendingOf.f k a0 a1 a2) (impl_PendingOf.f (k + 1) a0 a1 a2) := by
  intro a0 a1 a2 k
  unfold impl_PendingOf.f
  repeat' first
      | (with_reducible exact impl_Disk_pending.mono _ _ _ _)
      | (with_reducible exact LeO.refl _)
      | (with_reducible exact LeO.none _)
      | (with_reducible refine LeO.ite ?_ ?_)
      | (with_reducible refine LeO.bind ?_ (fun _ => ?_))
      | exact impl_Disk_pending.mono _ _ _ _
      | exact LeO.none _
      | refine LeO.ite ?_ ?_
      | refine LeO.bind ?_ (fun _ => ?_)
set_option maxHeartbeats 8000000 in
set_option maxRecDepth 100000 in
theorem impl_PendingOf.calls (k : Nat) (A0_0 : Option Addr) (c0_0 : Nat) (l0_0 : List ByteArray) (A0_1 : Option Addr) (c0_1 : Nat) (l0_1 : List (S92)) (a1 : Int) (r1 : Int) (r2 : Int) (w : World) (hr0_0 : Kd.C Kd.string w A0_0 l0_0.length l0_0) (hc0_0 : l0_0.length ≤ c0_0) (hr0_1 : Kd.C k92 w A0_1 l0_1.length l0_1) (hc0_1 : l0_1.length ≤ c0_1) (h : impl_PendingOf.f k l0_0 l0_1 a1 = some (r1, r2)) :
    Calls Try.prog 27 #[.agg #[.slice A0_0 l0_0.length c0_0, .slice A0_1 l0_1.length c0_1], .int .i64 a1] w fun e w' => e = .returned (.tuple #[.int .i64 r1, .int .i64 r2]) ∧ Below w.heap.size w w' := by
 have hu48 := Try.underlying48
 have Zc := zm hr0_0
 have Zd := zm hc0_0
 clear hr0_0 hc0_0
 have Ze := zm hr0_1
 have Zf := zm hc0_1
 clear hr0_1 hc0_1
 have HB := zm (Below.refl w.heap.size w)
 have H : ((impl_Disk_codes.f l0_0 l0_1 a1).bind fun t601 => (if t601 = 0 then ((impl_Disk_pending.f k l0_0 l0_1 a1).bind fun t602 => (some (t602, 0))) else (some (0, t601)))) = some (r1, r2) := h
 clear h
 replace H := Option.bind_eq_some_iff.mp H
 obtain ⟨t601, A30, H⟩ := H
 replace H : (if t601 = 0 then ((impl_Disk_pending.f k l0_0 l0_1 a1).bind fun t602 => (some (t602, 0))) else (some (0, t601))) = some (r1, r2) := H
 have A3 := zm A30
 clear A30
 by_cases c4 : t601 = 0
 ·rw [if_pos c4] at H
  have c4b0 : (t601 == 0) = true := beq_iff_eq.mpr c4
  have c4b1 : (t601 != 0) = false := bne_eq_false_iff_eq.mpr c4
  clear c4
  replace H := Option.bind_eq_some_iff.mp H
  obtain ⟨t602, A50, H⟩ := H
  replace H : (some (t602, 0)) = some (r1, r2) := H
  have A5 := zm A50
  clear A50
  simp only [Option.some.injEq, Prod.mk.injEq] at H
  obtain ⟨rfl, rfl⟩ := H
  go_enter Try.func27, Try.ntmps27
  go_wp2_with (first | ((with_reducible refine gate_dst (N := 2) rfl ?_); refine box_event ?hg (N := 2) ?hd (cs := #[.slice A0_0 l0_0.length c0_0, .slice A0_1 l0_1.length c0_1]) (t := 48) ?hr ?_; (case hd => rfl); (case hg => rfl); (case hr => first | (go_simp; done) | (go_simp; rfl)); intro gb600 hg w6 hbox hb; have n0_ := zm (below_step (zg_0 HB.out) hb); have n1_ := zm (hbox); have n2_ := zm ((by rw [hg]; exact (below_size (zg_0 HB.out)) : w.heap.size ≤ gb600)); have n3_ := zm ((by rw [hg]; exact (below_size (zg_0 HB.out)) : w.heap.size ≤ gb600)); clear HB; have HB := n0_; have Za := n1_; have Zg := n2_; have Zb := n3_; clear n0_ n1_ n2_ n3_; clear hb hbox hg; have hcz7_0 : w6.cell? ⟨gb600, 0, none⟩ = some (.slice A0_0 l0_0.length c0_0) := (blk_cell Za.out 0).trans rfl; have hcz7_1 : w6.cell? ⟨gb600, 1, none⟩ = some (.slice A0_1 l0_1.length c0_1) := (blk_cell Za.out 1).trans rfl; have hfz7_0 := blk_frozen Za.out 0; have hfz7_1 := blk_frozen Za.out 1) | ((with_reducible refine gate_callee (f := 74) rfl ?_); refine goesL_ (some 9) rfl rfl Try.func74 (by kernel_rfl) rfl #[.agg #[.slice A0_0 l0_0.length c0_0, .slice A0_1 l0_1.length c0_1], .int .i64 a1] rfl zq ?_; (with_reducible refine (impl_Disk_codes.calls _ _ l0_0 _ _ l0_1 a1 t601 _ ?side1 ?side2 ?side3 ?side4 A3.out).mono ?_); (case side1 => repeat (first | exact (Kd.C_below Zc.out HB.out) | (with_reducible refine Kd.C_alloc ?_ _) | (with_reducible refine Kd.C_drewN ?_ _) | (with_reducible refine Kd.C_drew ?_))); (case side2 => exact Zd.out); (case side3 => repeat (first | exact (Kd.C_below Ze.out HB.out) | (with_reducible refine Kd.C_alloc ?_ _) | (with_reducible refine Kd.C_drewN ?_ _) | (with_reducible refine Kd.C_drew ?_))); (case side4 => exact Zf.out); rintro e w8 ⟨rfl, hb⟩; refine ⟨_, rfl, ?_⟩; have n0_ := zm (blk_below (g := gb600) (o := .cells #[.slice A0_0 l0_0.length c0_0, .slice A0_1 l0_1.length c0_1] 48 (0, 0)) (zg_2 Za.out) hb); have n1_ := zm (below_step (zg_1 HB.out Zb.out) hb); clear Za; clear HB; have Za := n0_; have HB := n1_; clear n0_ n1_; (try clear hb); (try clear hb2); (try clear hk); (try clear hi); have hcz9_0 : w8.cell? ⟨gb600, 0, none⟩ = some (.slice A0_0 l0_0.length c0_0) := (blk_cell Za.out 0).trans rfl; have hcz9_1 : w8.cell? ⟨gb600, 1, none⟩ = some (.slice A0_1 l0_1.length c0_1) := (blk_cell Za.out 1).trans rfl; have hfz9_0 := blk_frozen Za.out 0; have hfz9_1 := blk_frozen Za.out 1) | ((with_reducible refine gate_callee (f := 75) rfl ?_); refine goesL_ (some 15) rfl rfl Try.func75 (by kernel_rfl) rfl #[.agg #[.slice A0_0 l0_0.length c0_0, .slice A0_1 l0_1.length c0_1], .int .i64 a1] rfl zq ?_; (with_reducible refine (impl_Disk_pending.calls k _ _ l0_0 _ _ l0_1 a1 t602 _ ?side1 ?side2 ?side3 ?side4 A5.out).mono ?_); (case side1 => repeat (first | exact (Kd.C_below Zc.out HB.out) | (with_reducible refine Kd.C_alloc ?_ _) | (with_reducible refine Kd.C_drewN ?_ _) | (with_reducible refine Kd.C_drew ?_))); (case side2 => exact Zd.out); (case side3 => repeat (first | exact (Kd.C_below Ze.out HB.out) | (with_reducible refine Kd.C_alloc ?_ _) | (with_reducible refine Kd.C_drewN ?_ _) | (with_reducible refine Kd.C_drew ?_))); (case side4 => exact Zf.out); rintro e w10 ⟨rfl, hb⟩; refine ⟨_, rfl, ?_⟩; have n0_ := zm (blk_below (g := gb600) (o := .cells #[.slice A0_0 l0_0.length c0_0, .slice A0_1 l0_1.length c0_1] 48 (0, 0)) (zg_2 Za.out) hb); have n1_ := zm (below_step (zg_1 HB.out Zb.out) hb); clear Za; clear HB; have Za := n0_; have HB := n1_; clear n0_ n1_; (try clear hb); (try clear hb2); (try clear hk); (try clear hi)))
  go_ret2
  exact ⟨by first | rfl | (simp [errW_none, errW_some] <;> rfl) | (simp [*, errW_none, errW_some] <;> rfl), zg_1 HB.out Zb.out⟩
 ·rw [if_neg c4] at H
  have c4b0 : (t601 == 0) = false := beq_eq_false_iff_ne.mpr c4
  have c4b1 : (t601 != 0) = true := bne_iff_ne.mpr c4
  simp only [Option.some.injEq, Prod.mk.injEq] at H
  obtain ⟨rfl, rfl⟩ := H
  go_enter Try.func27, Try.ntmps27
  go_wp2_with (first | ((with_reducible refine gate_dst (N := 2) rfl ?_); refine box_event ?hg (N := 2) ?hd (cs := #[.slice A0_0 l0_0.length c0_0, .slice A0_1 l0_1.length c0_1]) (t := 48) ?hr ?_; (case hd => rfl); (case hg => rfl); (case hr => first | (go_simp; done) | (go_simp; rfl)); intro gb600 hg w11 hbox hb; have n0_ := zm (below_step (zg_0 HB.out) hb); have n1_ := zm (hbox); have n2_ := zm ((by rw [hg]; exact (below_size (zg_0 HB.out)) : w.heap.size ≤ gb600)); have n3_ := zm ((by rw [hg]; exact (below_size (zg_0 HB.out)) : w.heap.size ≤ gb600)); clear HB; have HB := n0_; have Za := n1_; have Zg := n2_; have Zb := n3_; clear n0_ n1_ n2_ n3_; clear hb hbox hg; have hcz12_0 : w11.cell? ⟨gb600, 0, none⟩ = some (.slice A0_0 l0_0.length c0_0) := (blk_cell Za.out 0).trans rfl; have hcz12_1 : w11.cell? ⟨gb600, 1, none⟩ = some (.slice A0_1 l0_1.length c0_1) := (blk_cell Za.out 1).trans rfl; have hfz12_0 := blk_frozen Za.out 0; have hfz12_1 := blk_frozen Za.out 1) | ((with_reducible refine gate_callee (f := 74) rfl ?_); refine goesL_ (some 9) rfl rfl Try.func74 (by kernel_rfl) rfl #[.agg #[.slice A0_0 l0_0.length c0_0, .slice A0_1 l0_1.length c0_1], .int .i64 a1] rfl zq ?_; (with_reducible refine (impl_Disk_codes.calls _ _ l0_0 _ _ l0_1 a1 t601 _ ?side1 ?side2 ?side3 ?side4 A3.out).mono ?_); (case side1 => repeat (first | exact (Kd.C_below Zc.out HB.out) | (with_reducible refine Kd.C_alloc ?_ _) | (with_reducible refine Kd.C_drewN ?_ _) | (with_reducible refine Kd.C_drew ?_))); (case side2 => exact Zd.out); (case side3 => repeat (first | exact (Kd.C_below Ze.out HB.out) | (with_reducible refine Kd.C_alloc ?_ _) | (with_reducible refine Kd.C_drewN ?_ _) | (with_reducible refine Kd.C_drew ?_))); (case side4 => exact Zf.out); rintro e w13 ⟨rfl, hb⟩; refine ⟨_, rfl, ?_⟩; have n0_ := zm (blk_below (g := gb600) (o := .cells #[.slice A0_0 l0_0.length c0_0, .slice A0_1 l0_1.length c0_1] 48 (0, 0)) (zg_2 Za.out) hb); have n1_ := zm (below_step (zg_1 HB.out Zb.out) hb); clear Za; clear HB; have Za := n0_; have HB := n1_; clear n0_ n1_; (try clear hb); (try clear hb2); (try clear hk); (try clear hi)))
  go_ret2
  exact ⟨by first | rfl | (simp [errW_none, errW_some] <;> rfl) | (simp [*, errW_none, errW_some] <;> rfl), zg_1 HB.out Zb.out⟩
end
section
attribute [local go_sem high] eqA28
/-! ### laws_at: function 13 -/
def laws_at.f (l0 : List Int) (a1 : Int) (a2 : Int) : Option (Int) := if a2 ≤ 1 then (some 0) else (if (l0.length : Int) = 0 then (if a2 = 0 then (none) else (some (Int.tmod (wrap64 (a1 * 7)) a2))) else (if 0 ≤ (Int.tmod a1 (l0.length : Int)) then (if (Int.tmod a1 (l0.length : Int)) < (l0.length : Int) then (if 0 ≤ (Int.tmod (wrap64 (a1 + 1)) (l0.length : Int)) then (if (Int.tmod (wrap64 (a1 + 1)) (l0.length : Int)) < (l0.length : Int) then (if a2 = 0 then (none) else (some (Int.tmod (wrap64 ((wrap64 ((wrap64 ((wrap64 (rd l0 (Int.tmod a1 (l0.length : Int)))) * 31)) + (wrap64 (rd l0 (Int.tmod (wrap64 (a1 + 1)) (l0.length : Int)))))) + (wrap64 (Int.tdiv a1 (l0.length : Int))))) a2))) else (none)) else (none)) else (none)) else (none)))
set_option maxHeartbeats 8000000 in
set_option maxRecDepth 100000 in
theorem laws_at.calls (A0 : Option Addr) (c0 : Nat) (l0 : List Int) (a1 : Int) (a2 : Int) (r : Int) (w : World) (hr0 : Kd.C (Kd.int .u8) w A0 l0.length l0) (hc0 : l0.length ≤ c0) (h : laws_at.f l0 a1 a2 = some r) :
    Calls Try.prog 13 #[.slice A0 l0.length c0, .int .i64 a1, .int .i64 a2] w fun e w' => e = .returned (.int .i64 r) ∧ Drawn0 w w' := by
 have HR0 := zm hr0
 have HC0 := zm hc0
 clear hr0 hc0
 have H : (if a2 ≤ 1 then (some 0) else (if (l0.length : Int) = 0 then (if a2 = 0 then (none) else (some (Int.tmod (wrap64 (a1 * 7)) a2))) else (if 0 ≤ (Int.tmod a1 (l0.length : Int)) then (if (Int.tmod a1 (l0.length : Int)) < (l0.length : Int) then (if 0 ≤ (Int.tmod (wrap64 (a1 + 1)) (l0.length : Int)) then (if (Int.tmod (wrap64 (a1 + 1)) (l0.length : Int)) < (l0.length : Int) then (if a2 = 0 then (none) else (some (Int.tmod (wrap64 ((wrap64 ((wrap64 ((wrap64 (rd l0 (Int.tmod a1 (l0.length : Int)))) * 31)) + (wrap64 (rd l0 (Int.tmod (wrap64 (a1 + 1)) (l0.length : Int)))))) + (wrap64 (Int.tdiv a1 (l0.length : Int))))) a2))) else (none)) else (none)) else (none)) else (none)))) = some r := h
 clear h
 by_cases c4 : a2 ≤ 1
 ·rw [if_pos c4] at H
  have c4b0 : decide (a2 ≤ 1) = true := decide_eq_true c4
  clear c4
  obtain rfl := Option.some.inj H
  go_enter Try.func13, Try.ntmps13
  go_wp2
  repeat (go_quiet (fail); try go_wp2)
  go_ret
  exact ⟨zr, by repeat (first | exact Drawn0.refl _ | apply Drawn0.step)⟩
 ·rw [if_neg c4] at H
  have c4b0 : decide (a2 ≤ 1) = false := decide_eq_false c4
  clear c4
  by_cases c5 : (l0.length : Int) = 0
  ·rw [if_pos c5] at H
   have c5b0 : ((l0.length : Int) == 0) = true := beq_iff_eq.mpr c5
   have c5b1 : ((l0.length : Int) != 0) = false := bne_eq_false_iff_eq.mpr c5
   clear c5
   by_cases c6 : a2 = 0
   ·rw [if_pos c6] at H
    exact absurd H (by simp)
   ·rw [if_neg c6] at H
    have c6b0 : (a2 == 0) = false := beq_eq_false_iff_ne.mpr c6
    have c6b1 : (a2 != 0) = true := bne_iff_ne.mpr c6
    obtain rfl := Option.some.inj H
    go_enter Try.func13, Try.ntmps13
    go_wp2
    repeat (go_quiet (fail); try go_wp2)
    go_ret
    exact ⟨zr, by repeat (first | exact Drawn0.refl _ | apply Drawn0.step)⟩
  ·rw [if_neg c5] at H
   have c5b0 : ((l0.length : Int) == 0) = false := beq_eq_false_iff_ne.mpr c5
   have c5b1 : ((l0.length : Int) != 0) = true := bne_iff_ne.mpr c5
   have c5b2 : ¬ (l0 = []) := fun h_ => c5 (by rw [h_]; rfl)
   obtain ⟨ji7, hji7⟩ : ∃ j_ : Int, (Int.tmod a1 (l0.length : Int)) = j_ := ⟨_, rfl⟩
   replace H : (if 0 ≤ (ji7) then (if (ji7) < (l0.length : Int) then (if 0 ≤ (Int.tmod (wrap64 (a1 + 1)) (l0.length : Int)) then (if (Int.tmod (wrap64 (a1 + 1)) (l0.length : Int)) < (l0.length : Int) then (if a2 = 0 then (none) else (some (Int.tmod (wrap64 ((wrap64 ((wrap64 ((wrap64 (rd l0 (ji7))) * 31)) + (wrap64 (rd l0 (Int.tmod (wrap64 (a1 + 1)) (l0.length : Int)))))) + (wrap64 (Int.tdiv a1 (l0.length : Int))))) a2))) else (none)) else (none)) else (none)) else (none)) = some r := by first | (rw [hji7] at H; exact H) | (simp only [hji7] at H ⊢; exact H)
   by_cases c8 : 0 ≤ (ji7)
   ·rw [if_pos c8] at H
    have c8b0 : decide (0 ≤ (ji7)) = true := decide_eq_true c8
    clear c8
    by_cases c9 : (ji7) < (l0.length : Int)
    ·rw [if_pos c9] at H
     have c9b0 : decide ((ji7) < (l0.length : Int)) = true := decide_eq_true c9
     clear c9
     obtain ⟨ji10, hji10⟩ : ∃ j_ : Int, (Int.tmod (wrap64 (a1 + 1)) (l0.length : Int)) = j_ := ⟨_, rfl⟩
     replace H : (if 0 ≤ (ji10) then (if (ji10) < (l0.length : Int) then (if a2 = 0 then (none) else (some (Int.tmod (wrap64 ((wrap64 ((wrap64 ((wrap64 (rd l0 (ji7))) * 31)) + (wrap64 (rd l0 (ji10))))) + (wrap64 (Int.tdiv a1 (l0.length : Int))))) a2))) else (none)) else (none)) = some r := by first | (rw [hji10] at H; exact H) | (simp only [hji10] at H ⊢; exact H)
     by_cases c11 : 0 ≤ (ji10)
     ·rw [if_pos c11] at H
      have c11b0 : decide (0 ≤ (ji10)) = true := decide_eq_true c11
      clear c11
      by_cases c12 : (ji10) < (l0.length : Int)
      ·rw [if_pos c12] at H
       have c12b0 : decide ((ji10) < (l0.length : Int)) = true := decide_eq_true c12
       clear c12
       by_cases c13 : a2 = 0
       ·rw [if_pos c13] at H
        exact absurd H (by simp)
       ·rw [if_neg c13] at H
        have c13b0 : (a2 == 0) = false := beq_eq_false_iff_ne.mpr c13
        have c13b1 : (a2 != 0) = true := bne_iff_ne.mpr c13
        obtain rfl := Option.some.inj H
        have p256 : 0 ≤ ((ji7) : Int) := of_decide_eq_true (by first | (with_reducible assumption) | assumption)
        have q256 : (ji7) < (l0.length : Int) := of_decide_eq_true (by first | (with_reducible assumption) | assumption)
        obtain ⟨ad256, e256, hx256_0⟩ := Kd.at_int HR0.out (ji7) p256 q256
        cases e256
        replace p256 := eq_true p256
        replace q256 := eq_true q256
        have p257 : 0 ≤ ((ji10) : Int) := of_decide_eq_true (by first | (with_reducible assumption) | assumption)
        have q257 : (ji10) < (l0.length : Int) := of_decide_eq_true (by first | (with_reducible assumption) | assumption)
        obtain ⟨ad257, e257, hx257_0⟩ := Kd.at_int HR0.out (ji10) p257 q257
        obtain rfl : ad256 = ad257 := (by injection e257)
        replace p257 := eq_true p257
        replace q257 := eq_true q257
        go_enter Try.func13, Try.ntmps13
        go_wp2
        repeat (go_quiet (fail); try go_wp2)
        go_ret
        exact ⟨by first | rfl | (simp; done) | (simp only [← hji7, ← hji10] <;> (first | rfl | simp)) | (simp [*]; done), by repeat (first | exact Drawn0.refl _ | apply Drawn0.step)⟩
      ·rw [if_neg c12] at H
       exact absurd H (by simp)
     ·rw [if_neg c11] at H
      exact absurd H (by simp)
    ·rw [if_neg c9] at H
     exact absurd H (by simp)
   ·rw [if_neg c8] at H
    exact absurd H (by simp)
end
section
attribute [local go_sem high] eqA92
/-! ### laws_sameTexts: function 46 -/
def laws_sameTexts.l0 : Nat → List ByteArray → List ByteArray → Int → Option (Bool)
  | 0, _, _, _ => none
  | k + 1, x0, x1, x5 => if x5 < (x0.length : Int) then (if 0 ≤ x5 then (if x5 < (x1.length : Int) then (if (rdOf ByteArray.empty x0 x5).toList = (rdOf ByteArray.empty x1 x5).toList then (laws_sameTexts.l0 k x0 x1 (wrap64 (x5 + 1))) else (some false)) else (none)) else (none)) else (some true)
def laws_sameTexts.f (k : Nat) (l0 : List ByteArray) (l1 : List ByteArray) : Option (Bool) := if (l0.length : Int) = (l1.length : Int) then (laws_sameTexts.l0 k l0 l1 0) else (some false)
theorem laws_sameTexts.mono_l : ∀ k, (∀ y0 y1 y2, LeO (laws_sameTexts.l0 k y0 y1 y2) (laws_sameTexts.l0 (k + 1) y0 y1 y2))
  | 0 => fun _ _ _ r h => by simp [laws_sameTexts.l0] at h
  | k + 1 => by
    have ih0 := laws_sameTexts.mono_l k
    · intro y0 y1 y2
      unfold laws_sameTexts.l0
      repeat' first
      | (with_reducible exact ih0 _ _ _)
      | (with_reducible exact LeO.refl _)
      | (with_reducible exact LeO.none _)
      | (with_reducible refine LeO.ite ?_ ?_)
      | (with_reducible refine LeO.bind ?_ (fun _ => ?_))
      | exact ih0 _ _ _
      | exact LeO.none _
      | refine LeO.ite ?_ ?_
      | refine LeO.bind ?_ (fun _ => ?_)
theorem laws_sameTexts.mono : ∀ a0 a1 k, LeO (laws_sameTexts.f k a0 a1) (laws_sameTexts.f (k + 1) a0 a1) := by
  intro a0 a1 k
  have ih0 := laws_sameTexts.mono_l k
  unfold laws_sameTexts.f
  repeat' first
      | (with_reducible exact ih0 _ _ _)
      | (with_reducible exact LeO.refl _)
      | (with_reducible exact LeO.none _)
      | (with_reducible refine LeO.ite ?_ ?_)
      | (with_reducible refine LeO.bind ?_ (fun _ => ?_))
      | exact ih0 _ _ _
      | exact LeO.none _
      | refine LeO.ite ?_ ?_
      | refine LeO.bind ?_ (fun _ => ?_)
set_option maxHeartbeats 8000000 in
set_option maxRecDepth 100000 in
theorem laws_sameTexts.calls (k : Nat) (A0 : Option Addr) (c0 : Nat) (l0 : List ByteArray) (A1 : Option Addr) (c1 : Nat) (l1 : List ByteArray) (r : Bool) (w : World) (hr0 : Kd.C Kd.string w A0 l0.length l0) (hc0 : l0.length ≤ c0) (hr1 : Kd.C Kd.string w A1 l1.length l1) (hc1 : l1.length ≤ c1) (h : laws_sameTexts.f k l0 l1 = some r) :
    Calls Try.prog 46 #[.slice A0 l0.length c0, .slice A1 l1.length c1] w fun e w' => e = .returned (.bool r) ∧ Drawn0 w w' := by
 have HR0 := zm hr0
 have HC0 := zm hc0
 clear hr0 hc0
 have HR1 := zm hr1
 have HC1 := zm hc1
 clear hr1 hc1
 have H : (if (l0.length : Int) = (l1.length : Int) then (laws_sameTexts.l0 k l0 l1 0) else (some false)) = some r := h
 clear h
 by_cases c3 : (l0.length : Int) = (l1.length : Int)
 ·rw [if_pos c3] at H
  have c3b0 : ((l0.length : Int) == (l1.length : Int)) = true := beq_iff_eq.mpr c3
  have c3b1 : ((l0.length : Int) != (l1.length : Int)) = false := bne_eq_false_iff_eq.mpr c3
  have c3b2 : (l0.length == l1.length) = true := by first | simpa using c3 | (simp at c3 ⊢; omega)
  clear c3
  have H' := zm H
  clear H
  go_enter Try.func46, Try.ntmps46
  go_wp2
  repeat (go_quiet (fail); try go_wp2)
  go_loopg [5] k (fun kq v5 w' => ∃ (x5_1 : Int), v5 = .int .i64 x5_1 ∧ Aside0 (laws_sameTexts.l0 kq l0 l1 x5_1 = some r) ∧ Aside0 (kq ≤ k) ∧ Drawn0 w w')
  case atStart => exact ⟨(0), zr, H', ⟨Nat.le_refl _⟩, by repeat (first | exact Drawn0.refl _ | apply Drawn0.step)⟩
  case round =>
   clear H'
   try clear c1
   try clear p2
   try clear c3
   try clear c3b0
   try clear c3b1
   try clear c3b2
   obtain ⟨x5_1, rfl, HA, HK1, ⟨m1, rfl⟩⟩ := hrel
   cases gk with
   | zero => exact absurd HA.out (by simp [laws_sameTexts.l0])
   | succ k1 =>
    have H := HA.out
    clear HA
    simp only [laws_sameTexts.l0] at H
    by_cases c4 : x5_1 < (l0.length : Int)
    ·rw [if_pos c4] at H
     have c4b0 : decide (x5_1 < (l0.length : Int)) = true := decide_eq_true c4
     clear c4
     by_cases c5 : 0 ≤ x5_1
     ·rw [if_pos c5] at H
      have c5b0 : decide (0 ≤ x5_1) = true := decide_eq_true c5
      clear c5
      by_cases c6 : x5_1 < (l1.length : Int)
      ·rw [if_pos c6] at H
       have c6b0 : decide (x5_1 < (l1.length : Int)) = true := decide_eq_true c6
       clear c6
       by_cases c7 : (rdOf ByteArray.empty l0 x5_1).toList = (rdOf ByteArray.empty l1 x5_1).toList
       ·rw [if_pos c7] at H
        have c7b0 : ((rdOf ByteArray.empty l0 x5_1).toList == (rdOf ByteArray.empty l1 x5_1).toList) = true := beq_iff_eq.mpr c7
        have c7b1 : ((rdOf ByteArray.empty l0 x5_1).toList != (rdOf ByteArray.empty l1 x5_1).toList) = false := bne_eq_false_iff_eq.mpr c7
        clear c7
        have H' := zm H
        clear H
        have p619 : 0 ≤ (x5_1 : Int) := of_decide_eq_true (by first | (with_reducible assumption) | assumption)
        have q619 : x5_1 < (l0.length : Int) := of_decide_eq_true (by first | (with_reducible assumption) | assumption)
        obtain ⟨ad619, e619, hx619_0⟩ := Kd.at_string HR0.out x5_1 p619 q619
        cases e619
        replace p619 := eq_true p619
        replace q619 := eq_true q619
        have p620 : 0 ≤ (x5_1 : Int) := of_decide_eq_true (by first | (with_reducible assumption) | assumption)
        have q620 : x5_1 < (l1.length : Int) := of_decide_eq_true (by first | (with_reducible assumption) | assumption)
        obtain ⟨ad620, e620, hx620_0⟩ := Kd.at_string HR1.out x5_1 p620 q620
        cases e620
        replace p620 := eq_true p620
        replace q620 := eq_true q620
        go_wp2
        repeat (go_quiet (fail); try go_wp2)
        go_roundg k1
        case measure => have := HK1.out; omega
        case rel => exact ⟨(wrap64 (x5_1 + 1)), zr, H', ⟨by have := HK1.out; omega⟩, by repeat (first | exact Drawn0.refl _ | apply Drawn0.step)⟩
       ·rw [if_neg c7] at H
        have c7b0 : ((rdOf ByteArray.empty l0 x5_1).toList == (rdOf ByteArray.empty l1 x5_1).toList) = false := beq_eq_false_iff_ne.mpr c7
        have c7b1 : ((rdOf ByteArray.empty l0 x5_1).toList != (rdOf ByteArray.empty l1 x5_1).toList) = true := bne_iff_ne.mpr c7
        obtain rfl := Option.some.inj H
        have p619 : 0 ≤ (x5_1 : Int) := of_decide_eq_true (by first | (with_reducible assumption) | assumption)
        have q619 : x5_1 < (l0.length : Int) := of_decide_eq_true (by first | (with_reducible assumption) | assumption)
        obtain ⟨ad619, e619, hx619_0⟩ := Kd.at_string HR0.out x5_1 p619 q619
        cases e619
        replace p619 := eq_true p619
        replace q619 := eq_true q619
        have p620 : 0 ≤ (x5_1 : Int) := of_decide_eq_true (by first | (with_reducible assumption) | assumption)
        have q620 : x5_1 < (l1.length : Int) := of_decide_eq_true (by first | (with_reducible assumption) | assumption)
        obtain ⟨ad620, e620, hx620_0⟩ := Kd.at_string HR1.out x5_1 p620 q620
        cases e620
        replace p620 := eq_true p620
        replace q620 := eq_true q620
        go_wp2
        repeat (go_quiet (fail); try go_wp2)
        go_ret
        exact ⟨zr, by repeat (first | exact Drawn0.refl _ | apply Drawn0.step)⟩
      ·rw [if_neg c6] at H
       exact absurd H (by simp)
     ·rw [if_neg c5] at H
      exact absurd H (by simp)
    ·rw [if_neg c4] at H
     have c4b0 : decide (x5_1 < (l0.length : Int)) = false := decide_eq_false c4
     clear c4
     obtain rfl := Option.some.inj H
     go_wp2
     repeat (go_quiet (fail); try go_wp2)
     go_ret
     exact ⟨zr, by repeat (first | exact Drawn0.refl _ | apply Drawn0.step)⟩
 ·rw [if_neg c3] at H
  have c3b0 : ((l0.length : Int) == (l1.length : Int)) = false := beq_eq_false_iff_ne.mpr c3
  have c3b1 : ((l0.length : Int) != (l1.length : Int)) = true := bne_iff_ne.mpr c3
  have c3b2 : (l0.length == l1.length) = false := by first | simpa using c3 | (simp at c3 ⊢; omega)
  obtain rfl := Option.some.inj H
  go_enter Try.func46, Try.ntmps46
  go_wp2
  repeat (go_quiet (fail); try go_wp2)
  go_ret
  exact ⟨zr, by repeat (first | exact Drawn0.refl _ | apply Drawn0.step)⟩
end
end Go.Proofs.Ytajflpcihblkfaa.Q
