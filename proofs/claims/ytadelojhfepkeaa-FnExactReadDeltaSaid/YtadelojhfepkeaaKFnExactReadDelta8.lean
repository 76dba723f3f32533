/- What laws.FnExactReadDelta reaches, part 8: the functions as Lean functions, the proofs that the program's functions answer so, and plain laws about them. -/
import Derived.Test.YtadelojhfepkeaaKFnExactReadDelta1
import Derived.Test.YtadelojhfepkeaaKFnExactReadDelta7
namespace Go.Proofs.Ytadelojhfepkeaa.Q
open Go.RowKit Go.Proofs.Ytadelojhfepkeaa.Ext Go.Proofs.YtadelojhfepkeaaW.PrintWords Go.Proofs.YtadelojhfepkeaaW.PrintLast Go.Proofs.YtadelojhfepkeaaW.PrintMore
attribute [local go_sem] max2_int min2_int max_two min_two max_three min_three max_four min_four   -- for this text's walks alone
set_option linter.unusedVariables false
set_option linter.unusedSimpArgs false

set_option linter.unusedVariables false
set_option linter.unusedSimpArgs false
/-! ### impl_Disk_settle: function 35 -/
/-- What the closure of settle sees: the host, how many writes are to be kept, the disk, whether the others are lost. -/
structure impl_Disk_settle_I (W : World) (base gH gK gO gL gR : Nat) (host keep : Int) (lose : Bool) (sv pv : Value) (secs : List ByteArray) : Prop where
  h : W.heap[gH]? = some (.cells #[.int .i64 host] 3 (0, 0))
  k : W.heap[gK]? = some (.cells #[.int .i64 keep] 3 (0, 0))
  o : W.heap[gO]? = some (.cells #[sv, pv] 29 (0, 0))
  l : W.heap[gL]? = some (.cells #[.bool lose] 4 (0, 0))
  s : Kd.R Kd.string 9 W base (fun _ => True) sv secs
  n : gH ≠ gK
  r : W.heap[gR]? = some (.cells #[.slice none 0 0, .slice none 0 0] 29 (0, 0))
def impl_Disk_settle_stp (host : Int) (lose : Bool) (keep : Int) (secs : List ByteArray) (x : S76) : Option (Bool × Int × List ByteArray) :=
  if x.f0 = host then (if keep > 0 then (if 0 ≤ x.f1 then (if x.f1 < (secs.length : Int) then some (true, wrap64 (keep - 1), secs.set x.f1.toNat x.f2) else none) else none) else some (lose, keep, secs)) else some (false, keep, secs)
theorem impl_Disk_settle_I.below {W W1 : World} {base gH gK gO gL gR : Nat} {host keep : Int} {lose : Bool} {sv pv : Value} {secs : List ByteArray} (I : impl_Disk_settle_I W base gH gK gO gL gR host keep lose sv pv secs) (hb : Below W.heap.size W W1) : impl_Disk_settle_I W1 base gH gK gO gL gR host keep lose sv pv secs :=
  ⟨blk_below I.h hb, blk_below I.k hb, blk_below I.o hb, blk_below I.l hb, Kd.R_below I.s hb, I.n, blk_below I.r hb⟩
set_option maxHeartbeats 4000000 in
set_option maxRecDepth 100000 in
theorem impl_Disk_settle_clos {w0 W : World} {gH gK gO gL gR : Nat} {host keep : Int} {lose : Bool} {sv pv : Value} {secs : List ByteArray} (I : impl_Disk_settle_I W w0.heap.size gH gK gO gL gR host keep lose sv pv secs) (hB : Below w0.heap.size w0 W) (hg : w0.heap.size ≤ gK) (x : S76) (b : Bool) (keep' : Int) (secs' : List ByteArray) (hst : impl_Disk_settle_stp host lose keep secs x = some (b, keep', secs')) :
    Calls Try.prog 61 #[.agg #[.int .i64 x.f0, .int .i64 x.f1, .string x.f2], .pointer (some ⟨gH, 0, none⟩), .pointer (some ⟨gK, 0, none⟩), .pointer (some ⟨gO, 0, none⟩), .pointer (some ⟨gL, 0, none⟩)] W
      fun e W' => e = .returned (.bool b) ∧ impl_Disk_settle_I W' w0.heap.size gH gK gO gL gR host keep' lose sv pv secs' ∧ Below w0.heap.size w0 W' ∧ Kept W W' (fun k_ => k_ = gK ∨ some k_ = sv.ownBlock) := by
  have hu76 := Try.underlying76
  have hu29 := Try.underlying29
  have II := zm I
  have HB := zm hB
  have HG := zm hg
  clear I hB hg
  unfold impl_Disk_settle_stp at hst
  by_cases c1 : x.f0 = host
  · rw [if_pos c1] at hst
    have d1 : (x.f0 != host) = false := by simp [c1]
    have d2 : decide (x.f0 = host) = true := decide_eq_true c1
    have d3 : decide (x.f0 ≠ host) = false := by simp [c1]
    have d4 : (x.f0 == host) = true := by simp [c1]
    clear c1
    by_cases c2 : keep > 0
    · rw [if_pos c2] at hst
      have e1 : decide (keep > 0) = true := decide_eq_true c2
      have e2 : decide (0 < keep) = true := decide_eq_true c2
      clear c2
      by_cases c3 : 0 ≤ x.f1
      · rw [if_pos c3] at hst
        by_cases c4 : x.f1 < (secs.length : Int)
        · rw [if_pos c4] at hst
          simp only [Option.some.injEq, Prod.mk.injEq] at hst
          obtain ⟨rfl, rfl, rfl⟩ := hst
          have C3 := zm c3
          have C4 := zm c4
          have q3 := eq_true c3
          have q4 := eq_true c4
          have f3 : decide (0 ≤ x.f1) = true := decide_eq_true c3
          have f4 : decide (x.f1 < (secs.length : Int)) = true := decide_eq_true c4
          clear c3 c4
          obtain ⟨gs, cs, rfl, hgs, hgl, hcl, HS⟩ := Kd.R_form II.out.s (by have := C3.out; have := C4.out; omega)
          have GS := zm hgs
          clear hgs hgl hcl HS
          go_enter Try.func61, Try.ntmps61
          go_wp2_with (first
            | ((with_reducible refine gate_dst (N := 5) rfl ?_); refine box_event ?hg (N := 5) ?hd (cs := #[.int .i64 x.f0, .int .i64 x.f1, .string x.f2]) (t := 76) ?hr ?_; (case hd => rfl); (case hg => rfl); (case hr => first | (go_simp; done) | (go_simp; rfl)); intro gb hg w4 hbox hb; have BK := zm hbox; have I4 := zm (II.out.below hb); have HB4 := zm (below_step HB.out hb); have KK := zm (Kept.of_below hb (fun k_ => k_ = gK ∨ some k_ = (.slice (some ⟨gs, 0, none⟩) secs.length cs : Value).ownBlock)); clear hb hbox hg; have hx0 : w4.cell? ⟨gb, 0, none⟩ = some (.int .i64 x.f0) := (blk_cell BK.out 0).trans rfl; have hh : w4.cell? ⟨gH, 0, none⟩ = some (.int .i64 host) := (blk_cell I4.out.h 0).trans rfl; have hk : w4.cell? ⟨gK, 0, none⟩ = some (.int .i64 keep) := (blk_cell I4.out.k 0).trans rfl; have hfk := blk_frozen I4.out.k 0)
            | ((with_reducible refine gate_store (t := 3) (p := 2) rfl ?_); refine store_event (t := 3) (p := 2) (v := ?vo1) (w1 := (w4.setCell ⟨gK, 0, none⟩ (.int .i64 (wrap64 (keep - 1))))) ?hg ?ho ?hn ?hr ?_; (case ho => rfl); (case hg => rfl); (case hn => rfl); (case hr => first | (go_simp; done) | (go_simp; rfl)); intro w5 hw; have I5 := zm (show impl_Disk_settle_I w5 w0.heap.size gH gK gO gL gR host (wrap64 (keep - 1)) lose (.slice (some ⟨gs, 0, none⟩) secs.length cs) pv secs from by rw [hw]; exact ⟨blk_far I4.out.h I4.out.n _, blk_set I4.out.k 0 _, blk_far I4.out.o (blk_ne I4.out.o I4.out.k (by decide)) _, blk_far I4.out.l (blk_ne I4.out.l I4.out.k (by decide)) _, Kd.R_mono (Kd.R_set I4.out.s I4.out.k (by decide) 0 _) (fun _ _ => trivial), I4.out.n, blk_far I4.out.r (blk_ne I4.out.r I4.out.k (by decide)) _⟩); have B5 := zm (show w5.heap[gb]? = some (.cells #[.int .i64 x.f0, .int .i64 x.f1, .string x.f2] 76 (0, 0)) from by rw [hw]; exact blk_far BK.out (blk_ne BK.out I4.out.k (by decide)) _); have HB5 := zm (show Below w0.heap.size w0 w5 from by rw [hw]; exact below_set HB4.out HG.out); have K5 := zm (show Kept W w5 (fun k_ => k_ = gK ∨ some k_ = (.slice (some ⟨gs, 0, none⟩) secs.length cs : Value).ownBlock) from by rw [hw]; exact Kept.setCell KK.out (.inl (.inl rfl)) _); clear hw I4 BK HB4 KK hx0 hh hk hfk; have ho : w5.cell? ⟨gO, 0, none⟩ = some (.slice (some ⟨gs, 0, none⟩) secs.length cs) := (blk_cell I5.out.o 0).trans rfl; have hx1 : w5.cell? ⟨gb, 1, none⟩ = some (.int .i64 x.f1) := (blk_cell B5.out 1).trans rfl; have hx2 : w5.cell? ⟨gb, 2, none⟩ = some (.string x.f2) := (blk_cell B5.out 2).trans rfl; obtain ⟨hy, hz⟩ := Kd.R_celln (⟨#[]⟩ : ByteArray) I5.out.s x.f1 C3.out C4.out; have HP := zm (Kd.R_putg I5.out.s x.f1 x.f2))
            | ((with_reducible refine gate_store (t := 9) (p := 21) rfl ?_); refine store_event (t := 9) (p := 21) (v := ?vo2) (w1 := (w5.setCell ⟨gs, x.f1.toNat, none⟩ (.string x.f2))) ?hg ?ho ?hn ?hr ?_; (case ho => rfl); (case hg => rfl); (case hn => rfl); (case hr => first | (go_simp; done) | (go_simp; rfl)); intro w6 hw; have hgr : w5.grownBy w6 (some gs) := (by rw [hw]; exact HP.out.2); have nO := Kd.R_ne I5.out.s I5.out.o (by decide); have nH := Kd.R_ne I5.out.s I5.out.h (by decide); have nK := Kd.R_ne I5.out.s I5.out.k (by decide); have nL := Kd.R_ne I5.out.s I5.out.l (by decide); have nR := Kd.R_ne I5.out.s I5.out.r (by decide); have I6 := zm (show impl_Disk_settle_I w6 w0.heap.size gH gK gO gL gR host (wrap64 (keep - 1)) lose (.slice (some ⟨gs, 0, none⟩) secs.length cs) pv (secs.set x.f1.toNat x.f2) from ⟨blk_grown I5.out.h hgr nH, blk_grown I5.out.k hgr nK, blk_grown I5.out.o hgr nO, blk_grown I5.out.l hgr nL, (by rw [hw]; exact HP.out.1), I5.out.n, blk_grown I5.out.r hgr nR⟩); have HB6 := zm (show Below w0.heap.size w0 w6 from by rw [hw]; exact below_set HB5.out GS.out); have K6 := zm (Kept.of_grown (S := (fun k_ => k_ = gK ∨ some k_ = (.slice (some ⟨gs, 0, none⟩) secs.length cs : Value).ownBlock)) hgr K5.out (fun k_ e_ => .inl (.inr (by simp [Value.ownBlock, e_])))); clear hw hgr nO nH nK nL nR I5 B5 HB5 K5 ho hx1 hx2 hy hz HP))
          go_ret
          exact ⟨rfl, I6.out, HB6.out, K6.out⟩
        · rw [if_neg c4] at hst; cases hst
      · rw [if_neg c3] at hst; cases hst
    · rw [if_neg c2] at hst
      have e1 : decide (keep > 0) = false := decide_eq_false c2
      have e2 : decide (0 < keep) = false := decide_eq_false c2
      clear c2
      simp only [Option.some.injEq, Prod.mk.injEq] at hst
      obtain ⟨rfl, rfl, rfl⟩ := hst
      go_enter Try.func61, Try.ntmps61
      go_wp2_with (first
        | ((with_reducible refine gate_dst (N := 5) rfl ?_); refine box_event ?hg (N := 5) ?hd (cs := #[.int .i64 x.f0, .int .i64 x.f1, .string x.f2]) (t := 76) ?hr ?_; (case hd => rfl); (case hg => rfl); (case hr => first | (go_simp; done) | (go_simp; rfl)); intro gb hg w4 hbox hb; have BK := zm hbox; have I4 := zm (II.out.below hb); have HB4 := zm (below_step HB.out hb); have KK := zm (Kept.of_below hb (fun k_ => k_ = gK ∨ some k_ = sv.ownBlock)); clear hb hbox hg; have hx0 : w4.cell? ⟨gb, 0, none⟩ = some (.int .i64 x.f0) := (blk_cell BK.out 0).trans rfl; have hh : w4.cell? ⟨gH, 0, none⟩ = some (.int .i64 host) := (blk_cell I4.out.h 0).trans rfl; have hk : w4.cell? ⟨gK, 0, none⟩ = some (.int .i64 keep) := (blk_cell I4.out.k 0).trans rfl; have hl : w4.cell? ⟨gL, 0, none⟩ = some (.bool lose) := (blk_cell I4.out.l 0).trans rfl))
      go_ret
      exact ⟨rfl, I4.out, HB4.out, KK.out⟩
  · rw [if_neg c1] at hst
    have d1 : (x.f0 != host) = true := by simp [c1]
    have d2 : decide (x.f0 = host) = false := decide_eq_false c1
    have d3 : decide (x.f0 ≠ host) = true := decide_eq_true c1
    have d4 : (x.f0 == host) = false := by simp [c1]
    clear c1
    simp only [Option.some.injEq, Prod.mk.injEq] at hst
    obtain ⟨rfl, rfl, rfl⟩ := hst
    go_enter Try.func61, Try.ntmps61
    go_wp2_with (first
      | ((with_reducible refine gate_dst (N := 5) rfl ?_); refine box_event ?hg (N := 5) ?hd (cs := #[.int .i64 x.f0, .int .i64 x.f1, .string x.f2]) (t := 76) ?hr ?_; (case hd => rfl); (case hg => rfl); (case hr => first | (go_simp; done) | (go_simp; rfl)); intro gb hg w4 hbox hb; have BK := zm hbox; have I4 := zm (II.out.below hb); have HB4 := zm (below_step HB.out hb); have KK := zm (Kept.of_below hb (fun k_ => k_ = gK ∨ some k_ = sv.ownBlock)); clear hb hbox hg; have hx0 : w4.cell? ⟨gb, 0, none⟩ = some (.int .i64 x.f0) := (blk_cell BK.out 0).trans rfl; have hh : w4.cell? ⟨gH, 0, none⟩ = some (.int .i64 host) := (blk_cell I4.out.h 0).trans rfl))
    go_ret
    exact ⟨rfl, I4.out, HB4.out, KK.out⟩
def impl_Disk_settle_idx (host : Int) (lose : Bool) : List S76 → Int → List ByteArray → Nat → Option (Int × Int × List ByteArray)
  | [], keep, secs, _ => some (-1, keep, secs)
  | x :: r, keep, secs, i => (impl_Disk_settle_stp host lose keep secs x).bind fun b => if b.1 = true then some ((i : Int), b.2.1, b.2.2) else impl_Disk_settle_idx host lose r b.2.1 b.2.2 (i + 1)
theorem impl_Disk_settle_rd (l : List S76) (i : Nat) (h : i < l.length) : rd_T76 l (i : Int) = l[i] := by simp [rd_T76, h]
set_option maxHeartbeats 4000000 in
set_option maxRecDepth 100000 in
theorem impl_Disk_settle_index {w0 W : World} {gH gK gO gL gR : Nat} {host keep : Int} {lose : Bool} {sv pv v : Value} {secs : List ByteArray} {pend : List S76} (I : impl_Disk_settle_I W w0.heap.size gH gK gO gL gR host keep lose sv pv secs) (hB : Below w0.heap.size w0 W) (hg : w0.heap.size ≤ gK)
    (RP : Kd.R k76 76 W w0.heap.size (fun k_ => k_ ≠ gK ∧ some k_ ≠ sv.ownBlock) v pend) (hl : pend.length ≤ 1000000000) (r keep' : Int) (secs' : List ByteArray) (h : impl_Disk_settle_idx host lose pend keep secs 0 = some (r, keep', secs')) :
    Calls Try.prog 80 #[v, .func (.func 61) #[] #[.pointer (some ⟨gH, 0, none⟩), .pointer (some ⟨gK, 0, none⟩), .pointer (some ⟨gO, 0, none⟩), .pointer (some ⟨gL, 0, none⟩)]] W
      fun e W' => e = .returned (.int .i64 r) ∧ impl_Disk_settle_I W' w0.heap.size gH gK gO gL gR host keep' lose sv pv secs' ∧ Below w0.heap.size w0 W' ∧ Kept W W' (fun k_ => k_ = gK ∨ some k_ = sv.ownBlock) := by
  obtain ⟨Ao, co, rfl⟩ := Kd.R_slice RP
  have PP := zm RP
  have II := zm I
  have HB := zm hB
  have HG := zm hg
  have HK := zm (Kept.refl W (fun k_ => k_ = gK ∨ some k_ = sv.ownBlock))
  have H := zm h
  have HL := zm hl
  clear RP I hB hg h hl
  go_enter Try.func80, Try.ntmps80
  go_wp2
  go_loopg [8] pend.length (fun kq v8 w' => ∃ (x : Int) (kp : Int) (sc : List ByteArray), v8 = .int .i64 x ∧ Aside0 (0 ≤ x ∧ x.toNat ≤ pend.length ∧ kq = pend.length - x.toNat) ∧ Aside0 (impl_Disk_settle_idx host lose (pend.drop x.toNat) kp sc x.toNat = some (r, keep', secs')) ∧ Aside0 (impl_Disk_settle_I w' w0.heap.size gH gK gO gL gR host kp lose sv pv sc) ∧ Aside0 (Below w0.heap.size w0 w') ∧ Aside0 (Kept W w' (fun k_ => k_ = gK ∨ some k_ = sv.ownBlock)))
  case atStart => exact ⟨0, keep, secs, rfl, ⟨by omega, by omega, by simp⟩, ⟨by rw [show (0 : Int).toNat = 0 from rfl, List.drop_zero]; exact H.out⟩, II, HB, HK⟩
  case round =>
    try clear c1
    try clear p2
    clear II HB HK H
    obtain ⟨x, kp, sc, rfl, HM, H, II, HB, HK⟩ := hrel
    by_cases hc : x < (pend.length : Int)
    · have hd : decide (x < (pend.length : Int)) = true := decide_eq_true hc
      have hlt : x.toNat < pend.length := by have := HM.out; omega
      have h0x : 0 ≤ x := HM.out.1
      have h := H.out
      rw [List.drop_eq_getElem_cons hlt] at h
      simp only [impl_Disk_settle_idx] at h
      have h2 := Option.bind_eq_some_iff.mp h
      clear h
      obtain ⟨⟨b, k2, s2⟩, hst, h⟩ := h2
      have PQ := zm (Kd.R_kept PP.out HK.out (fun k_ hk_ hs_ => hs_.elim hk_.1 hk_.2))
      obtain ⟨gp, cp, ep, _, _, _, _⟩ := Kd.R_form PQ.out (by omega)
      (first | cases ep | (injection ep with ea_ en_ ec_; (first | subst ea_ | (injection ea_ with ea_; subst ea_)); subst ec_; clear en_))
      obtain ⟨ce, hcl, hM, hcc, hfr⟩ := Kd.R_elem PQ.out z76 x h0x hc
      obtain rfl := k76_openM hM
      have hx0 : wr.cell? ⟨gp, x.toNat * 3, none⟩ = some (.int .i64 (rd_T76 pend x).f0) := hcc 0 _ rfl
      have hx1 : wr.cell? ⟨gp, x.toNat * 3 + 1, none⟩ = some (.int .i64 (rd_T76 pend x).f1) := hcc 1 _ rfl
      have hx2 : wr.cell? ⟨gp, x.toNat * 3 + 2, none⟩ = some (.string (rd_T76 pend x).f2) := hcc 2 _ rfl
      clear hcl hM hcc hfr
      have hr0 : rd_T76 pend x = pend[x.toNat] := by simp [rd_T76, hlt]
      have ST := zm (show impl_Disk_settle_stp host lose kp sc (rd_T76 pend x) = some (b, k2, s2) from by rw [hr0]; exact hst)
      have HT := zm hlt
      have HH := zm h
      have WN : Aside0 (wrap64 (x + 1) = x + 1) := ⟨by unfold wrap64; have := HL.out; omega⟩
      have HC := zm hc
      have p0 := eq_true h0x
      have p1 := eq_true hc
      have d0 : decide (0 ≤ x) = true := decide_eq_true h0x
      clear h hst hr0 hlt H h0x hc
      cases b with
      | true =>
        go_wp2_with (first
          | ((with_reducible refine gate_dst (N := 16) rfl ?_); refine goesV (some 16) rfl rfl Try.func61 (by kernel_rfl) rfl #[.agg #[.int .i64 (rd_T76 pend x).f0, .int .i64 (rd_T76 pend x).f1, .string (rd_T76 pend x).f2], .pointer (some ⟨gH, 0, none⟩), .pointer (some ⟨gK, 0, none⟩), .pointer (some ⟨gO, 0, none⟩), .pointer (some ⟨gL, 0, none⟩)] rfl (cap := #[.pointer (some ⟨gH, 0, none⟩), .pointer (some ⟨gK, 0, none⟩), .pointer (some ⟨gO, 0, none⟩), .pointer (some ⟨gL, 0, none⟩)]) ?hx ?hargs ?_; (case hx => rfl); (case hargs => simp [Act.eval]); refine (impl_Disk_settle_clos II.out HB.out HG.out (rd_T76 pend x) _ _ _ ST.out).mono ?_; rintro e w2 ⟨rfl, hI, hb, hkp⟩; refine ⟨_, rfl, ?_⟩; have I2 := zm hI; have HB2 := zm hb; have HK2 := zm (HK.out.then_ hkp (fun _ h_ => .inl h_)); clear hI hb hkp hx0 hx1 hx2))
        have h := HH.out
        simp only [if_true, Option.some.injEq, Prod.mk.injEq] at h
        obtain ⟨e1, rfl, rfl⟩ := h
        have e2 : x = r := by have := HM.out; omega
        subst e2
        go_ret
        exact ⟨rfl, I2.out, HB2.out, HK2.out⟩
      | false =>
        go_wp2_with (first
          | ((with_reducible refine gate_dst (N := 16) rfl ?_); refine goesV (some 16) rfl rfl Try.func61 (by kernel_rfl) rfl #[.agg #[.int .i64 (rd_T76 pend x).f0, .int .i64 (rd_T76 pend x).f1, .string (rd_T76 pend x).f2], .pointer (some ⟨gH, 0, none⟩), .pointer (some ⟨gK, 0, none⟩), .pointer (some ⟨gO, 0, none⟩), .pointer (some ⟨gL, 0, none⟩)] rfl (cap := #[.pointer (some ⟨gH, 0, none⟩), .pointer (some ⟨gK, 0, none⟩), .pointer (some ⟨gO, 0, none⟩), .pointer (some ⟨gL, 0, none⟩)]) ?hx ?hargs ?_; (case hx => rfl); (case hargs => simp [Act.eval]); refine (impl_Disk_settle_clos II.out HB.out HG.out (rd_T76 pend x) _ _ _ ST.out).mono ?_; rintro e w2 ⟨rfl, hI, hb, hkp⟩; refine ⟨_, rfl, ?_⟩; have I2 := zm hI; have HB2 := zm hb; have HK2 := zm (HK.out.then_ hkp (fun _ h_ => .inl h_)); clear hI hb hkp hx0 hx1 hx2))
        go_roundg (pend.length - (x + 1).toNat)
        case measure => have := HM.out; have := HT.out; omega
        case rel => exact ⟨x + 1, k2, s2, by rw [WN.out], ⟨by have := HM.out; omega, by have := HM.out; have := HT.out; omega, rfl⟩, ⟨by have h := HH.out; simp only [Bool.false_eq_true, if_false] at h; rw [show (x + 1).toNat = x.toNat + 1 from by have := HM.out; omega]; exact h⟩, I2, HB2, HK2⟩
    · have hd : decide (x < (pend.length : Int)) = false := decide_eq_false hc
      have e : pend.drop x.toNat = [] := List.drop_of_length_le (by omega)
      have h := H.out
      rw [e] at h
      simp only [impl_Disk_settle_idx, Option.some.injEq, Prod.mk.injEq] at h
      obtain ⟨rfl, rfl, rfl⟩ := h
      clear e hc H
      go_wp2
      go_ret
      exact ⟨rfl, II.out, HB.out, HK.out⟩
def impl_Disk_settle_go (host : Int) (lose : Bool) : List S76 → Int → List ByteArray → Option (List S76 × Int × List ByteArray)
  | [], keep, secs => some ([], keep, secs)
  | x :: r, keep, secs => (impl_Disk_settle_stp host lose keep secs x).bind fun b => (impl_Disk_settle_go host lose r b.2.1 b.2.2).bind fun q => some (if b.1 = true then q.1 else x :: q.1, q.2.1, q.2.2)
theorem impl_Disk_settle_go_idx (host : Int) (lose : Bool) : ∀ (l : List S76) (keep : Int) (secs : List ByteArray) (n : Nat) (out : List S76) (kf : Int) (sf : List ByteArray), impl_Disk_settle_go host lose l keep secs = some (out, kf, sf) →
    (impl_Disk_settle_idx host lose l keep secs n = some (-1, kf, sf) ∧ out = l) ∨ ∃ (i : Nat) (k1 : Int) (s1 : List ByteArray) (rest : List S76), i < l.length ∧ impl_Disk_settle_idx host lose l keep secs n = some (((n + i : Nat) : Int), k1, s1) ∧ impl_Disk_settle_go host lose (l.drop (i + 1)) k1 s1 = some (rest, kf, sf) ∧ out = l.take i ++ rest := by
  intro l
  induction l with
  | nil =>
    intro keep secs n out kf sf h
    simp only [impl_Disk_settle_go, Option.some.injEq, Prod.mk.injEq] at h
    obtain ⟨rfl, rfl, rfl⟩ := h
    exact .inl ⟨rfl, rfl⟩
  | cons x r ih =>
    intro keep secs n out kf sf h
    simp only [impl_Disk_settle_go] at h
    obtain ⟨⟨b, k1, s1⟩, hst, h⟩ := Option.bind_eq_some_iff.mp h
    obtain ⟨⟨o1, k2, s2⟩, hgo, h⟩ := Option.bind_eq_some_iff.mp h
    simp only [Option.some.injEq, Prod.mk.injEq] at h
    obtain ⟨rfl, rfl, rfl⟩ := h
    cases b with
    | true =>
      refine .inr ⟨0, k1, s1, o1, by simp, ?_, by simpa using hgo, by simp⟩
      simp only [impl_Disk_settle_idx, hst, Option.bind_some, if_true, Nat.add_zero]
    | false =>
      rcases ih k1 s1 (n + 1) o1 k2 s2 hgo with ⟨h1, h2⟩ | ⟨i, k3, s3, rest, h1, h2, h3, h4⟩
      · refine .inl ⟨?_, by simp [h2]⟩
        simp only [impl_Disk_settle_idx, hst, Option.bind_some, Bool.false_eq_true, if_false]
        exact h1
      · refine .inr ⟨i + 1, k3, s3, rest, by simp; omega, ?_, by simpa using h3, by simp [h4]⟩
        simp only [impl_Disk_settle_idx, hst, Option.bind_some, Bool.false_eq_true, if_false]
        rw [h2]; congr 2; omega
theorem impl_Disk_settle_blk {g : Nat} {t : TypeId} : ∀ (vs : List Value) (o : Nat) {w : World} {cs : Array Value}, w.heap[g]? = some (.cells cs t (0, 0)) → ∃ cs', (w.setCells g o vs).heap[g]? = some (.cells cs' t (0, 0)) ∧ cs'.size = cs.size ∧ ∀ j, j < o → cs'[j]? = cs[j]? := by
  intro vs
  induction vs with
  | nil => intro o w cs h; exact ⟨cs, h, rfl, fun _ _ => rfl⟩
  | cons v r ih =>
    intro o w cs h
    obtain ⟨cs', h1, h2, h3⟩ := ih (o + 1) (blk_set h o v)
    refine ⟨cs', h1, by rw [h2, Array.size_setIfInBounds], fun j hj => ?_⟩
    rw [h3 j (by omega)]
    exact Array.getElem?_setIfInBounds_ne (by omega)
theorem impl_Disk_settle_cut {W : World} {base gp i cap : Nat} {ok : Nat → Prop} {xs : List S76} (h : Kd.R k76 76 W base ok (.slice (some ⟨gp, 0, none⟩) i cap) xs) (vs : List Value) (o : Nat) (ho : i * 3 ≤ o) : Kd.R k76 76 (W.setCells gp o vs) base ok (.slice (some ⟨gp, 0, none⟩) i cap) xs := by
  have hn := (Kd.R_reads' h).1
  obtain ⟨h0, inner, ⟨hl, ho'⟩, hr⟩ := h
  refine ⟨h0, inner, ⟨hl, ?_⟩, hr.imp_ (fun p c hp => by obtain rfl := k76_openM hp; exact k76_mkM _ _ _ p)⟩
  rcases ho' with ⟨e, _⟩ | ⟨g, cap', cur, e, hb, hh, h1, h2, h3, h4⟩
  · cases e
  · injection e with e1 e2 e3
    injection e1 with e1
    injection e1 with e1
    subst e1 e3
    obtain ⟨cs', q1, q2, q3⟩ := impl_Disk_settle_blk vs o hh
    refine .inr ⟨gp, _, cs', by rw [hn], hb, q1, h1, h2, q2.trans h3, ?_⟩
    rw [← h4]
    refine List.ext_getElem? (fun j => ?_)
    rw [List.getElem?_take, List.getElem?_take]
    by_cases c : j < xs.length * (k76).sz
    · rw [if_pos c, if_pos c, Array.getElem?_toList, Array.getElem?_toList]
      exact q3 j (Nat.lt_of_lt_of_le c (by rw [← hn]; exact ho))
    · rw [if_neg c, if_neg c]
theorem impl_Disk_settle_kept {g : Nat} : ∀ (vs : List Value) (o : Nat) (w : World), Kept w (w.setCells g o vs) (fun k_ => k_ = g) := by
  intro vs
  induction vs with
  | nil => intro o w; exact Kept.refl _ _
  | cons v r ih => intro o w; exact (Kept.setCell (Kept.refl w (fun k_ => k_ = g)) (p := ⟨g, o, none⟩) (.inl rfl) v).then_ (ih (o + 1) _) (fun _ h_ => .inl h_)
theorem impl_Disk_settle_bel {g : Nat} {w0 : World} (hg : w0.heap.size ≤ g) : ∀ (vs : List Value) (o : Nat) (w : World), Below w0.heap.size w0 w → Below w0.heap.size w0 (w.setCells g o vs) := by
  intro vs
  induction vs with
  | nil => intro o w h; exact h
  | cons v r ih => intro o w h; exact ih (o + 1) _ (below_set h hg)
theorem impl_Disk_settle_I.kept {W W1 : World} {base gH gK gO gL gR : Nat} {host keep : Int} {lose : Bool} {sv pv : Value} {secs : List ByteArray} (I : impl_Disk_settle_I W base gH gK gO gL gR host keep lose sv pv secs) {g : Nat} {cs : Array Value} (hk : Kept W W1 (fun k_ => k_ = g)) (hc : W.heap[g]? = some (.cells cs 76 (0, 0))) : impl_Disk_settle_I W1 base gH gK gO gL gR host keep lose sv pv secs :=
  ⟨blk_kept I.h hk (fun e => blk_ne I.h hc (by decide) e), blk_kept I.k hk (fun e => blk_ne I.k hc (by decide) e), blk_kept I.o hk (fun e => blk_ne I.o hc (by decide) e), blk_kept I.l hk (fun e => blk_ne I.l hc (by decide) e), Kd.R_mono (Kd.R_kept (Kd.R_types I.s hc (by decide)) hk (fun _ h_ e => h_.2 e)) (fun _ _ => trivial), I.n, blk_kept I.r hk (fun e => blk_ne I.r hc (by decide) e)⟩
/-- clear of the rest of a row: some cells from there on are written. -/
theorem impl_Disk_settle_clear {W : World} {base gp n cap : Nat} {ok : Nat → Prop} {xs : List S76} (h : Kd.R k76 76 W base ok (.slice (some ⟨gp, 0, none⟩) n cap) xs) (a : Nat) (ha : a < n) (cc : Nat) (ty : TypeId) :
    ∃ vs, (Builtin.clear_ #[27] ty #[.slice (some ⟨gp, a * 3, none⟩) (n - a) cc]).run Try.prog W = .ok (.tuple #[]) (W.setCells gp (a * 3) vs) := by
  have hz : ∀ w, (zeroValue 76).run Try.prog w = .ok (.agg #[.int .i64 0, .int .i64 0, .string ⟨#[]⟩]) w := Try.zeroValue76
  obtain ⟨m, hm⟩ : ∃ m, n - a = m + 1 := ⟨n - a - 1, by omega⟩
  refine ⟨(Builtin.zeroCells (Value.agg #[.int .i64 0, .int .i64 0, .string ⟨#[]⟩]).cells (n - a)).toList, ?_⟩
  have hlen : (Builtin.zeroCells (Value.agg #[.int .i64 0, .int .i64 0, .string ⟨#[]⟩]).cells (n - a)).toList.length = (n - a) * 3 := by simp [Builtin.zeroCells, Value.cells]
  have hn := (Kd.R_reads' h).1
  have hst := run_storeCells_cells (P := Try.prog) gp (a * 3) (Builtin.zeroCells (Value.agg #[.int .i64 0, .int .i64 0, .string ⟨#[]⟩]).cells (n - a)).toList 0 W (by
    intro j hj
    rw [hlen] at hj
    obtain ⟨c, hcl, hM, hcc, hfr⟩ := Kd.R_elem h z76 ((a + j / 3 : Nat) : Int) (by omega) (by omega)
    have hj3 : j % 3 < c.length := by rw [hcl]; exact Nat.mod_lt _ (by decide)
    have := hcc (j % 3) _ (List.getElem?_eq_getElem hj3)
    rw [Int.toNat_natCast] at this
    have e : a * 3 + 0 + j = (a + j / 3) * (k76).sz + j % 3 := by show a * 3 + 0 + j = (a + j / 3) * 3 + j % 3; omega
    rw [e, this]; rfl) (by
    intro j hj
    rw [hlen] at hj
    obtain ⟨c, hcl, hM, hcc, hfr⟩ := Kd.R_elem h z76 ((a + j / 3 : Nat) : Int) (by omega) (by omega)
    have := hfr (j % 3)
    rw [Int.toNat_natCast] at this
    have e : a * 3 + 0 + j = (a + j / 3) * (k76).sz + j % 3 := by show a * 3 + 0 + j = (a + j / 3) * 3 + j % 3; omega
    rw [e]; exact this) (by
    intro v hv
    simp only [Builtin.zeroCells, Array.toList_map, List.mem_map] at hv
    obtain ⟨q, _, rfl⟩ := hv
    have hq : q % 3 < 3 := Nat.mod_lt _ (by decide)
    show ((#[Value.int .i64 0, .int .i64 0, .string ⟨#[]⟩] : Array Value)[q % 3]!).oneCell' = true
    rcases (show q % 3 = 0 ∨ q % 3 = 1 ∨ q % 3 = 2 by omega) with e | e | e <;> rw [e] <;> rfl)
  simp only [Nat.add_zero] at hst
  rw [hm] at hst ⊢
  simp [Builtin.clear_, run_underlying Try.underlying27, hz, hst]
set_option maxHeartbeats 8000000 in
set_option maxRecDepth 100000 in
theorem impl_Disk_settle_delete {w0 W : World} {gH gK gO gL gR : Nat} {host keep : Int} {lose : Bool} {sv pv v : Value} {secs : List ByteArray} {pend : List S76} (I : impl_Disk_settle_I W w0.heap.size gH gK gO gL gR host keep lose sv pv secs) (hB : Below w0.heap.size w0 W) (hg : w0.heap.size ≤ gK)
    (RP : Kd.R k76 76 W w0.heap.size (fun k_ => k_ ≠ gK ∧ some k_ ≠ sv.ownBlock) v pend) (hl : pend.length ≤ 1000000000) (out : List S76) (kf : Int) (sf : List ByteArray) (h : impl_Disk_settle_go host lose pend keep secs = some (out, kf, sf)) :
    Calls Try.prog 60 #[v, .func (.func 61) #[] #[.pointer (some ⟨gH, 0, none⟩), .pointer (some ⟨gK, 0, none⟩), .pointer (some ⟨gO, 0, none⟩), .pointer (some ⟨gL, 0, none⟩)]] W
      fun e W' => ∃ v', e = .returned v' ∧ Kd.R k76 76 W' w0.heap.size (fun k_ => k_ ≠ gK ∧ some k_ ≠ sv.ownBlock) v' out ∧ impl_Disk_settle_I W' w0.heap.size gH gK gO gL gR host kf lose sv pv sf ∧ Below w0.heap.size w0 W' := by
  have hu76 := Try.underlying76
  have hidx := impl_Disk_settle_index (pend := pend) I hB hg RP hl
  have PP := zm RP
  have HG := zm hg
  have HL := zm hl
  obtain ⟨Ao, co, rfl⟩ := Kd.R_slice RP
  rcases impl_Disk_settle_go_idx host lose pend keep secs 0 out kf sf h with ⟨h1, rfl⟩ | ⟨i0, k1, s1, rest0, h1, h2, h3, rfl⟩
  · have HX := zm (hidx (-1) kf sf h1)
    clear I hB hg RP hl hidx h h1
    go_enter Try.func60, Try.ntmps60
    go_wp2_with (first
      | ((with_reducible refine gate_callee (f := 80) rfl ?_); refine goesL_ (some 10) rfl rfl Try.func80 (by kernel_rfl) rfl #[.slice Ao out.length co, .func (.func 61) #[] #[.pointer (some ⟨gH, 0, none⟩), .pointer (some ⟨gK, 0, none⟩), .pointer (some ⟨gO, 0, none⟩), .pointer (some ⟨gL, 0, none⟩)]] rfl (by (try simp only [List.map_toArray, List.map_cons, List.map_nil]); first | done | rfl) ?_; refine HX.out.mono ?_; rintro e w2 ⟨rfl, hI, hb, hkp⟩; refine ⟨_, rfl, ?_⟩; have I2 := zm hI; have HB2 := zm hb; have P2 := zm (Kd.R_kept PP.out hkp (fun k_ hk_ hs_ => hs_.elim hk_.1 hk_.2)); clear hI hb hkp))
    go_ret
    exact ⟨_, rfl, P2.out, I2.out, HB2.out⟩
  · have HX := zm (hidx _ k1 s1 h2)
    have H3 := zm h3
    have H1 := zm h1
    clear I hB hg RP hl hidx h h1 h2 h3
    obtain ⟨gp, cp, ep, gb1, _, gc1, _⟩ := Kd.R_form PP.out (by have := H1.out; omega)
    (first | cases ep | (injection ep with ea_ en_ ec_; (first | subst ea_ | (injection ea_ with ea_; subst ea_)); subst ec_; clear en_))
    have GP := zm gb1
    have NE : ((((0 + i0 : Nat) : Int)) == -1) = false := beq_eq_false_iff_ne.2 (by omega)
    have NE2 : decide ((((0 + i0 : Nat) : Int)) = -1) = false := decide_eq_false (by omega)
    clear gb1
    go_enter Try.func60, Try.ntmps60
    go_wp2_with (first
      | ((with_reducible refine gate_callee (f := 80) rfl ?_); refine goesL_ (some 10) rfl rfl Try.func80 (by kernel_rfl) rfl #[.slice (some ⟨gp, 0, none⟩) pend.length co, .func (.func 61) #[] #[.pointer (some ⟨gH, 0, none⟩), .pointer (some ⟨gK, 0, none⟩), .pointer (some ⟨gO, 0, none⟩), .pointer (some ⟨gL, 0, none⟩)]] rfl (by (try simp only [List.map_toArray, List.map_cons, List.map_nil]); first | done | rfl) ?_; refine HX.out.mono ?_; rintro e w2 ⟨rfl, hI, hb, hkp⟩; refine ⟨_, rfl, ?_⟩; have I2 := zm hI; have HB2 := zm hb; have P2 := zm (Kd.R_kept PP.out hkp (fun k_ hk_ hs_ => hs_.elim hk_.1 hk_.2)); clear hI hb hkp))
    go_loopg [5, 6] pend.length (fun kq v5 v6 w' => ∃ (a j : Int) (dk rest : List S76) (kp : Int) (sc : List ByteArray), v5 = .int .i64 a ∧ v6 = .int .i64 j ∧ Aside0 (0 ≤ a ∧ a < j ∧ j.toNat ≤ pend.length ∧ pend.length - j.toNat ≤ kq ∧ dk.length = pend.length) ∧ Aside0 (pend.take i0 ++ rest0 = dk.take a.toNat ++ rest ∧ dk.drop j.toNat = pend.drop j.toNat) ∧ Aside0 (impl_Disk_settle_go host lose (pend.drop j.toNat) kp sc = some (rest, kf, sf)) ∧ Aside0 (Kd.R k76 76 w' w0.heap.size (fun k_ => k_ ≠ gK ∧ some k_ ≠ sv.ownBlock) (.slice (some ⟨gp, 0, none⟩) pend.length co) dk) ∧ Aside0 (impl_Disk_settle_I w' w0.heap.size gH gK gO gL gR host kp lose sv pv sc) ∧ Aside0 (Below w0.heap.size w0 w'))
    case atStart =>
      have h1 := H1.out
      have hL := HL.out
      refine ⟨(i0 : Int), ((i0 + 1 : Nat) : Int), pend, rest0, k1, s1, by simp, ?_, ⟨by omega, by omega, by omega, ?_, rfl⟩, ⟨by simp, rfl⟩, ⟨by simpa using H3.out⟩, P2, I2, HB2⟩
      · have e : wrap64 ((((0 + i0 : Nat) : Int)) + 1) = ((i0 + 1 : Nat) : Int) := by unfold wrap64; omega
        first | rw [e] | (simp only [Nat.zero_add] at e; rw [e]) | simp [e]
      · omega
    case round =>
      try clear c1
      try clear p2
      clear HX PP H3 P2 I2 HB2
      obtain ⟨a, j, dk, rest, kp, sc, rfl, rfl, HM, HO, HGo, HR, II, HB⟩ := hrel
      by_cases hj : j < (pend.length : Int)
      · have hd : decide (j < (pend.length : Int)) = true := decide_eq_true hj
        have h0j : 0 ≤ j := by have := HM.out; omega
        have hjp : j.toNat < pend.length := by omega
        have hjd : j.toNat < dk.length := by have := HM.out; omega
        have he : dk[j.toNat] = pend[j.toNat] ∧ dk.drop (j.toNat + 1) = pend.drop (j.toNat + 1) := by
          have := HO.out.2
          rw [List.drop_eq_getElem_cons hjd, List.drop_eq_getElem_cons hjp] at this
          injection this with e1 e2
          exact ⟨e1, e2⟩
        have h := HGo.out
        rw [List.drop_eq_getElem_cons hjp] at h
        simp only [impl_Disk_settle_go] at h
        have hh := Option.bind_eq_some_iff.mp h
        clear h
        obtain ⟨⟨b, k2, s2⟩, hst, hh⟩ := hh
        have hh2 := Option.bind_eq_some_iff.mp hh
        clear hh
        obtain ⟨⟨o1, k3, s3⟩, hgo, hh⟩ := hh2
        simp only [Option.some.injEq, Prod.mk.injEq] at hh
        obtain ⟨hrest, rfl, rfl⟩ := hh
        obtain ⟨ce, hcl, hM, hcc, hfr⟩ := Kd.R_elem HR.out z76 j h0j hj
        obtain rfl := k76_openM hM
        obtain ⟨x, hx⟩ : ∃ x, x = rd_T76 dk j := ⟨_, rfl⟩
        have hxp : x = pend[j.toNat] := by rw [hx, ← he.1]; simp [rd_T76, hjd]
        have hx0 : wr.cell? ⟨gp, j.toNat * 3, none⟩ = some (.int .i64 x.f0) := by rw [hx]; exact hcc 0 _ rfl
        have hx1 : wr.cell? ⟨gp, j.toNat * 3 + 1, none⟩ = some (.int .i64 x.f1) := by rw [hx]; exact hcc 1 _ rfl
        have hx2 : wr.cell? ⟨gp, j.toNat * 3 + 2, none⟩ = some (.string x.f2) := by rw [hx]; exact hcc 2 _ rfl
        clear hcl hM hcc hfr hx
        have ST := zm (show impl_Disk_settle_stp host lose kp sc x = some (b, k2, s2) from by rw [hxp]; exact hst)
        have RS := zm (show rest = if b = true then o1 else x :: o1 from by rw [hxp]; exact hrest.symm)
        have GO := zm hgo
        have HE := zm he.2
        have HJ := zm hj
        have A0 := zm (show 0 ≤ a from HM.out.1)
        have A1 := zm (show a < (pend.length : Int) from by have := HM.out; omega)
        have WJ : Aside0 (wrap64 (j + 1) = j + 1) := ⟨by unfold wrap64; have := HL.out; omega⟩
        have WA : Aside0 (wrap64 (a + 1) = a + 1) := ⟨by unfold wrap64; have := HL.out; have := HM.out; omega⟩
        have p0 := eq_true h0j
        have p1 := eq_true hj
        have p3 := eq_true A0.out
        have p4 := eq_true A1.out
        clear h0j hj hjd he hst hrest hgo hxp hjp HGo
        cases b with
        | true =>
          go_wp2_with (first
            | ((with_reducible refine gate_dst (N := 7) rfl ?_); refine box_event ?hg (N := 7) ?hd (cs := #[.int .i64 0, .int .i64 0, .string ⟨#[]⟩]) (t := 76) ?hr ?_; (case hd => rfl); (case hg => rfl); (case hr => first | (go_simp; done) | (go_simp; rfl)); intro gb hgb w4 hbox hb; have BK := zm hbox; have R4 := zm (Kd.R_below (Kd.R_elderB HR.out gb (by rw [hgb]; exact Nat.le_refl _)) hb); have I4 := zm (II.out.below hb); have B4 := zm (below_step HB.out hb); have GE := zm (show w0.heap.size ≤ gb from by rw [hgb]; exact HB.out.size); clear hb hbox hgb HR II HB; have hz0 : w4.cell? ⟨gb, 0, none⟩ = some (.int .i64 0) := (blk_cell BK.out 0).trans rfl; have hz1 : w4.cell? ⟨gb, 1, none⟩ = some (.int .i64 0) := (blk_cell BK.out 1).trans rfl; have hz2 : w4.cell? ⟨gb, 2, none⟩ = some (.string ⟨#[]⟩) := (blk_cell BK.out 2).trans rfl; have hf0 := blk_frozen BK.out 0; have hf1 := blk_frozen BK.out 1; have hf2 := blk_frozen BK.out 2)
            | ((with_reducible refine gate_store (t := 76) (p := 7) rfl ?_); refine store_event (t := 76) (p := 7) (v := ?vo1) (w1 := (((w4.setCell ⟨gb, 0, none⟩ (.int .i64 x.f0)).setCell ⟨gb, 1, none⟩ (.int .i64 x.f1)).setCell ⟨gb, 2, none⟩ (.string x.f2))) ?hg ?ho ?hn ?hr ?_; (case ho => rfl); (case hg => rfl); (case hn => rfl); (case hr => first | (go_simp; done) | (go_simp; rfl)); intro w5 hw; have BB := zm (show w5.heap[gb]? = some (.cells #[.int .i64 x.f0, .int .i64 x.f1, .string x.f2] 76 (0, 0)) from by rw [hw]; exact blk_set (blk_set (blk_set BK.out 0 _) 1 _) 2 _); have K45 := (show Kept w4 w5 (fun k_ => k_ = gb) from by rw [hw]; exact Kept.setCell (Kept.setCell (Kept.setCell (Kept.refl w4 (fun k_ => k_ = gb)) (p := ⟨gb, 0, none⟩) (.inl rfl) _) (p := ⟨gb, 1, none⟩) (.inl rfl) _) (p := ⟨gb, 2, none⟩) (.inl rfl) _); have R5 := zm (Kd.R_kept R4.out K45 (fun _ h_ e_ => h_.2 e_)); have I5 := zm (I4.out.kept K45 BK.out); have B5 := zm (show Below w0.heap.size w0 w5 from by rw [hw]; exact below_set (below_set (below_set B4.out GE.out) GE.out) GE.out); clear hw K45 R4 I4 B4 BK GE hz0 hz1 hz2 hf0 hf1 hf2; have hb0 : w5.cell? ⟨gb, 0, none⟩ = some (.int .i64 x.f0) := (blk_cell BB.out 0).trans rfl; have hb1 : w5.cell? ⟨gb, 1, none⟩ = some (.int .i64 x.f1) := (blk_cell BB.out 1).trans rfl; have hb2 : w5.cell? ⟨gb, 2, none⟩ = some (.string x.f2) := (blk_cell BB.out 2).trans rfl)
            | ((with_reducible refine gate_dst (N := 28) rfl ?_); refine goesV (some 28) rfl rfl Try.func61 (by kernel_rfl) rfl #[.agg #[.int .i64 x.f0, .int .i64 x.f1, .string x.f2], .pointer (some ⟨gH, 0, none⟩), .pointer (some ⟨gK, 0, none⟩), .pointer (some ⟨gO, 0, none⟩), .pointer (some ⟨gL, 0, none⟩)] rfl (cap := #[.pointer (some ⟨gH, 0, none⟩), .pointer (some ⟨gK, 0, none⟩), .pointer (some ⟨gO, 0, none⟩), .pointer (some ⟨gL, 0, none⟩)]) ?hx ?hargs ?_; (case hx => rfl); (case hargs => simp [Act.eval]); refine (impl_Disk_settle_clos I5.out B5.out HG.out x _ _ _ ST.out).mono ?_; rintro e w6 ⟨rfl, hI, hb, hkp⟩; refine ⟨_, rfl, ?_⟩; have BC := zm (blk_kept BB.out hkp (fun h_ => h_.elim (fun e_ => blk_ne BB.out I5.out.k (by decide) e_) (fun e_ => Kd.R_ne I5.out.s BB.out (by decide) e_))); have R6 := zm (Kd.R_kept R5.out hkp (fun k_ hk_ hs_ => hs_.elim hk_.1.1 hk_.1.2)); have I6 := zm hI; have B6 := zm hb; clear hI hb hkp BB R5 I5 B5 hb0 hb1 hb2))
          go_roundg (pend.length - (j + 1).toNat)
          case measure => have := HM.out; have := HJ.out; omega
          case rel =>
            have hm := HM.out
            have hjl := HJ.out
            refine ⟨a, j + 1, dk, o1, k2, s2, rfl, by rw [WJ.out], ⟨hm.1, by omega, by omega, Nat.le_refl _, hm.2.2.2.2⟩, ⟨by rw [HO.out.1, RS.out]; simp, by rw [show (j + 1).toNat = j.toNat + 1 by omega]; exact HE.out⟩, ⟨by rw [show (j + 1).toNat = j.toNat + 1 by omega]; exact GO.out⟩, ⟨Kd.R_mono R6.out (fun _ h_ => h_.1)⟩, I6, B6⟩
        | false =>
          go_wp2_with (first
            | ((with_reducible refine gate_dst (N := 7) rfl ?_); refine box_event ?hg (N := 7) ?hd (cs := #[.int .i64 0, .int .i64 0, .string ⟨#[]⟩]) (t := 76) ?hr ?_; (case hd => rfl); (case hg => rfl); (case hr => first | (go_simp; done) | (go_simp; rfl)); intro gb hgb w4 hbox hb; have BK := zm hbox; have R4 := zm (Kd.R_below (Kd.R_elderB HR.out gb (by rw [hgb]; exact Nat.le_refl _)) hb); have I4 := zm (II.out.below hb); have B4 := zm (below_step HB.out hb); have GE := zm (show w0.heap.size ≤ gb from by rw [hgb]; exact HB.out.size); clear hb hbox hgb HR II HB; have hz0 : w4.cell? ⟨gb, 0, none⟩ = some (.int .i64 0) := (blk_cell BK.out 0).trans rfl; have hz1 : w4.cell? ⟨gb, 1, none⟩ = some (.int .i64 0) := (blk_cell BK.out 1).trans rfl; have hz2 : w4.cell? ⟨gb, 2, none⟩ = some (.string ⟨#[]⟩) := (blk_cell BK.out 2).trans rfl; have hf0 := blk_frozen BK.out 0; have hf1 := blk_frozen BK.out 1; have hf2 := blk_frozen BK.out 2)
            | ((with_reducible refine gate_store (t := 76) (p := 7) rfl ?_); refine store_event (t := 76) (p := 7) (v := ?vo1) (w1 := (((w4.setCell ⟨gb, 0, none⟩ (.int .i64 x.f0)).setCell ⟨gb, 1, none⟩ (.int .i64 x.f1)).setCell ⟨gb, 2, none⟩ (.string x.f2))) ?hg ?ho ?hn ?hr ?_; (case ho => rfl); (case hg => rfl); (case hn => rfl); (case hr => first | (go_simp; done) | (go_simp; rfl)); intro w5 hw; have BB := zm (show w5.heap[gb]? = some (.cells #[.int .i64 x.f0, .int .i64 x.f1, .string x.f2] 76 (0, 0)) from by rw [hw]; exact blk_set (blk_set (blk_set BK.out 0 _) 1 _) 2 _); have K45 := (show Kept w4 w5 (fun k_ => k_ = gb) from by rw [hw]; exact Kept.setCell (Kept.setCell (Kept.setCell (Kept.refl w4 (fun k_ => k_ = gb)) (p := ⟨gb, 0, none⟩) (.inl rfl) _) (p := ⟨gb, 1, none⟩) (.inl rfl) _) (p := ⟨gb, 2, none⟩) (.inl rfl) _); have R5 := zm (Kd.R_kept R4.out K45 (fun _ h_ e_ => h_.2 e_)); have I5 := zm (I4.out.kept K45 BK.out); have B5 := zm (show Below w0.heap.size w0 w5 from by rw [hw]; exact below_set (below_set (below_set B4.out GE.out) GE.out) GE.out); clear hw K45 R4 I4 B4 BK GE hz0 hz1 hz2 hf0 hf1 hf2; have hb0 : w5.cell? ⟨gb, 0, none⟩ = some (.int .i64 x.f0) := (blk_cell BB.out 0).trans rfl; have hb1 : w5.cell? ⟨gb, 1, none⟩ = some (.int .i64 x.f1) := (blk_cell BB.out 1).trans rfl; have hb2 : w5.cell? ⟨gb, 2, none⟩ = some (.string x.f2) := (blk_cell BB.out 2).trans rfl)
            | ((with_reducible refine gate_dst (N := 28) rfl ?_); refine goesV (some 28) rfl rfl Try.func61 (by kernel_rfl) rfl #[.agg #[.int .i64 x.f0, .int .i64 x.f1, .string x.f2], .pointer (some ⟨gH, 0, none⟩), .pointer (some ⟨gK, 0, none⟩), .pointer (some ⟨gO, 0, none⟩), .pointer (some ⟨gL, 0, none⟩)] rfl (cap := #[.pointer (some ⟨gH, 0, none⟩), .pointer (some ⟨gK, 0, none⟩), .pointer (some ⟨gO, 0, none⟩), .pointer (some ⟨gL, 0, none⟩)]) ?hx ?hargs ?_; (case hx => rfl); (case hargs => simp [Act.eval]); refine (impl_Disk_settle_clos I5.out B5.out HG.out x _ _ _ ST.out).mono ?_; rintro e w6 ⟨rfl, hI, hb, hkp⟩; refine ⟨_, rfl, ?_⟩; have BC := zm (blk_kept BB.out hkp (fun h_ => h_.elim (fun e_ => blk_ne BB.out I5.out.k (by decide) e_) (fun e_ => Kd.R_ne I5.out.s BB.out (by decide) e_))); have R6 := zm (Kd.R_kept R5.out hkp (fun k_ hk_ hs_ => hs_.elim hk_.1.1 hk_.1.2)); have I6 := zm hI; have B6 := zm hb; clear hI hb hkp BB R5 I5 B5 hb0 hb1 hb2; have hc0 : w6.cell? ⟨gb, 0, none⟩ = some (.int .i64 x.f0) := (blk_cell BC.out 0).trans rfl; have hc1 : w6.cell? ⟨gb, 1, none⟩ = some (.int .i64 x.f1) := (blk_cell BC.out 1).trans rfl; have hc2 : w6.cell? ⟨gb, 2, none⟩ = some (.string x.f2) := (blk_cell BC.out 2).trans rfl; obtain ⟨ce, hcl, hM, hcc, hfr⟩ := Kd.R_elem R6.out z76 a A0.out A1.out; obtain rfl := k76_openM hM; have hy0 := hcc 0 _ rfl; have hy1 := hcc 1 _ rfl; have hy2 := hcc 2 _ rfl; have hg0 := hfr 0; have hg1 := hfr 1; have hg2 := hfr 2; (try simp only [show (k76).sz = 3 from rfl, Nat.add_zero] at hy0 hy1 hy2 hg0 hg1 hg2); have HP := zm (Kd.R_seg R6.out a A0.out A1.out (seg := [.int .i64 x.f0, .int .i64 x.f1, .string x.f2]) (j := 0) hcl hcc (show 3 ≤ 3 from by decide) (x' := x) (okp := fun _ => False) (k76_mkM _ _ _ x) (fun _ hk => hk.elim)); clear hcl hM hcc hfr)
            | ((with_reducible refine gate_store (t := 76) (p := 33) rfl ?_); refine store_event (t := 76) (p := 33) (v := ?vo2) (w1 := (((w6.setCell ⟨gp, a.toNat * 3, none⟩ (.int .i64 x.f0)).setCell ⟨gp, a.toNat * 3 + 1, none⟩ (.int .i64 x.f1)).setCell ⟨gp, a.toNat * 3 + 2, none⟩ (.string x.f2))) ?hg ?ho ?hn ?hr ?_; (case ho => rfl); (case hg => rfl); (case hn => rfl); (case hr => first | (go_simp; done) | (go_simp; rfl)); intro w7 hw; have hgr : w6.grownBy w7 (some gp) := (by rw [hw]; exact HP.out.2); have R7 := zm (show Kd.R k76 76 w7 w0.heap.size (fun k_ => k_ ≠ gK ∧ some k_ ≠ sv.ownBlock) (.slice (some ⟨gp, 0, none⟩) pend.length co) (dk.set a.toNat x) from by rw [hw]; exact Kd.R_mono HP.out.1 (fun _ h_ => h_.1)); have I7 := zm (I6.out.kept (Kept.of_grown (S := fun k_ => k_ = gp) hgr (Kept.refl _ _) (fun k_ e_ => .inl (by injection e_ with e_; exact e_.symm))) (Classical.choose_spec (Kd.R_typed R6.out gp rfl))); have B7 := zm (show Below w0.heap.size w0 w7 from by rw [hw]; exact below_set (below_set (below_set B6.out GP.out) GP.out) GP.out); clear hw hgr HP R6 I6 B6 BC hc0 hc1 hc2 hy0 hy1 hy2 hg0 hg1 hg2))
          go_roundg (pend.length - (j + 1).toNat)
          case measure => have := HM.out; have := HJ.out; omega
          case rel =>
            have hm := HM.out
            have hjl := HJ.out
            refine ⟨a + 1, j + 1, dk.set a.toNat x, o1, k2, s2, by rw [WA.out], by rw [WJ.out], ⟨by omega, by omega, by omega, Nat.le_refl _, by rw [List.length_set]; exact hm.2.2.2.2⟩, ⟨?_, ?_⟩, ⟨by rw [show (j + 1).toNat = j.toNat + 1 by omega]; exact GO.out⟩, R7, I7, B7⟩
            · rw [HO.out.1, RS.out, show (a + 1).toNat = a.toNat + 1 by omega, List.take_succ_eq_append_getElem (by rw [List.length_set]; omega), List.getElem_set_self, List.take_set_of_le (Nat.le_refl _)]
              simp
            · rw [show (j + 1).toNat = j.toNat + 1 by omega, List.drop_set_of_lt (by omega)]; exact HE.out
      · have hd : decide (j < (pend.length : Int)) = false := decide_eq_false hj
        have ej : j.toNat = pend.length := by have := HM.out; omega
        have h := HGo.out
        rw [ej, List.drop_of_length_le (Nat.le_refl _)] at h
        simp only [impl_Disk_settle_go, Option.some.injEq, Prod.mk.injEq] at h
        obtain ⟨h4, rfl, rfl⟩ := h
        have HOUT := zm (show pend.take i0 ++ rest0 = dk.take a.toNat from by rw [HO.out.1, ← h4, List.append_nil])
        have A0 := zm (show 0 ≤ a from HM.out.1)
        have A1 := zm (show a.toNat < pend.length from by have := HM.out; omega)
        obtain ⟨vs, hclr⟩ := impl_Disk_settle_clear HR.out a.toNat A1.out (co - a.toNat) 0
        clear h4 ej hj HGo HO
        have hco : pend.length ≤ co := (Kd.R_reads' HR.out).2.1
        have n1 : (co = a.toNat) = False := eq_false (by have := A1.out; omega)
        have n2 : (a.toNat = co) = False := eq_false (by have := A1.out; omega)
        have n3 : ¬ co = a.toNat := by have := A1.out; omega
        have p3 := eq_true A0.out
        have p4 : (a ≤ (pend.length : Int)) = True := eq_true (by have := A1.out; omega)
        have p5 : (a.toNat ≤ pend.length) = True := eq_true (by have := A1.out; omega)
        have p6 : (a.toNat ≤ co) = True := eq_true (by have := A1.out; omega)
        have p7 : ((co : Int) < a) = False := eq_false (by have := A1.out; omega)
        have p8 : (a ≤ (co : Int)) = True := eq_true (by have := A1.out; omega)
        go_wp2
        go_ret
        refine ⟨_, rfl, ?_, II.out.kept (impl_Disk_settle_kept vs _ wr) (Classical.choose_spec (Kd.R_typed HR.out gp rfl)), impl_Disk_settle_bel GP.out vs _ _ HB.out⟩
        rw [HOUT.out]
        exact impl_Disk_settle_cut (Kd.R_take HR.out (by have := HM.out; omega)) vs _ (Nat.le_refl _)
def impl_Disk_settle.f (l0_0 : List ByteArray) (l0_1 : List (S76)) (a1 : Int) (a2 : Int) (a3 : Bool) : Option (List ByteArray × (List (S76))) := (impl_Disk_copied.f l0_0 l0_1).bind fun t => if t.2.length ≤ 1000000000 then (impl_Disk_settle_go a1 a3 t.2 a2 t.1).bind fun q => some (q.2.2, q.1) else none
set_option maxHeartbeats 8000000 in
set_option maxRecDepth 100000 in
theorem impl_Disk_settle.calls (A0_0 : Option Addr) (c0_0 : Nat) (l0_0 : List ByteArray) (A0_1 : Option Addr) (c0_1 : Nat) (l0_1 : List (S76)) (a1 : Int) (a2 : Int) (a3 : Bool) (r1 : List ByteArray) (r2 : List (S76)) (w : World) (hr0_0 : Kd.C Kd.string w A0_0 l0_0.length l0_0) (hc0_0 : l0_0.length ≤ c0_0) (hr0_1 : Kd.C k76 w A0_1 l0_1.length l0_1) (hc0_1 : l0_1.length ≤ c0_1) (h : impl_Disk_settle.f l0_0 l0_1 a1 a2 a3 = some (r1, r2)) :
    Calls Try.prog 35 #[.agg #[.slice A0_0 l0_0.length c0_0, .slice A0_1 l0_1.length c0_1], .int .i64 a1, .int .i64 a2, .bool a3] w fun e w' => ∃ v0_ v1_ : Value, e = .returned (.agg #[v0_, v1_]) ∧ Kd.R Kd.string 9 w' w.heap.size (fun _ => True) v0_ r1 ∧ Kd.R k76 76 w' w.heap.size (fun _ => True) v1_ r2 ∧ Below w.heap.size w w' := by
 have hu29 := Try.underlying29
 have HR0 := zm hr0_0
 have HC0 := zm hc0_0
 have HR1 := zm hr0_1
 have HC1 := zm hc0_1
 have HB := zm (Below.refl w.heap.size w)
 unfold impl_Disk_settle.f at h
 obtain ⟨⟨t1, t2⟩, ht, h⟩ := Option.bind_eq_some_iff.mp h
 have hlim : t2.length ≤ 1000000000 := by
  by_cases c : t2.length ≤ 1000000000
  ·exact c
  ·rw [if_neg c] at h; cases h
 rw [if_pos hlim] at h
 obtain ⟨⟨q1, kf, sf⟩, hgo, h⟩ := Option.bind_eq_some_iff.mp h
 simp only [Option.some.injEq, Prod.mk.injEq] at h
 obtain ⟨rfl, rfl⟩ := h
 have T0 := zm ht
 have HL := zm hlim
 have HGo := zm (show impl_Disk_settle_go a1 a3 t2 a2 t1 = some (q1, kf, sf) from hgo)
 clear hr0_0 hc0_0 hr0_1 hc0_1 ht hlim hgo
 go_enter Try.func35, Try.ntmps35
 go_wp2_with (first
  | ((with_reducible refine gate_dst (N := 4) rfl ?_); refine box_event ?hg (N := 4) ?hd (cs := #[.slice A0_0 l0_0.length c0_0, .slice A0_1 l0_1.length c0_1]) (t := 29) ?hr ?_; (case hd => rfl); (case hg => rfl); (case hr => first | (go_simp; done) | (go_simp; rfl)); intro g0 hg0 w1 hbox hb;  have ng0 := zm hbox; have nB := zm (below_step HB.out hb); have nG := zm (show w.heap.size ≤ g0 from by rw [hg0]; exact HB.out.size); clear HB hbox hb hg0; have HB := nB; have Bg0 := ng0; have Gg0 := nG; clear nB ng0 nG)
  | ((with_reducible refine gate_dst (N := 5) rfl ?_); refine box_event ?hg (N := 5) ?hd (cs := #[.int .i64 a1]) (t := 3) ?hr ?_; (case hd => rfl); (case hg => rfl); (case hr => first | (go_simp; done) | (go_simp; rfl)); intro gH hgH w2 hbox hb; have mg0 := zm (blk_below Bg0.out hb); clear Bg0; have Bg0 := mg0; clear mg0;  have ngH := zm hbox; have nB := zm (below_step HB.out hb); have nG := zm (show w.heap.size ≤ gH from by rw [hgH]; exact HB.out.size); clear HB hbox hb hgH; have HB := nB; have BgH := ngH; have GgH := nG; clear nB ngH nG)
  | ((with_reducible refine gate_dst (N := 6) rfl ?_); refine box_event ?hg (N := 6) ?hd (cs := #[.int .i64 a2]) (t := 3) ?hr ?_; (case hd => rfl); (case hg => rfl); (case hr => first | (go_simp; done) | (go_simp; rfl)); intro gK hgK w3 hbox hb; have nHK := zm (show gH ≠ gK from by rw [hgK]; exact Nat.ne_of_lt (blk_lt BgH.out)); have mg0 := zm (blk_below Bg0.out hb); clear Bg0; have Bg0 := mg0; clear mg0; have mgH := zm (blk_below BgH.out hb); clear BgH; have BgH := mgH; clear mgH;  have ngK := zm hbox; have nB := zm (below_step HB.out hb); have nG := zm (show w.heap.size ≤ gK from by rw [hgK]; exact HB.out.size); clear HB hbox hb hgK; have HB := nB; have BgK := ngK; have GgK := nG; clear nB ngK nG ; have HHK := nHK; clear nHK)
  | ((with_reducible refine gate_dst (N := 7) rfl ?_); refine box_event ?hg (N := 7) ?hd (cs := #[.bool a3]) (t := 4) ?hr ?_; (case hd => rfl); (case hg => rfl); (case hr => first | (go_simp; done) | (go_simp; rfl)); intro gL hgL w4 hbox hb; have mg0 := zm (blk_below Bg0.out hb); clear Bg0; have Bg0 := mg0; clear mg0; have mgH := zm (blk_below BgH.out hb); clear BgH; have BgH := mgH; clear mgH; have mgK := zm (blk_below BgK.out hb); clear BgK; have BgK := mgK; clear mgK;  have ngL := zm hbox; have nB := zm (below_step HB.out hb); have nG := zm (show w.heap.size ≤ gL from by rw [hgL]; exact HB.out.size); clear HB hbox hb hgL; have HB := nB; have BgL := ngL; have GgL := nG; clear nB ngL nG)
  | ((with_reducible refine gate_dst (N := 8) rfl ?_); refine box_event ?hg (N := 8) ?hd (cs := #[.slice none 0 0, .slice none 0 0]) (t := 29) ?hr ?_; (case hd => rfl); (case hg => rfl); (case hr => first | (go_simp; done) | (go_simp; rfl)); intro gR hgR w5 hbox hb; have mg0 := zm (blk_below Bg0.out hb); clear Bg0; have Bg0 := mg0; clear mg0; have mgH := zm (blk_below BgH.out hb); clear BgH; have BgH := mgH; clear mgH; have mgK := zm (blk_below BgK.out hb); clear BgK; have BgK := mgK; clear mgK; have mgL := zm (blk_below BgL.out hb); clear BgL; have BgL := mgL; clear mgL;  have ngR := zm hbox; have nB := zm (below_step HB.out hb); have nG := zm (show w.heap.size ≤ gR from by rw [hgR]; exact HB.out.size); clear HB hbox hb hgR; have HB := nB; have BgR := ngR; have GgR := nG; clear nB ngR nG; have hcg0 : w5.cell? ⟨g0, 0, none⟩ = some (.slice A0_0 l0_0.length c0_0) := (blk_cell Bg0.out 0).trans rfl; have hcg1 : w5.cell? ⟨g0, 1, none⟩ = some (.slice A0_1 l0_1.length c0_1) := (blk_cell Bg0.out 1).trans rfl)
  | ((with_reducible refine gate_callee (f := 51) rfl ?_); refine goesL_ (some 11) rfl rfl Try.func51 (by kernel_rfl) rfl #[.agg #[.slice A0_0 l0_0.length c0_0, .slice A0_1 l0_1.length c0_1]] rfl (by (try simp only [List.map_toArray, List.map_cons, List.map_nil]); first | done | rfl) ?_; (with_reducible refine (impl_Disk_copied.calls A0_0 c0_0 l0_0 A0_1 c0_1 l0_1 t1 t2 _ ?s1 ?s2 ?s3 ?s4 T0.out).mono ?_); (case s1 => exact Kd.C_below HR0.out HB.out); (case s2 => exact HC0.out); (case s3 => exact Kd.C_below HR1.out HB.out); (case s4 => exact HC1.out); rintro e w6 ⟨v0, v1, rfl, ho0, ho1, hb⟩; refine ⟨_, rfl, ?_⟩; have R0 := zm (Kd.R_lower ho0 HB.out.size); have R1 := zm (Kd.R_lower ho1 HB.out.size); have mgH := zm (blk_below BgH.out hb); clear BgH; have BgH := mgH; clear mgH; have mgK := zm (blk_below BgK.out hb); clear BgK; have BgK := mgK; clear mgK; have mgL := zm (blk_below BgL.out hb); clear BgL; have BgL := mgL; clear mgL; have mgR := zm (blk_below BgR.out hb); clear BgR; have BgR := mgR; clear mgR;  have nB := zm (below_step HB.out hb); clear HB hb ho0 ho1 hcg0 hcg1 Bg0; have HB := nB; clear nB)
  | ((with_reducible refine gate_dst (N := 9) rfl ?_); refine box_event ?hg (N := 9) ?hd (cs := #[.slice none 0 0, .slice none 0 0]) (t := 29) ?hr ?_; (case hd => rfl); (case hg => rfl); (case hr => first | (go_simp; done) | (go_simp; rfl)); intro gO hgO w7 hbox hb; have NRO := zm (show gR ≠ gO from by rw [hgO]; exact Nat.ne_of_lt (blk_lt BgR.out)); have mgH := zm (blk_below BgH.out hb); clear BgH; have BgH := mgH; clear mgH; have mgK := zm (blk_below BgK.out hb); clear BgK; have BgK := mgK; clear mgK; have mgL := zm (blk_below BgL.out hb); clear BgL; have BgL := mgL; clear mgL; have mgR := zm (blk_below BgR.out hb); clear BgR; have BgR := mgR; clear mgR;  have mR0 := zm (Kd.R_below R0.out hb); have mR1 := zm (Kd.R_below R1.out hb); have BgO := zm hbox; have nB := zm (below_step HB.out hb); have GgO := zm (show w.heap.size ≤ gO from by rw [hgO]; exact HB.out.size); clear HB hbox hb hgO R0 R1; have HB := nB; have R0 := mR0; have R1 := mR1; clear nB mR0 mR1; have hz0 : w7.cell? ⟨gO, 0, none⟩ = some (.slice none 0 0) := (blk_cell BgO.out 0).trans rfl; have hz1 : w7.cell? ⟨gO, 1, none⟩ = some (.slice none 0 0) := (blk_cell BgO.out 1).trans rfl; have hf0 := blk_frozen BgO.out 0; have hf1 := blk_frozen BgO.out 1; obtain ⟨As, cs, rfl⟩ := Kd.R_slice R0.out; obtain ⟨Ap, cp, rfl⟩ := Kd.R_slice R1.out)
  | ((with_reducible refine gate_store (t := 29) (p := 9) rfl ?_); refine store_event (t := 29) (p := 9) (v := ?vo1) (w1 := ((w7.setCell ⟨gO, 0, none⟩ (.slice As t1.length cs)).setCell ⟨gO, 1, none⟩ (.slice Ap t2.length cp))) ?hg ?ho ?hn ?hr ?_; (case ho => rfl); (case hg => rfl); (case hn => rfl); (case hr => first | (go_simp; done) | (go_simp; rfl)); intro w8 hw; have K78 := (show Kept w7 w8 (fun k_ => k_ = gO) from by rw [hw]; exact Kept.setCell (Kept.setCell (Kept.refl w7 (fun k_ => k_ = gO)) (p := ⟨gO, 0, none⟩) (.inl rfl) _) (p := ⟨gO, 1, none⟩) (.inl rfl) _); have mO := zm (show w8.heap[gO]? = some (.cells #[.slice As t1.length cs, .slice Ap t2.length cp] 29 (0, 0)) from by rw [hw]; exact blk_set (blk_set BgO.out 0 _) 1 _); have mR := zm (blk_kept BgR.out K78 NRO.out); have I8 := zm (show impl_Disk_settle_I w8 w.heap.size gH gK gO gL gR a1 a2 a3 (.slice As t1.length cs) (.slice Ap t2.length cp) t1 from ⟨blk_kept BgH.out K78 (blk_ne BgH.out BgO.out (by decide)), blk_kept BgK.out K78 (blk_ne BgK.out BgO.out (by decide)), mO.out, blk_kept BgL.out K78 (blk_ne BgL.out BgO.out (by decide)), Kd.R_mono (Kd.R_kept (Kd.R_types R0.out BgO.out (by decide)) K78 (fun _ h_ => h_.2)) (fun _ _ => trivial), HHK.out, mR.out⟩); have nR1 := (Kd.R_kept (Kd.R_types R1.out BgO.out (by decide)) K78 (fun _ h_ => h_.2)); have R8 := zm (show Kd.R k76 76 w8 w.heap.size (fun k_ => k_ ≠ gK ∧ some k_ ≠ (.slice As t1.length cs : Value).ownBlock) (.slice Ap t2.length cp) t2 from Kd.R_mono (Kd.R_apart' (v := .slice As t1.length cs) (Kd.R_types nR1 I8.out.k (by decide)) (Kd.R_typed I8.out.s) (by decide)) (fun _ h_ => ⟨h_.1.2, h_.2⟩)); have nB := zm (show Below w.heap.size w w8 from by rw [hw]; exact below_set (below_set HB.out GgO.out) GgO.out); clear hw K78 R0 R1 nR1 HB BgR BgO BgH BgK BgL hz0 hz1 hf0 hf1; have HB := nB; have BgR := mR; clear nB mR mO; have hc1 : w8.cell? ⟨gO, 1, none⟩ = some (.slice Ap t2.length cp) := (blk_cell I8.out.o 1).trans rfl)
  | ((with_reducible refine gate_callee (f := 60) rfl ?_); refine goesL_ (some 15) rfl rfl Try.func60 (by kernel_rfl) rfl #[.slice Ap t2.length cp, .func (.func 61) #[] #[.pointer (some ⟨gH, 0, none⟩), .pointer (some ⟨gK, 0, none⟩), .pointer (some ⟨gO, 0, none⟩), .pointer (some ⟨gL, 0, none⟩)]] rfl (by (try simp only [List.map_toArray, List.map_cons, List.map_nil]); first | done | rfl) ?_; refine (impl_Disk_settle_delete (w0 := w) I8.out HB.out GgK.out R8.out HL.out q1 kf sf HGo.out).mono ?_; rintro e w9 ⟨v9, rfl, hr, hI, hb⟩; refine ⟨_, rfl, ?_⟩; obtain ⟨A9, c9, rfl⟩ := Kd.R_slice hr; have I9 := zm hI; have R9 := zm hr; have B9 := zm hb; clear hI hr hb I8 R8 HB BgR hc1; have hq1 : w9.cell? ⟨gO, 1, none⟩ = some (.slice Ap t2.length cp) := (blk_cell I9.out.o 1).trans rfl; have hfq := blk_frozen I9.out.o 1)
  | ((with_reducible refine gate_store (t := 27) (p := 16) rfl ?_); refine store_event (t := 27) (p := 16) (v := ?vo2) (w1 := (w9.setCell ⟨gO, 1, none⟩ (.slice A9 q1.length c9))) ?hg ?ho ?hn ?hr ?_; (case ho => rfl); (case hg => rfl); (case hn => rfl); (case hr => first | (go_simp; done) | (go_simp; rfl)); intro w10 hw; have K := (show Kept w9 w10 (fun k_ => k_ = gO) from by rw [hw]; exact Kept.setCell (Kept.refl w9 (fun k_ => k_ = gO)) (p := ⟨gO, 1, none⟩) (.inl rfl) _); have O10 := zm (show w10.heap[gO]? = some (.cells #[.slice As t1.length cs, .slice A9 q1.length c9] 29 (0, 0)) from by rw [hw]; exact blk_set I9.out.o 1 _); have Q10 := zm (blk_kept I9.out.r K NRO.out); have S10 := zm (Kd.R_kept (Kd.R_types I9.out.s I9.out.o (by decide)) K (fun _ h_ => h_.2)); have R10 := zm (Kd.R_kept (Kd.R_types R9.out I9.out.o (by decide)) K (fun _ h_ => h_.2)); have B10 := zm (show Below w.heap.size w w10 from by rw [hw]; exact below_set B9.out GgO.out); clear hw K I9 R9 B9 hq1 hfq; have ho0 : w10.cell? ⟨gO, 0, none⟩ = some (.slice As t1.length cs) := (blk_cell O10.out 0).trans rfl; have ho1 : w10.cell? ⟨gO, 1, none⟩ = some (.slice A9 q1.length c9) := (blk_cell O10.out 1).trans rfl; have hr0 : w10.cell? ⟨gR, 0, none⟩ = some (.slice none 0 0) := (blk_cell Q10.out 0).trans rfl; have hr1 : w10.cell? ⟨gR, 1, none⟩ = some (.slice none 0 0) := (blk_cell Q10.out 1).trans rfl; have hfr0 := blk_frozen Q10.out 0; have hfr1 := blk_frozen Q10.out 1)
  | ((with_reducible refine gate_store (t := 29) (p := 8) rfl ?_); refine store_event (t := 29) (p := 8) (v := ?vo3) (w1 := ((w10.setCell ⟨gR, 0, none⟩ (.slice As t1.length cs)).setCell ⟨gR, 1, none⟩ (.slice A9 q1.length c9))) ?hg ?ho ?hn ?hr ?_; (case ho => rfl); (case hg => rfl); (case hn => rfl); (case hr => first | (go_simp; done) | (go_simp; rfl)); intro w11 hw; have K := (show Kept w10 w11 (fun k_ => k_ = gR) from by rw [hw]; exact Kept.setCell (Kept.setCell (Kept.refl w10 (fun k_ => k_ = gR)) (p := ⟨gR, 0, none⟩) (.inl rfl) _) (p := ⟨gR, 1, none⟩) (.inl rfl) _); have Q11 := zm (show w11.heap[gR]? = some (.cells #[.slice As t1.length cs, .slice A9 q1.length c9] 29 (0, 0)) from by rw [hw]; exact blk_set (blk_set Q10.out 0 _) 1 _); have S11 := zm (Kd.R_kept (Kd.R_types S10.out Q10.out (by decide)) K (fun _ h_ => h_.2)); have R11 := zm (Kd.R_kept (Kd.R_types R10.out Q10.out (by decide)) K (fun _ h_ => h_.2)); have B11 := zm (show Below w.heap.size w w11 from by rw [hw]; exact below_set (below_set B10.out GgR.out) GgR.out); clear hw K S10 R10 B10 Q10 O10 ho0 ho1 hr0 hr1 hfr0 hfr1))
 refine bodyPost_ret (results_cell_row rfl _ _ gR 29 #[.slice As t1.length cs, .slice A9 q1.length c9] (0, 0) _ rfl Q11.out Try.underlying29 rfl (by kernel_rfl)) rfl ?_
 exact ⟨_, _, rfl, Kd.R_mono S11.out (fun _ _ => trivial), Kd.R_mono R11.out (fun _ _ => trivial), B11.out⟩
/-! ### spec_l01Own: function 49 -/
def spec_l01Own.f (l0_0 : List ByteArray) (l0_1 : List (S76)) : Option (List ByteArray × (List (S76))) := (some (([] : List ByteArray) : List ByteArray)).bind fun y127 => (if y127.length + l0_0.length < 8796093022208 then ((some (([] : List (S76)) : List (S76))).bind fun y133 => (if y133.length + l0_1.length < 4398046511104 then (some ((y127 ++ l0_0), (y133 ++ l0_1))) else (none))) else (none))
def spec_l01Own.T1 : Bool × List (List Nat × List Nat) := (true, [([], []), ([], []), ([1], [1]), ([0, 2], [0, 2]), ([], []), ([], []), ([5], [5]), ([4, 6, 3], [4, 6]), ([3, 7], [3, 7]), ([8, 7, 0, 1, 2, 3, 4, 5, 6, 7, 8], [8])])
def spec_l01Own.B1 : List Nat := [0, 0, 2, 7, 0, 0, 32, 127, 255, 511]
theorem spec_l01Own.tab1 : rtab .any (opsOf Try.f49 1) = spec_l01Own.T1 := by kernel_rfl
theorem spec_l01Own.bits1 : waitsOk spec_l01Own.T1.2 spec_l01Own.B1 = true := by kernel_rfl
set_option maxHeartbeats 8000000 in
set_option maxRecDepth 100000 in
theorem spec_l01Own.calls (A0_0 : Option Addr) (c0_0 : Nat) (l0_0 : List ByteArray) (A0_1 : Option Addr) (c0_1 : Nat) (l0_1 : List (S76)) (r1 : List ByteArray) (r2 : List (S76)) (w : World) (hr0_0 : Kd.C Kd.string w A0_0 l0_0.length l0_0) (hc0_0 : l0_0.length ≤ c0_0) (hr0_1 : Kd.C k76 w A0_1 l0_1.length l0_1) (hc0_1 : l0_1.length ≤ c0_1) (h : spec_l01Own.f l0_0 l0_1 = some (r1, r2)) :
    Calls Try.prog 49 #[.agg #[.slice A0_0 l0_0.length c0_0, .slice A0_1 l0_1.length c0_1]] w fun e w' => ∃ v0_ v1_ : Value, e = .returned (.agg #[v0_, v1_]) ∧ Kd.R Kd.string 9 w' w.heap.size (fun _ => True) v0_ r1 ∧ Kd.R k76 76 w' w.heap.size (fun _ => True) v1_ r2 ∧ Below w.heap.size w w' := by
 have hu29 := Try.underlying29
 have Zj := zm hr0_0
 have Zm := zm hc0_0
 clear hr0_0 hc0_0
 have Zl := zm hr0_1
 have Zn := zm hc0_1
 clear hr0_1 hc0_1
 have HB := zm (Below.refl w.heap.size w)
 have H : ((some (([] : List ByteArray) : List ByteArray)).bind fun y127 => (if y127.length + l0_0.length < 8796093022208 then ((some (([] : List (S76)) : List (S76))).bind fun y133 => (if y133.length + l0_1.length < 4398046511104 then (some ((y127 ++ l0_0), (y133 ++ l0_1))) else (none))) else (none))) = some (r1, r2) := h
 clear h
 obtain ⟨y127, hy127⟩ : ∃ y_ : List ByteArray, y_ = (([] : List ByteArray)) := ⟨_, rfl⟩
 replace H : (if y127.length + l0_0.length < 8796093022208 then ((some (([] : List (S76)) : List (S76))).bind fun y133 => (if y133.length + l0_1.length < 4398046511104 then (some ((y127 ++ l0_0), (y133 ++ l0_1))) else (none))) else (none)) = some (r1, r2) := by first | (rw [hy127]; with_reducible exact H) | (have H2_ := (Option.bind_some _ _).symm.trans H; rw [hy127]; with_reducible exact H2_) | (have H2_ := (Option.bind_some _ _).symm.trans H; with_reducible exact H2_) | with_reducible exact H | (rw [hy127]; exact H) | exact H
 have Ny127 := zm hy127
 clear hy127
 by_cases c2 : y127.length + l0_0.length < 8796093022208
 ·rw [if_pos c2] at H
  have LMc2 := zm c2
  clear c2
  obtain ⟨y130, hy130⟩ : ∃ y_ : List ByteArray, y_ = (y127 ++ l0_0) := ⟨_, rfl⟩
  replace H : ((some (([] : List (S76)) : List (S76))).bind fun y133 => (if y133.length + l0_1.length < 4398046511104 then (some (y130, (y133 ++ l0_1))) else (none))) = some (r1, r2) := by first | (rw [hy130]; with_reducible exact H) | (have H2_ := (Option.bind_some _ _).symm.trans H; rw [hy130]; with_reducible exact H2_) | (have H2_ := (Option.bind_some _ _).symm.trans H; with_reducible exact H2_) | with_reducible exact H | (rw [hy130]; exact H) | exact H
  have Ny130 := zm hy130
  clear hy130
  obtain ⟨y133, hy133⟩ : ∃ y_ : List (S76), y_ = (([] : List (S76))) := ⟨_, rfl⟩
  replace H : (if y133.length + l0_1.length < 4398046511104 then (some (y130, (y133 ++ l0_1))) else (none)) = some (r1, r2) := by first | (rw [hy133]; with_reducible exact H) | (have H2_ := (Option.bind_some _ _).symm.trans H; rw [hy133]; with_reducible exact H2_) | (have H2_ := (Option.bind_some _ _).symm.trans H; with_reducible exact H2_) | with_reducible exact H | (rw [hy133]; exact H) | exact H
  have Ny133 := zm hy133
  clear hy133
  by_cases c3 : y133.length + l0_1.length < 4398046511104
  ·rw [if_pos c3] at H
   have LMc3 := zm c3
   clear c3
   obtain ⟨y136, hy136⟩ : ∃ y_ : List (S76), y_ = (y133 ++ l0_1) := ⟨_, rfl⟩
   replace H : (some (y130, y136)) = some (r1, r2) := by first | (rw [hy136]; with_reducible exact H) | (have H2_ := (Option.bind_some _ _).symm.trans H; rw [hy136]; with_reducible exact H2_) | (have H2_ := (Option.bind_some _ _).symm.trans H; with_reducible exact H2_) | with_reducible exact H | (rw [hy136]; exact H) | exact H
   have Ny136 := zm hy136
   clear hy136
   simp only [Option.some.injEq, Prod.mk.injEq] at H
   obtain ⟨rfl, rfl⟩ := H
   go_enter Try.func49, Try.ntmps49
   try go_wp2_with (first | ((with_reducible refine gate_dst (N := 1) rfl ?_); refine box_event ?hg (N := 1) ?hd (cs := #[.slice A0_0 l0_0.length c0_0, .slice A0_1 l0_1.length c0_1]) (t := 29) ?hr ?_; (case hd => rfl); (case hg => rfl); (case hr => first | (go_simp; done) | (go_simp; rfl)); intro gb125 hg w4 hbox hb; have n0_ := zm (below_step (zg_0 HB.out) hb); have n1_ := zm (hbox); have n2_ := zm ((by rw [hg]; exact (below_size (zg_0 HB.out)) : w.heap.size ≤ gb125)); have n3_ := zm ((by rw [hg]; exact (below_size (zg_0 HB.out)) : w.heap.size ≤ gb125)); clear HB; have HB := n0_; have Za := n1_; have Zo := n2_; have Zc := n3_; clear n0_ n1_ n2_ n3_; clear hb hbox hg) | ((with_reducible refine gate_dst (N := 2) rfl ?_); refine box_event ?hg (N := 2) ?hd (cs := #[.slice none 0 0, .slice none 0 0]) (t := 29) ?hr ?_; (case hd => rfl); (case hg => rfl); (case hr => first | (go_simp; done) | (go_simp; rfl)); intro gb126 hg w5 hbox hb; have n0_ := zm (blk_below (g := gb125) (o := .cells #[.slice A0_0 l0_0.length c0_0, .slice A0_1 l0_1.length c0_1] 29 (0, 0)) (zg_2 Za.out) hb); have n1_ := zm (below_step (zg_1 HB.out Zc.out) hb); have n2_ := zm (hbox); have n3_ := zm ((by rw [hg]; exact (below_size (zg_1 HB.out Zc.out)) : w.heap.size ≤ gb126)); have n4_ := zm ((by rw [hg]; exact (below_size (zg_1 HB.out Zc.out)) : w.heap.size ≤ gb126)); have n5_ := zm ((by rw [hg]; exact Nat.ne_of_lt (blk_lt (g := gb125) (o := .cells #[.slice A0_0 l0_0.length c0_0, .slice A0_1 l0_1.length c0_1] 29 (0, 0)) (zg_2 Za.out)) : gb125 ≠ gb126)); have n6_ := zm ((by rw [hg]; exact Nat.ne_of_gt (blk_lt (g := gb125) (o := .cells #[.slice A0_0 l0_0.length c0_0, .slice A0_1 l0_1.length c0_1] 29 (0, 0)) (zg_2 Za.out)) : gb126 ≠ gb125)); clear Za; clear HB; have Za := n0_; have HB := n1_; have Zb := n2_; have Zp := n3_; have Zd := n4_; have Zg := n5_; have Zi := n6_; clear n0_ n1_ n2_ n3_ n4_ n5_ n6_; clear hb hbox hg))
   have n0_ := zm (blk_drew Za.out)
   have n1_ := zm (blk_drew Zb.out)
   have n2_ := zm (below_drew1 HB.out)
   clear Za
   clear Zb
   clear HB
   have Za := n0_
   have Zb := n1_
   have HB := n2_
   clear n0_ n1_ n2_
   refine start_ (n := 10) (S := fun w' => w'.cell? ⟨gb125, 0, none⟩ = some (.slice A0_0 l0_0.length c0_0) ∧ w'.cell? ⟨gb125, 1, none⟩ = some (.slice A0_1 l0_1.length c0_1)) (ds := []) #[false, false, false, false, false, false, false, false, false, false] (by kernel_rfl) rfl rfl ⟨(blk_cell Za.out 0).trans rfl, (blk_cell Za.out 1).trans rfl⟩ (fun hHeld => ?_); refine with_tabW spec_l01Own.tab1 spec_l01Own.bits1 (fun HT_ HW_ => ?_)
   generalize w5.drew = w6 at Za Zb HB hHeld ⊢
   refine pure_ (i := 1) (N := some 4) (v := ?_) (a' := ?_) #[false, true, false, false, false, false, false, false, false, false] rfl rfl (any_of HT_.out (by kernel_rfl)) (fun _ _ _ h => h) (Or.inl ⟨by rfl, ?_⟩) ?_ ?_
   rotate_left
   ·intro w'
    go_simp
    with_reducible rfl
   rotate_left
   ·simp only [Act.put, zs, zz, zt, i64_w, i32_w]
    rfl
   refine pure_ (i := 5) (N := some 8) (v := ?_) (a' := ?_) #[false, true, false, false, false, true, false, false, false, false] rfl rfl (any_of HT_.out (by kernel_rfl)) (fun _ _ _ h => h) (Or.inl ⟨by rfl, ?_⟩) ?_ ?_
   rotate_left
   ·intro w'
    go_simp
    with_reducible rfl
   rotate_left
   ·simp only [Act.put, zs, zz, zt, i64_w, i32_w]
    rfl
   refine take_ (i := 2) (N := some 5) (v := ?_) (a' := ?_) #[false, true, true, false, false, true, false, false, false, false] rfl rfl (take_ofW HT_.out HW_.out (by kernel_rfl)) (fun _ _ _ h => h) (Or.inl ⟨by rfl, ?_⟩) hHeld ?_ ?_
   rotate_left
   ·rintro w' ⟨s0, s1⟩
    go_simp
    with_reducible rfl
   rotate_left
   ·simp only [Act.put, zs, zz, zt, i64_w, i32_w]
    rfl
   refine take_ (i := 6) (N := some 9) (v := ?_) (a' := ?_) #[false, true, true, false, false, true, true, false, false, false] rfl rfl (take_ofW HT_.out HW_.out (by kernel_rfl)) (fun _ _ _ h => h) (Or.inl ⟨by rfl, ?_⟩) hHeld ?_ ?_
   rotate_left
   ·rintro w' ⟨s0, s1⟩
    go_simp
    with_reducible rfl
   rotate_left
   ·simp only [Act.put, zs, zz, zt, i64_w, i32_w]
    rfl
   refine join_ (σ := Value × Value × Value) 3 #[true, true, true, true, true, true, true, false, false, false] (fun s_ => [(3, s_.1), (6, s_.2.1), (7, s_.2.2)]) (fun s_ w' => (w'.cell? ⟨gb125, 0, none⟩ = some (.slice A0_0 l0_0.length c0_0) ∧ w'.cell? ⟨gb125, 1, none⟩ = some (.slice A0_1 l0_1.length c0_1)) ∧ (Kd.R Kd.string 9 w' w.heap.size (fun _ => True) s_.2.1 y130) ∧ (Kd.R k76 76 w' w.heap.size (fun _ => True) s_.2.2 y133) ∧ (w'.heap[gb125]? = some (.cells #[.slice A0_0 l0_0.length c0_0, .slice A0_1 l0_1.length c0_1] 29 (0, 0))) ∧ (w'.heap[gb126]? = some (.cells #[.slice none 0 0, .slice none 0 0] 29 (0, 0))) ∧ (Below w.heap.size w w')) ?_ ?_
   rotate_left
   ·intro hCont
    refine two_ (i := 0) (j := 4) (Ni := some 3) (Nj := some 7) #[true, true, true, false, false, true, true, false, false, false] #[false, true, true, false, true, true, true, false, false, false] rfl rfl rfl rfl (two_of HT_.out (by kernel_rfl)) (by decide) (by decide) (fun K hK => ?_) (fun K hK => ?_)
    ·skip
     refine Kd.R_lit_step Kd.string _ 9 ?hg (N := 3) ?hd (xs := ([] : List ByteArray)) (inner := []) (ok := fun _ => True) (okp := fun _ => True) ?hr ?hp (fun _ hk => hk) trivial (Below.refl _ _) (Nat.le_refl _) (by simp) ?_; (case hd => rfl); (case hg => rfl); (case hr => first | (go_simp; done) | (go_simp; rfl)); (case hp => exact (Reps.none _ _))
     intro v128 w7 ho8 hb hg_ hnew_
     clear hg_ hnew_
     (first | rw [← Ny127.out] at ho8 | (simp only [Int.reduceToNat] at ho8; rw [← Ny127.out] at ho8))
     have n0_ := zm (Kd.R_lower ho8 (below_size (zg_4 HB.out Zc.out Zd.out)))
     have n1_ := zm (blk_below (g := gb125) (o := .cells #[.slice A0_0 l0_0.length c0_0, .slice A0_1 l0_1.length c0_1] 29 (0, 0)) (zg_2 Za.out) hb)
     have n2_ := zm (blk_below (g := gb126) (o := .cells #[.slice none 0 0, .slice none 0 0] 29 (0, 0)) (zg_2 Zb.out) hb)
     have n3_ := zm (below_step (zg_4 HB.out Zc.out Zd.out) hb)
     clear Za
     clear Zb
     clear HB
     have Zf := n0_
     have Za := n1_
     have Zb := n2_
     have HB := n3_
     clear n0_ n1_ n2_ n3_
     clear hb ho8
     refine hK.out _ _ ⟨(blk_cell Za.out 0).trans rfl, (blk_cell Za.out 1).trans rfl⟩ (fun hHeld => ?_)
     clear hK K
     refine norm_ (a' := ?_) ?_ ?_
     rotate_left
     ·show Act.put _ (some 3) _ = _
      simp only [Act.put, zs, zz, zt, i64_w, i32_w]
      rfl
     refine two_ (i := 3) (j := 4) (Ni := some 6) (Nj := some 7) #[true, true, true, true, false, true, true, false, false, false] #[true, true, true, false, true, true, true, false, false, false] rfl rfl rfl rfl (two_of HT_.out (by kernel_rfl)) (by decide) (by decide) (fun K hK => ?_) (fun K hK => ?_)
     ·skip
      refine Kd.R_append_rows_step Kd.string (w0 := w) w.heap.size (by rfl) (.tmp 3) (.tmp 5) 22 9 (.string ⟨#[]⟩) 16 rfl Try.underlying22 info9 rfl (by decide) (by omega) v128 y127 l0_0 _ _ _ (fun _ => True) (fun _ => False) rfl rfl ?aO ?aR (fun _ _ h => h) (fun _ h => h.elim) ?aF ?aB ?aS ?aL ?_
      (case aR => repeat (first | exact (Kd.C_below Zj.out HB.out) | (with_reducible refine Kd.C_alloc ?_ _) | (with_reducible refine Kd.C_drewN ?_ _) | (with_reducible refine Kd.C_drew ?_)))
      (case aB => exact (zg_4 HB.out Zc.out Zd.out))
      (case aF => exact (fun _ _ => trivial))
      (case aO => exact (zg_3 Zf.out))
      (case aS => exact (below_size (zg_4 HB.out Zc.out Zd.out)))
      (case aL => have := LMc2.out; omega)
      intro v131 w9 ho hb hg hat
      rw [← Ny130.out] at ho
      have n0_ := zm (blk_grown (g := gb125) (o := .cells #[.slice A0_0 l0_0.length c0_0, .slice A0_1 l0_1.length c0_1] 29 (0, 0)) (zg_2 Za.out) hg (Kd.R_ne Zf.out Za.out (by decide)))
      have n1_ := zm (blk_grown (g := gb126) (o := .cells #[.slice none 0 0, .slice none 0 0] 29 (0, 0)) (zg_2 Zb.out) hg (Kd.R_ne Zf.out Zb.out (by decide)))
      have n2_ := zm (hb)
      have n3_ := zm (ho)
      clear Za
      clear Zb
      clear HB
      clear Zf
      have Za := n0_
      have Zb := n1_
      have HB := n2_
      have Zh := n3_
      clear n0_ n1_ n2_ n3_
      clear ho hb hg hat
      refine hK.out _ _ ⟨(blk_cell Za.out 0).trans rfl, (blk_cell Za.out 1).trans rfl⟩ (fun hHeld => ?_)
      clear hK K
      refine norm_ (a' := ?_) ?_ ?_
      rotate_left
      ·show Act.put _ (some 6) _ = _
       simp only [Act.put, zs, zz, zt, i64_w, i32_w]
       rfl
      refine one_ (i := 4) (N := some 7) #[true, true, true, true, true, true, true, false, false, false] rfl rfl (one_of HT_.out (by kernel_rfl)) (by decide) (fun K hK => ?_)
      refine Kd.R_lit_step k76 _ 76 ?hg (N := 7) ?hd (xs := ([] : List (S76))) (inner := []) (ok := fun _ => True) (okp := fun _ => True) ?hr ?hp (fun _ hk => hk) trivial (Below.refl _ _) (Nat.le_refl _) (by simp) ?_; (case hd => rfl); (case hg => rfl); (case hr => first | (go_simp; done) | (go_simp; rfl)); (case hp => exact (Reps.none _ _))
      intro v134 w10 ho11 hb hg_ hnew_
      clear hg_ hnew_
      (first | rw [← Ny133.out] at ho11 | (simp only [Int.reduceToNat] at ho11; rw [← Ny133.out] at ho11))
      have n0_ := zm (Kd.R_below (zg_3 Zh.out) hb)
      have n1_ := zm (Kd.R_lower ho11 (below_size (zg_4 HB.out Zc.out Zd.out)))
      have n2_ := zm (blk_below (g := gb125) (o := .cells #[.slice A0_0 l0_0.length c0_0, .slice A0_1 l0_1.length c0_1] 29 (0, 0)) (zg_2 Za.out) hb)
      have n3_ := zm (blk_below (g := gb126) (o := .cells #[.slice none 0 0, .slice none 0 0] 29 (0, 0)) (zg_2 Zb.out) hb)
      have n4_ := zm (below_step (zg_4 HB.out Zc.out Zd.out) hb)
      clear Zh
      clear Za
      clear Zb
      clear HB
      have Zh := n0_
      have Ze := n1_
      have Za := n2_
      have Zb := n3_
      have HB := n4_
      clear n0_ n1_ n2_ n3_ n4_
      clear hb ho11
      refine hK.out _ _ ⟨(blk_cell Za.out 0).trans rfl, (blk_cell Za.out 1).trans rfl⟩ (fun hHeld => ?_)
      clear hK K
      refine norm_ (a' := ?_) ?_ ?_
      rotate_left
      ·show Act.put _ (some 7) _ = _
       simp only [Act.put, zs, zz, zt, i64_w, i32_w]
       rfl
      exact norm_ (by simp only [putAll, Act.put, zs, zz, zt]) (hCont (v128, v131, v134) _ ⟨hHeld, (zg_3 Zh.out), (zg_3 Ze.out), (zg_2 Za.out), (zg_2 Zb.out), (zg_4 HB.out Zc.out Zd.out)⟩)
     ·skip
      refine Kd.R_lit_step k76 _ 76 ?hg (N := 7) ?hd (xs := ([] : List (S76))) (inner := []) (ok := fun _ => True) (okp := fun _ => True) ?hr ?hp (fun _ hk => hk) trivial (Below.refl _ _) (Nat.le_refl _) (by simp) ?_; (case hd => rfl); (case hg => rfl); (case hr => first | (go_simp; done) | (go_simp; rfl)); (case hp => exact (Reps.none _ _))
      intro v134 w9 ho10 hb hg_ hnew_
      clear hg_ hnew_
      (first | rw [← Ny133.out] at ho10 | (simp only [Int.reduceToNat] at ho10; rw [← Ny133.out] at ho10))
      have n0_ := zm (Kd.R_below (zg_3 Zf.out) hb)
      have n1_ := zm (Kd.R_lower ho10 (below_size (zg_4 HB.out Zc.out Zd.out)))
      have n2_ := zm (blk_below (g := gb125) (o := .cells #[.slice A0_0 l0_0.length c0_0, .slice A0_1 l0_1.length c0_1] 29 (0, 0)) (zg_2 Za.out) hb)
      have n3_ := zm (blk_below (g := gb126) (o := .cells #[.slice none 0 0, .slice none 0 0] 29 (0, 0)) (zg_2 Zb.out) hb)
      have n4_ := zm (below_step (zg_4 HB.out Zc.out Zd.out) hb)
      clear Zf
      clear Za
      clear Zb
      clear HB
      have Zf := n0_
      have Ze := n1_
      have Za := n2_
      have Zb := n3_
      have HB := n4_
      clear n0_ n1_ n2_ n3_ n4_
      clear hb ho10
      refine hK.out _ _ ⟨(blk_cell Za.out 0).trans rfl, (blk_cell Za.out 1).trans rfl⟩ (fun hHeld => ?_)
      clear hK K
      refine norm_ (a' := ?_) ?_ ?_
      rotate_left
      ·show Act.put _ (some 7) _ = _
       simp only [Act.put, zs, zz, zt, i64_w, i32_w]
       rfl
      refine one_ (i := 3) (N := some 6) #[true, true, true, true, true, true, true, false, false, false] rfl rfl (one_of HT_.out (by kernel_rfl)) (by decide) (fun K hK => ?_)
      refine Kd.R_append_rows_step Kd.string (w0 := w) w.heap.size (by rfl) (.tmp 3) (.tmp 5) 22 9 (.string ⟨#[]⟩) 16 rfl Try.underlying22 info9 rfl (by decide) (by omega) v128 y127 l0_0 _ _ _ (fun _ => True) (fun _ => False) rfl rfl ?aO ?aR (fun _ _ h => h) (fun _ h => h.elim) ?aF ?aB ?aS ?aL ?_
      (case aR => repeat (first | exact (Kd.C_below Zj.out HB.out) | (with_reducible refine Kd.C_alloc ?_ _) | (with_reducible refine Kd.C_drewN ?_ _) | (with_reducible refine Kd.C_drew ?_)))
      (case aB => exact (zg_4 HB.out Zc.out Zd.out))
      (case aF => exact (fun _ _ => trivial))
      (case aO => exact (zg_3 Zf.out))
      (case aS => exact (below_size (zg_4 HB.out Zc.out Zd.out)))
      (case aL => have := LMc2.out; omega)
      intro v131 w11 ho hb hg hat
      rw [← Ny130.out] at ho
      have n0_ := zm (blk_grown (g := gb125) (o := .cells #[.slice A0_0 l0_0.length c0_0, .slice A0_1 l0_1.length c0_1] 29 (0, 0)) (zg_2 Za.out) hg (Kd.R_ne Zf.out Za.out (by decide)))
      have n1_ := zm (blk_grown (g := gb126) (o := .cells #[.slice none 0 0, .slice none 0 0] 29 (0, 0)) (zg_2 Zb.out) hg (Kd.R_ne Zf.out Zb.out (by decide)))
      have n2_ := zm (Kd.R_over' (zg_3 Ze.out) (Kd.R_typed (zg_3 Zf.out)) (by decide) hg)
      have n3_ := zm (hb)
      have n4_ := zm (ho)
      clear Za
      clear Zb
      clear Ze
      clear HB
      clear Zf
      have Za := n0_
      have Zb := n1_
      have Ze := n2_
      have HB := n3_
      have Zh := n4_
      clear n0_ n1_ n2_ n3_ n4_
      clear ho hb hg hat
      refine hK.out _ _ ⟨(blk_cell Za.out 0).trans rfl, (blk_cell Za.out 1).trans rfl⟩ (fun hHeld => ?_)
      clear hK K
      refine norm_ (a' := ?_) ?_ ?_
      rotate_left
      ·show Act.put _ (some 6) _ = _
       simp only [Act.put, zs, zz, zt, i64_w, i32_w]
       rfl
      exact norm_ (by simp only [putAll, Act.put, zs, zz, zt]) (hCont (v128, v131, v134) _ ⟨hHeld, (zg_3 Zh.out), (zg_3 Ze.out), (zg_2 Za.out), (zg_2 Zb.out), (zg_4 HB.out Zc.out Zd.out)⟩)
    ·skip
     refine Kd.R_lit_step k76 _ 76 ?hg (N := 7) ?hd (xs := ([] : List (S76))) (inner := []) (ok := fun _ => True) (okp := fun _ => True) ?hr ?hp (fun _ hk => hk) trivial (Below.refl _ _) (Nat.le_refl _) (by simp) ?_; (case hd => rfl); (case hg => rfl); (case hr => first | (go_simp; done) | (go_simp; rfl)); (case hp => exact (Reps.none _ _))
     intro v134 w7 ho8 hb hg_ hnew_
     clear hg_ hnew_
     (first | rw [← Ny133.out] at ho8 | (simp only [Int.reduceToNat] at ho8; rw [← Ny133.out] at ho8))
     have n0_ := zm (Kd.R_lower ho8 (below_size (zg_4 HB.out Zc.out Zd.out)))
     have n1_ := zm (blk_below (g := gb125) (o := .cells #[.slice A0_0 l0_0.length c0_0, .slice A0_1 l0_1.length c0_1] 29 (0, 0)) (zg_2 Za.out) hb)
     have n2_ := zm (blk_below (g := gb126) (o := .cells #[.slice none 0 0, .slice none 0 0] 29 (0, 0)) (zg_2 Zb.out) hb)
     have n3_ := zm (below_step (zg_4 HB.out Zc.out Zd.out) hb)
     clear Za
     clear Zb
     clear HB
     have Ze := n0_
     have Za := n1_
     have Zb := n2_
     have HB := n3_
     clear n0_ n1_ n2_ n3_
     clear hb ho8
     refine hK.out _ _ ⟨(blk_cell Za.out 0).trans rfl, (blk_cell Za.out 1).trans rfl⟩ (fun hHeld => ?_)
     clear hK K
     refine norm_ (a' := ?_) ?_ ?_
     rotate_left
     ·show Act.put _ (some 7) _ = _
      simp only [Act.put, zs, zz, zt, i64_w, i32_w]
      rfl
     refine one_ (i := 0) (N := some 3) #[true, true, true, false, true, true, true, false, false, false] rfl rfl (one_of HT_.out (by kernel_rfl)) (by decide) (fun K hK => ?_)
     refine Kd.R_lit_step Kd.string _ 9 ?hg (N := 3) ?hd (xs := ([] : List ByteArray)) (inner := []) (ok := fun _ => True) (okp := fun _ => True) ?hr ?hp (fun _ hk => hk) trivial (Below.refl _ _) (Nat.le_refl _) (by simp) ?_; (case hd => rfl); (case hg => rfl); (case hr => first | (go_simp; done) | (go_simp; rfl)); (case hp => exact (Reps.none _ _))
     intro v128 w9 ho10 hb hg_ hnew_
     clear hg_ hnew_
     (first | rw [← Ny127.out] at ho10 | (simp only [Int.reduceToNat] at ho10; rw [← Ny127.out] at ho10))
     have n0_ := zm (Kd.R_below (zg_3 Ze.out) hb)
     have n1_ := zm (Kd.R_lower ho10 (below_size (zg_4 HB.out Zc.out Zd.out)))
     have n2_ := zm (blk_below (g := gb125) (o := .cells #[.slice A0_0 l0_0.length c0_0, .slice A0_1 l0_1.length c0_1] 29 (0, 0)) (zg_2 Za.out) hb)
     have n3_ := zm (blk_below (g := gb126) (o := .cells #[.slice none 0 0, .slice none 0 0] 29 (0, 0)) (zg_2 Zb.out) hb)
     have n4_ := zm (below_step (zg_4 HB.out Zc.out Zd.out) hb)
     clear Ze
     clear Za
     clear Zb
     clear HB
     have Ze := n0_
     have Zf := n1_
     have Za := n2_
     have Zb := n3_
     have HB := n4_
     clear n0_ n1_ n2_ n3_ n4_
     clear hb ho10
     refine hK.out _ _ ⟨(blk_cell Za.out 0).trans rfl, (blk_cell Za.out 1).trans rfl⟩ (fun hHeld => ?_)
     clear hK K
     refine norm_ (a' := ?_) ?_ ?_
     rotate_left
     ·show Act.put _ (some 3) _ = _
      simp only [Act.put, zs, zz, zt, i64_w, i32_w]
      rfl
     refine one_ (i := 3) (N := some 6) #[true, true, true, true, true, true, true, false, false, false] rfl rfl (one_of HT_.out (by kernel_rfl)) (by decide) (fun K hK => ?_)
     refine Kd.R_append_rows_step Kd.string (w0 := w) w.heap.size (by rfl) (.tmp 3) (.tmp 5) 22 9 (.string ⟨#[]⟩) 16 rfl Try.underlying22 info9 rfl (by decide) (by omega) v128 y127 l0_0 _ _ _ (fun _ => True) (fun _ => False) rfl rfl ?aO ?aR (fun _ _ h => h) (fun _ h => h.elim) ?aF ?aB ?aS ?aL ?_
     (case aR => repeat (first | exact (Kd.C_below Zj.out HB.out) | (with_reducible refine Kd.C_alloc ?_ _) | (with_reducible refine Kd.C_drewN ?_ _) | (with_reducible refine Kd.C_drew ?_)))
     (case aB => exact (zg_4 HB.out Zc.out Zd.out))
     (case aF => exact (fun _ _ => trivial))
     (case aO => exact (zg_3 Zf.out))
     (case aS => exact (below_size (zg_4 HB.out Zc.out Zd.out)))
     (case aL => have := LMc2.out; omega)
     intro v131 w11 ho hb hg hat
     rw [← Ny130.out] at ho
     have n0_ := zm (blk_grown (g := gb125) (o := .cells #[.slice A0_0 l0_0.length c0_0, .slice A0_1 l0_1.length c0_1] 29 (0, 0)) (zg_2 Za.out) hg (Kd.R_ne Zf.out Za.out (by decide)))
     have n1_ := zm (blk_grown (g := gb126) (o := .cells #[.slice none 0 0, .slice none 0 0] 29 (0, 0)) (zg_2 Zb.out) hg (Kd.R_ne Zf.out Zb.out (by decide)))
     have n2_ := zm (Kd.R_over' (zg_3 Ze.out) (Kd.R_typed (zg_3 Zf.out)) (by decide) hg)
     have n3_ := zm (hb)
     have n4_ := zm (ho)
     clear Za
     clear Zb
     clear Ze
     clear HB
     clear Zf
     have Za := n0_
     have Zb := n1_
     have Ze := n2_
     have HB := n3_
     have Zh := n4_
     clear n0_ n1_ n2_ n3_ n4_
     clear ho hb hg hat
     refine hK.out _ _ ⟨(blk_cell Za.out 0).trans rfl, (blk_cell Za.out 1).trans rfl⟩ (fun hHeld => ?_)
     clear hK K
     refine norm_ (a' := ?_) ?_ ?_
     rotate_left
     ·show Act.put _ (some 6) _ = _
      simp only [Act.put, zs, zz, zt, i64_w, i32_w]
      rfl
     exact norm_ (by simp only [putAll, Act.put, zs, zz, zt]) (hCont (v128, v131, v134) _ ⟨hHeld, (zg_3 Zh.out), (zg_3 Ze.out), (zg_2 Za.out), (zg_2 Zb.out), (zg_4 HB.out Zc.out Zd.out)⟩)
   rintro ⟨v128, v131, v134⟩ w12 ⟨hS_, h0_, h1_, h2_, h3_, h4_⟩
   have n0_ : Aside0 (Kd.R Kd.string 9 w12 w.heap.size (fun _ => True) v131 y130) := ⟨h0_⟩
   have n1_ : Aside0 (Kd.R k76 76 w12 w.heap.size (fun _ => True) v134 y133) := ⟨h1_⟩
   have n2_ : Aside0 (w12.heap[gb125]? = some (.cells #[.slice A0_0 l0_0.length c0_0, .slice A0_1 l0_1.length c0_1] 29 (0, 0))) := ⟨h2_⟩
   have n3_ : Aside0 (w12.heap[gb126]? = some (.cells #[.slice none 0 0, .slice none 0 0] 29 (0, 0))) := ⟨h3_⟩
   have n4_ : Aside0 (Below w.heap.size w w12) := ⟨h4_⟩
   clear Za
   clear Zb
   clear HB
   clear h0_ h1_ h2_ h3_ h4_
   have Zh := n0_
   have Ze := n1_
   have Za := n2_
   have Zb := n3_
   have HB := n4_
   clear n0_ n1_ n2_ n3_ n4_
   have hHeld : w12.cell? ⟨gb125, 0, none⟩ = some (.slice A0_0 l0_0.length c0_0) ∧ w12.cell? ⟨gb125, 1, none⟩ = some (.slice A0_1 l0_1.length c0_1) := hS_
   refine norm_ (a' := ?_) ?_ ?_
   rotate_left
   ·simp only [putAll, Act.put, zs, zz, zt]
    rfl
   refine one_ (i := 7) (N := some 10) #[true, true, true, true, true, true, true, true, false, false] rfl rfl (one_of HT_.out (by kernel_rfl)) (by decide) (fun K hK => ?_)
   refine Kd.R_append_rows_step k76 (w0 := w) w.heap.size (by rfl) (.tmp 7) (.tmp 9) 27 76 (.agg #[(.int .i64 0), (.int .i64 0), (.string ⟨#[]⟩)]) 32 rfl Try.underlying27 info76 rfl (by decide) (by omega) v134 y133 l0_1 _ _ _ (fun _ => True) (fun _ => False) rfl rfl ?aO ?aR (fun _ _ h => h) (fun _ h => h.elim) ?aF ?aB ?aS ?aL ?_
   (case aR => repeat (first | exact (Kd.C_below Zl.out HB.out) | (with_reducible refine Kd.C_alloc ?_ _) | (with_reducible refine Kd.C_drewN ?_ _) | (with_reducible refine Kd.C_drew ?_)))
   (case aB => exact (zg_4 HB.out Zc.out Zd.out))
   (case aF => exact (fun _ _ => trivial))
   (case aO => exact (zg_3 Ze.out))
   (case aS => exact (below_size (zg_4 HB.out Zc.out Zd.out)))
   (case aL => have := LMc3.out; omega)
   intro v137 w13 ho hb hg hat
   rw [← Ny136.out] at ho
   have n0_ := zm (blk_grown (g := gb125) (o := .cells #[.slice A0_0 l0_0.length c0_0, .slice A0_1 l0_1.length c0_1] 29 (0, 0)) (zg_2 Za.out) hg (Kd.R_ne Ze.out Za.out (by decide)))
   have n1_ := zm (blk_grown (g := gb126) (o := .cells #[.slice none 0 0, .slice none 0 0] 29 (0, 0)) (zg_2 Zb.out) hg (Kd.R_ne Ze.out Zb.out (by decide)))
   have n2_ := zm (Kd.R_over' (zg_3 Zh.out) (Kd.R_typed (zg_3 Ze.out)) (by decide) hg)
   have n3_ := zm (hb)
   have n4_ := zm (ho)
   clear Za
   clear Zb
   clear Zh
   clear HB
   clear Ze
   have Za := n0_
   have Zb := n1_
   have Zh := n2_
   have HB := n3_
   have Zk := n4_
   clear n0_ n1_ n2_ n3_ n4_
   clear ho hb hg hat
   obtain ⟨Ao14, co14, eo14⟩ := Kd.R_slice Zk.out
   (first | subst eo14 | (injection eo14 with f1_ f2_ f3_; have f4_ := f1_.symm; have f5_ := f3_.symm; clear f1_ f2_ f3_; subst f4_; subst f5_))
   obtain ⟨Ao15, co15, eo15⟩ := Kd.R_slice Zh.out
   (first | subst eo15 | (injection eo15 with f1_ f2_ f3_; have f4_ := f1_.symm; have f5_ := f3_.symm; clear f1_ f2_ f3_; subst f4_; subst f5_))
   refine hK.out _ _ ⟨(blk_cell Za.out 0).trans rfl, (blk_cell Za.out 1).trans rfl⟩ (fun hHeld => ?_)
   clear hK K
   refine norm_ (a' := ?_) ?_ ?_
   rotate_left
   ·show Act.put _ (some 10) _ = _
    simp only [Act.put, zs, zz, zt, i64_w, i32_w]
    rfl
   refine pure_ (i := 8) (N := some 11) (v := ?_) (a' := ?_) #[true, true, true, true, true, true, true, true, true, false] rfl rfl (any_of HT_.out (by kernel_rfl)) (fun _ _ _ h => h) (Or.inl ⟨by rfl, ?_⟩) ?_ ?_
   rotate_left
   ·intro w'
    go_simp
    with_reducible rfl
   rotate_left
   ·simp only [Act.put, zs, zz, zt, i64_w, i32_w]
    rfl
   refine one_ (i := 9) (N := none) #[true, true, true, true, true, true, true, true, true, true] rfl rfl (one_of HT_.out (by kernel_rfl)) (by decide) (fun K hK => ?_)
   have hs16 : w13.cell? ⟨gb126, 0, none⟩ = some (.slice none 0 0) := (blk_cell Zb.out 0).trans rfl
   have hfs16 := blk_frozen Zb.out 0
   have hns16_0 := Zg.out
   have hms16_0 := Zi.out
   have hs17 : w13.cell? ⟨gb126, 1, none⟩ = some (.slice none 0 0) := (blk_cell Zb.out 1).trans rfl
   have hfs17 := blk_frozen Zb.out 1
   have hns17_0 := Zg.out
   have hms17_0 := Zi.out
   refine skip_ (w1 := ?_) (by rfl) rfl ?_ ?_
   rotate_left
   ·go_simp
    rfl
   refine hK.out _ _ ⟨((cell_far (p := ⟨gb126, _, none⟩) Zg.out _).trans (((cell_far (p := ⟨gb126, _, none⟩) Zg.out _).trans (hHeld.1)))), ((cell_far (p := ⟨gb126, _, none⟩) Zg.out _).trans (((cell_far (p := ⟨gb126, _, none⟩) Zg.out _).trans (hHeld.2))))⟩ (fun hHeld => ?_)
   clear hK K
   refine done_ (done_of HT_.out (by kernel_rfl)) ?_
   try go_wp2
   refine bodyPost_ret (results_cell_row rfl _ _ gb126 29 #[.slice Ao15 y130.length co15, .slice Ao14 y136.length co14] (0, 0) _ rfl (by (with_reducible repeat (first | refine blk_drewN ?_ _ | refine blk_drew ?_ | refine blk_alloc ?_ _)); refine blk_put (cs := #[.slice Ao15 y130.length co15, .slice none 0 0]) ?_ 1 _ rfl; (with_reducible repeat (first | refine blk_drewN ?_ _ | refine blk_drew ?_ | refine blk_alloc ?_ _)); refine blk_put (cs := #[.slice none 0 0, .slice none 0 0]) ?_ 0 _ rfl; (with_reducible repeat (first | refine blk_drewN ?_ _ | refine blk_drew ?_ | refine blk_alloc ?_ _)); exact Zb.out) Try.underlying29 rfl (by kernel_rfl)) rfl ?_
   exact ⟨_, _, by first | rfl | (simp [errW_none, errW_some] <;> rfl) | (simp [*, errW_none, errW_some] <;> rfl), by (with_reducible repeat (first | apply Kd.R_alloc | apply Kd.R_drewN | apply Kd.R_drew)); exact Kd.R_mono (Kd.R_far (p := ⟨gb126, 1, none⟩) (Kd.R_far (p := ⟨gb126, 0, none⟩) (Kd.R_types Zh.out Zb.out (by decide)) (fun _ hk => hk.2) (.slice Ao15 y130.length co15)) (fun _ hk => hk.2) (.slice Ao14 y136.length co14)) (fun _ hk => trivial), by (with_reducible repeat (first | apply Kd.R_alloc | apply Kd.R_drewN | apply Kd.R_drew)); exact Kd.R_mono (Kd.R_far (p := ⟨gb126, 1, none⟩) (Kd.R_far (p := ⟨gb126, 0, none⟩) (Kd.R_types Zk.out Zb.out (by decide)) (fun _ hk => hk.2) (.slice Ao15 y130.length co15)) (fun _ hk => hk.2) (.slice Ao14 y136.length co14)) (fun _ hk => trivial), zg_4 HB.out Zc.out Zd.out⟩
  ·rw [if_neg c3] at H
   exact absurd H (by simp)
 ·rw [if_neg c2] at H
  exact absurd H (by simp)
end Go.Proofs.Ytadelojhfepkeaa.Q
