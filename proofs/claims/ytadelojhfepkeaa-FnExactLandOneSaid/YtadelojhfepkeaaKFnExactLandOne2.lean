/- What laws.FnExactLandOne reaches, part 2: the functions as Lean functions, the proofs that the program's functions answer so, and plain laws about them. -/
import Derived.Test.YtadelojhfepkeaaKFnExactLandOne1
namespace Go.Proofs.Ytadelojhfepkeaa.Q
open Go.RowKit Go.Proofs.Ytadelojhfepkeaa.Ext Go.Proofs.YtadelojhfepkeaaW.PrintWords Go.Proofs.YtadelojhfepkeaaW.PrintLast Go.Proofs.YtadelojhfepkeaaW.PrintMore
attribute [local go_sem] max2_int min2_int max_two min_two max_three min_three max_four min_four   -- for this text's walks alone
set_option linter.unusedVariables false
set_option linter.unusedSimpArgs false

set_option linter.unusedVariables false
set_option linter.unusedSimpArgs false
/-! ### impl_Disk_settle: function 35 -/
/-- What the closure of settle sees: the host, how many writes are to be kept, the disk, whether the others are lost. -/
structure impl_Disk_settle_I (W : World) (base gH gK gO gL gR : Nat) (host keep : Int) (lose : Bool) (sv pv : Value) (secs : List ByteArray) : Prop where
  h : W.heap[gH]? = some (.cells #[.int .i64 host] 3 (0, 0))
  k : W.heap[gK]? = some (.cells #[.int .i64 keep] 3 (0, 0))
  o : W.heap[gO]? = some (.cells #[sv, pv] 29 (0, 0))
  l : W.heap[gL]? = some (.cells #[.bool lose] 4 (0, 0))
  s : Kd.R Kd.string 9 W base (fun _ => True) sv secs
  n : gH ≠ gK
  r : W.heap[gR]? = some (.cells #[.slice none 0 0, .slice none 0 0] 29 (0, 0))
def impl_Disk_settle_stp (host : Int) (lose : Bool) (keep : Int) (secs : List ByteArray) (x : S76) : Option (Bool × Int × List ByteArray) :=
  if x.f0 = host then (if keep > 0 then (if 0 ≤ x.f1 then (if x.f1 < (secs.length : Int) then some (true, wrap64 (keep - 1), secs.set x.f1.toNat x.f2) else none) else none) else some (lose, keep, secs)) else some (false, keep, secs)
theorem impl_Disk_settle_I.below {W W1 : World} {base gH gK gO gL gR : Nat} {host keep : Int} {lose : Bool} {sv pv : Value} {secs : List ByteArray} (I : impl_Disk_settle_I W base gH gK gO gL gR host keep lose sv pv secs) (hb : Below W.heap.size W W1) : impl_Disk_settle_I W1 base gH gK gO gL gR host keep lose sv pv secs :=
  ⟨blk_below I.h hb, blk_below I.k hb, blk_below I.o hb, blk_below I.l hb, Kd.R_below I.s hb, I.n, blk_below I.r hb⟩
set_option maxHeartbeats 4000000 in
set_option maxRecDepth 100000 in
theorem impl_Disk_settle_clos {w0 W : World} {gH gK gO gL gR : Nat} {host keep : Int} {lose : Bool} {sv pv : Value} {secs : List ByteArray} (I : impl_Disk_settle_I W w0.heap.size gH gK gO gL gR host keep lose sv pv secs) (hB : Below w0.heap.size w0 W) (hg : w0.heap.size ≤ gK) (x : S76) (b : Bool) (keep' : Int) (secs' : List ByteArray) (hst : impl_Disk_settle_stp host lose keep secs x = some (b, keep', secs')) :
    Calls Try.prog 61 #[.agg #[.int .i64 x.f0, .int .i64 x.f1, .string x.f2], .pointer (some ⟨gH, 0, none⟩), .pointer (some ⟨gK, 0, none⟩), .pointer (some ⟨gO, 0, none⟩), .pointer (some ⟨gL, 0, none⟩)] W
      fun e W' => e = .returned (.bool b) ∧ impl_Disk_settle_I W' w0.heap.size gH gK gO gL gR host keep' lose sv pv secs' ∧ Below w0.heap.size w0 W' ∧ Kept W W' (fun k_ => k_ = gK ∨ some k_ = sv.ownBlock) := by
  have hu76 := Try.underlying76
  have hu29 := Try.underlying29
  have II := Aside0.mk I
  have HB := Aside0.mk hB
  have HG := Aside0.mk hg
  clear I hB hg
  unfold impl_Disk_settle_stp at hst
  by_cases c1 : x.f0 = host
  · rw [if_pos c1] at hst
    have d1 : (x.f0 != host) = false := by simp [c1]
    have d2 : decide (x.f0 = host) = true := decide_eq_true c1
    have d3 : decide (x.f0 ≠ host) = false := by simp [c1]
    have d4 : (x.f0 == host) = true := by simp [c1]
    clear c1
    by_cases c2 : keep > 0
    · rw [if_pos c2] at hst
      have e1 : decide (keep > 0) = true := decide_eq_true c2
      have e2 : decide (0 < keep) = true := decide_eq_true c2
      clear c2
      by_cases c3 : 0 ≤ x.f1
      · rw [if_pos c3] at hst
        by_cases c4 : x.f1 < (secs.length : Int)
        · rw [if_pos c4] at hst
          simp only [Option.some.injEq, Prod.mk.injEq] at hst
          obtain ⟨rfl, rfl, rfl⟩ := hst
          have C3 := Aside0.mk c3
          have C4 := Aside0.mk c4
          have q3 := eq_true c3
          have q4 := eq_true c4
          have f3 : decide (0 ≤ x.f1) = true := decide_eq_true c3
          have f4 : decide (x.f1 < (secs.length : Int)) = true := decide_eq_true c4
          clear c3 c4
          obtain ⟨gs, cs, rfl, hgs, hgl, hcl, HS⟩ := Kd.R_form II.out.s (by have := C3.out; have := C4.out; omega)
          have GS := Aside0.mk hgs
          clear hgs hgl hcl HS
          go_enter Try.func61, Try.ntmps61
          go_wp2_with (first
            | ((with_reducible refine gate_dst (N := 5) rfl ?_); refine box_event ?hg (N := 5) ?hd (cs := #[.int .i64 x.f0, .int .i64 x.f1, .string x.f2]) (t := 76) ?hr ?_; (case hd => rfl); (case hg => rfl); (case hr => first | (go_simp; done) | (go_simp; rfl)); intro gb hg w4 hbox hb; have BK := Aside0.mk hbox; have I4 := Aside0.mk (II.out.below hb); have HB4 := Aside0.mk (below_step HB.out hb); have KK := Aside0.mk (Kept.of_below hb (fun k_ => k_ = gK ∨ some k_ = (.slice (some ⟨gs, 0, none⟩) secs.length cs : Value).ownBlock)); clear hb hbox hg; have hx0 : w4.cell? ⟨gb, 0, none⟩ = some (.int .i64 x.f0) := (blk_cell BK.out 0).trans rfl; have hh : w4.cell? ⟨gH, 0, none⟩ = some (.int .i64 host) := (blk_cell I4.out.h 0).trans rfl; have hk : w4.cell? ⟨gK, 0, none⟩ = some (.int .i64 keep) := (blk_cell I4.out.k 0).trans rfl; have hfk := blk_frozen I4.out.k 0)
            | ((with_reducible refine gate_store (t := 3) (p := 2) rfl ?_); refine store_event (t := 3) (p := 2) (v := ?vo1) (w1 := (w4.setCell ⟨gK, 0, none⟩ (.int .i64 (wrap64 (keep - 1))))) ?hg ?ho ?hn ?hr ?_; (case ho => rfl); (case hg => rfl); (case hn => rfl); (case hr => first | (go_simp; done) | (go_simp; rfl)); intro w5 hw; have I5 := Aside0.mk (show impl_Disk_settle_I w5 w0.heap.size gH gK gO gL gR host (wrap64 (keep - 1)) lose (.slice (some ⟨gs, 0, none⟩) secs.length cs) pv secs from by rw [hw]; exact ⟨blk_far I4.out.h I4.out.n _, blk_set I4.out.k 0 _, blk_far I4.out.o (blk_ne I4.out.o I4.out.k (by decide)) _, blk_far I4.out.l (blk_ne I4.out.l I4.out.k (by decide)) _, Kd.R_mono (Kd.R_set I4.out.s I4.out.k (by decide) 0 _) (fun _ _ => trivial), I4.out.n, blk_far I4.out.r (blk_ne I4.out.r I4.out.k (by decide)) _⟩); have B5 := Aside0.mk (show w5.heap[gb]? = some (.cells #[.int .i64 x.f0, .int .i64 x.f1, .string x.f2] 76 (0, 0)) from by rw [hw]; exact blk_far BK.out (blk_ne BK.out I4.out.k (by decide)) _); have HB5 := Aside0.mk (show Below w0.heap.size w0 w5 from by rw [hw]; exact below_set HB4.out HG.out); have K5 := Aside0.mk (show Kept W w5 (fun k_ => k_ = gK ∨ some k_ = (.slice (some ⟨gs, 0, none⟩) secs.length cs : Value).ownBlock) from by rw [hw]; exact Kept.setCell KK.out (.inl (.inl rfl)) _); clear hw I4 BK HB4 KK hx0 hh hk hfk; have ho : w5.cell? ⟨gO, 0, none⟩ = some (.slice (some ⟨gs, 0, none⟩) secs.length cs) := (blk_cell I5.out.o 0).trans rfl; have hx1 : w5.cell? ⟨gb, 1, none⟩ = some (.int .i64 x.f1) := (blk_cell B5.out 1).trans rfl; have hx2 : w5.cell? ⟨gb, 2, none⟩ = some (.string x.f2) := (blk_cell B5.out 2).trans rfl; obtain ⟨hy, hz⟩ := Kd.R_celln (⟨#[]⟩ : ByteArray) I5.out.s x.f1 C3.out C4.out; have HP := Aside0.mk (Kd.R_putg I5.out.s x.f1 x.f2))
            | ((with_reducible refine gate_store (t := 9) (p := 21) rfl ?_); refine store_event (t := 9) (p := 21) (v := ?vo2) (w1 := (w5.setCell ⟨gs, x.f1.toNat, none⟩ (.string x.f2))) ?hg ?ho ?hn ?hr ?_; (case ho => rfl); (case hg => rfl); (case hn => rfl); (case hr => first | (go_simp; done) | (go_simp; rfl)); intro w6 hw; have hgr : w5.grownBy w6 (some gs) := (by rw [hw]; exact HP.out.2); have nO := Kd.R_ne I5.out.s I5.out.o (by decide); have nH := Kd.R_ne I5.out.s I5.out.h (by decide); have nK := Kd.R_ne I5.out.s I5.out.k (by decide); have nL := Kd.R_ne I5.out.s I5.out.l (by decide); have nR := Kd.R_ne I5.out.s I5.out.r (by decide); have I6 := Aside0.mk (show impl_Disk_settle_I w6 w0.heap.size gH gK gO gL gR host (wrap64 (keep - 1)) lose (.slice (some ⟨gs, 0, none⟩) secs.length cs) pv (secs.set x.f1.toNat x.f2) from ⟨blk_grown I5.out.h hgr nH, blk_grown I5.out.k hgr nK, blk_grown I5.out.o hgr nO, blk_grown I5.out.l hgr nL, (by rw [hw]; exact HP.out.1), I5.out.n, blk_grown I5.out.r hgr nR⟩); have HB6 := Aside0.mk (show Below w0.heap.size w0 w6 from by rw [hw]; exact below_set HB5.out GS.out); have K6 := Aside0.mk (Kept.of_grown (S := (fun k_ => k_ = gK ∨ some k_ = (.slice (some ⟨gs, 0, none⟩) secs.length cs : Value).ownBlock)) hgr K5.out (fun k_ e_ => .inl (.inr (by simp [Value.ownBlock, e_])))); clear hw hgr nO nH nK nL nR I5 B5 HB5 K5 ho hx1 hx2 hy hz HP))
          go_ret
          exact ⟨rfl, I6.out, HB6.out, K6.out⟩
        · rw [if_neg c4] at hst; cases hst
      · rw [if_neg c3] at hst; cases hst
    · rw [if_neg c2] at hst
      have e1 : decide (keep > 0) = false := decide_eq_false c2
      have e2 : decide (0 < keep) = false := decide_eq_false c2
      clear c2
      simp only [Option.some.injEq, Prod.mk.injEq] at hst
      obtain ⟨rfl, rfl, rfl⟩ := hst
      go_enter Try.func61, Try.ntmps61
      go_wp2_with (first
        | ((with_reducible refine gate_dst (N := 5) rfl ?_); refine box_event ?hg (N := 5) ?hd (cs := #[.int .i64 x.f0, .int .i64 x.f1, .string x.f2]) (t := 76) ?hr ?_; (case hd => rfl); (case hg => rfl); (case hr => first | (go_simp; done) | (go_simp; rfl)); intro gb hg w4 hbox hb; have BK := Aside0.mk hbox; have I4 := Aside0.mk (II.out.below hb); have HB4 := Aside0.mk (below_step HB.out hb); have KK := Aside0.mk (Kept.of_below hb (fun k_ => k_ = gK ∨ some k_ = sv.ownBlock)); clear hb hbox hg; have hx0 : w4.cell? ⟨gb, 0, none⟩ = some (.int .i64 x.f0) := (blk_cell BK.out 0).trans rfl; have hh : w4.cell? ⟨gH, 0, none⟩ = some (.int .i64 host) := (blk_cell I4.out.h 0).trans rfl; have hk : w4.cell? ⟨gK, 0, none⟩ = some (.int .i64 keep) := (blk_cell I4.out.k 0).trans rfl; have hl : w4.cell? ⟨gL, 0, none⟩ = some (.bool lose) := (blk_cell I4.out.l 0).trans rfl))
      go_ret
      exact ⟨rfl, I4.out, HB4.out, KK.out⟩
  · rw [if_neg c1] at hst
    have d1 : (x.f0 != host) = true := by simp [c1]
    have d2 : decide (x.f0 = host) = false := decide_eq_false c1
    have d3 : decide (x.f0 ≠ host) = true := decide_eq_true c1
    have d4 : (x.f0 == host) = false := by simp [c1]
    clear c1
    simp only [Option.some.injEq, Prod.mk.injEq] at hst
    obtain ⟨rfl, rfl, rfl⟩ := hst
    go_enter Try.func61, Try.ntmps61
    go_wp2_with (first
      | ((with_reducible refine gate_dst (N := 5) rfl ?_); refine box_event ?hg (N := 5) ?hd (cs := #[.int .i64 x.f0, .int .i64 x.f1, .string x.f2]) (t := 76) ?hr ?_; (case hd => rfl); (case hg => rfl); (case hr => first | (go_simp; done) | (go_simp; rfl)); intro gb hg w4 hbox hb; have BK := Aside0.mk hbox; have I4 := Aside0.mk (II.out.below hb); have HB4 := Aside0.mk (below_step HB.out hb); have KK := Aside0.mk (Kept.of_below hb (fun k_ => k_ = gK ∨ some k_ = sv.ownBlock)); clear hb hbox hg; have hx0 : w4.cell? ⟨gb, 0, none⟩ = some (.int .i64 x.f0) := (blk_cell BK.out 0).trans rfl; have hh : w4.cell? ⟨gH, 0, none⟩ = some (.int .i64 host) := (blk_cell I4.out.h 0).trans rfl))
    go_ret
    exact ⟨rfl, I4.out, HB4.out, KK.out⟩
def impl_Disk_settle_idx (host : Int) (lose : Bool) : List S76 → Int → List ByteArray → Nat → Option (Int × Int × List ByteArray)
  | [], keep, secs, _ => some (-1, keep, secs)
  | x :: r, keep, secs, i => (impl_Disk_settle_stp host lose keep secs x).bind fun b => if b.1 = true then some ((i : Int), b.2.1, b.2.2) else impl_Disk_settle_idx host lose r b.2.1 b.2.2 (i + 1)
theorem impl_Disk_settle_rd (l : List S76) (i : Nat) (h : i < l.length) : rd_T76 l (i : Int) = l[i] := by simp [rd_T76, h]
set_option maxHeartbeats 4000000 in
set_option maxRecDepth 100000 in
theorem impl_Disk_settle_index {w0 W : World} {gH gK gO gL gR : Nat} {host keep : Int} {lose : Bool} {sv pv v : Value} {secs : List ByteArray} {pend : List S76} (I : impl_Disk_settle_I W w0.heap.size gH gK gO gL gR host keep lose sv pv secs) (hB : Below w0.heap.size w0 W) (hg : w0.heap.size ≤ gK)
    (RP : Kd.R k76 76 W w0.heap.size (fun k_ => k_ ≠ gK ∧ some k_ ≠ sv.ownBlock) v pend) (hl : pend.length ≤ 1000000000) (r keep' : Int) (secs' : List ByteArray) (h : impl_Disk_settle_idx host lose pend keep secs 0 = some (r, keep', secs')) :
    Calls Try.prog 80 #[v, .func (.func 61) #[] #[.pointer (some ⟨gH, 0, none⟩), .pointer (some ⟨gK, 0, none⟩), .pointer (some ⟨gO, 0, none⟩), .pointer (some ⟨gL, 0, none⟩)]] W
      fun e W' => e = .returned (.int .i64 r) ∧ impl_Disk_settle_I W' w0.heap.size gH gK gO gL gR host keep' lose sv pv secs' ∧ Below w0.heap.size w0 W' ∧ Kept W W' (fun k_ => k_ = gK ∨ some k_ = sv.ownBlock) := by
  obtain ⟨Ao, co, rfl⟩ := Kd.R_slice RP
  have PP := Aside0.mk RP
  have II := Aside0.mk I
  have HB := Aside0.mk hB
  have HG := Aside0.mk hg
  have HK := Aside0.mk (Kept.refl W (fun k_ => k_ = gK ∨ some k_ = sv.ownBlock))
  have H := Aside0.mk h
  have HL := Aside0.mk hl
  clear RP I hB hg h hl
  go_enter Try.func80, Try.ntmps80
  go_wp2
  go_loopg [8] pend.length (fun kq v8 w' => ∃ (x : Int) (kp : Int) (sc : List ByteArray), v8 = .int .i64 x ∧ Aside0 (0 ≤ x ∧ x.toNat ≤ pend.length ∧ kq = pend.length - x.toNat) ∧ Aside0 (impl_Disk_settle_idx host lose (pend.drop x.toNat) kp sc x.toNat = some (r, keep', secs')) ∧ Aside0 (impl_Disk_settle_I w' w0.heap.size gH gK gO gL gR host kp lose sv pv sc) ∧ Aside0 (Below w0.heap.size w0 w') ∧ Aside0 (Kept W w' (fun k_ => k_ = gK ∨ some k_ = sv.ownBlock)))
  case atStart => exact ⟨0, keep, secs, rfl, ⟨by omega, by omega, by simp⟩, ⟨by rw [show (0 : Int).toNat = 0 from rfl, List.drop_zero]; exact H.out⟩, II, HB, HK⟩
  case round =>
    try clear c1
    try clear p2
    clear II HB HK H
    obtain ⟨x, kp, sc, rfl, HM, H, II, HB, HK⟩ := hrel
    by_cases hc : x < (pend.length : Int)
    · have hd : decide (x < (pend.length : Int)) = true := decide_eq_true hc
      have hlt : x.toNat < pend.length := by have := HM.out; omega
      have h0x : 0 ≤ x := HM.out.1
      have h := H.out
      rw [List.drop_eq_getElem_cons hlt] at h
      simp only [impl_Disk_settle_idx] at h
      have h2 := Option.bind_eq_some_iff.mp h
      clear h
      obtain ⟨⟨b, k2, s2⟩, hst, h⟩ := h2
      have PQ := Aside0.mk (Kd.R_kept PP.out HK.out (fun k_ hk_ hs_ => hs_.elim hk_.1 hk_.2))
      obtain ⟨gp, cp, ep, _, _, _, _⟩ := Kd.R_form PQ.out (by omega)
      (first | cases ep | (injection ep with ea_ en_ ec_; (first | subst ea_ | (injection ea_ with ea_; subst ea_)); subst ec_; clear en_))
      obtain ⟨ce, hcl, hM, hcc, hfr⟩ := Kd.R_elem PQ.out z76 x h0x hc
      obtain rfl := k76_openM hM
      have hx0 : wr.cell? ⟨gp, x.toNat * 3, none⟩ = some (.int .i64 (rd_T76 pend x).f0) := hcc 0 _ rfl
      have hx1 : wr.cell? ⟨gp, x.toNat * 3 + 1, none⟩ = some (.int .i64 (rd_T76 pend x).f1) := hcc 1 _ rfl
      have hx2 : wr.cell? ⟨gp, x.toNat * 3 + 2, none⟩ = some (.string (rd_T76 pend x).f2) := hcc 2 _ rfl
      clear hcl hM hcc hfr
      have hr0 : rd_T76 pend x = pend[x.toNat] := by simp [rd_T76, hlt]
      have ST := Aside0.mk (show impl_Disk_settle_stp host lose kp sc (rd_T76 pend x) = some (b, k2, s2) from by rw [hr0]; exact hst)
      have HT := Aside0.mk hlt
      have HH := Aside0.mk h
      have WN : Aside0 (wrap64 (x + 1) = x + 1) := ⟨by unfold wrap64; have := HL.out; omega⟩
      have HC := Aside0.mk hc
      have p0 := eq_true h0x
      have p1 := eq_true hc
      have d0 : decide (0 ≤ x) = true := decide_eq_true h0x
      clear h hst hr0 hlt H h0x hc
      cases b with
      | true =>
        go_wp2_with (first
          | ((with_reducible refine gate_dst (N := 16) rfl ?_); refine goesV (some 16) rfl rfl Try.func61 (by kernel_rfl) rfl #[.agg #[.int .i64 (rd_T76 pend x).f0, .int .i64 (rd_T76 pend x).f1, .string (rd_T76 pend x).f2], .pointer (some ⟨gH, 0, none⟩), .pointer (some ⟨gK, 0, none⟩), .pointer (some ⟨gO, 0, none⟩), .pointer (some ⟨gL, 0, none⟩)] rfl (cap := #[.pointer (some ⟨gH, 0, none⟩), .pointer (some ⟨gK, 0, none⟩), .pointer (some ⟨gO, 0, none⟩), .pointer (some ⟨gL, 0, none⟩)]) ?hx ?hargs ?_; (case hx => rfl); (case hargs => simp [Act.eval]); refine (impl_Disk_settle_clos II.out HB.out HG.out (rd_T76 pend x) _ _ _ ST.out).mono ?_; rintro e w2 ⟨rfl, hI, hb, hkp⟩; refine ⟨_, rfl, ?_⟩; have I2 := Aside0.mk hI; have HB2 := Aside0.mk hb; have HK2 := Aside0.mk (HK.out.then_ hkp (fun _ h_ => .inl h_)); clear hI hb hkp hx0 hx1 hx2))
        have h := HH.out
        simp only [if_true, Option.some.injEq, Prod.mk.injEq] at h
        obtain ⟨e1, rfl, rfl⟩ := h
        have e2 : x = r := by have := HM.out; omega
        subst e2
        go_ret
        exact ⟨rfl, I2.out, HB2.out, HK2.out⟩
      | false =>
        go_wp2_with (first
          | ((with_reducible refine gate_dst (N := 16) rfl ?_); refine goesV (some 16) rfl rfl Try.func61 (by kernel_rfl) rfl #[.agg #[.int .i64 (rd_T76 pend x).f0, .int .i64 (rd_T76 pend x).f1, .string (rd_T76 pend x).f2], .pointer (some ⟨gH, 0, none⟩), .pointer (some ⟨gK, 0, none⟩), .pointer (some ⟨gO, 0, none⟩), .pointer (some ⟨gL, 0, none⟩)] rfl (cap := #[.pointer (some ⟨gH, 0, none⟩), .pointer (some ⟨gK, 0, none⟩), .pointer (some ⟨gO, 0, none⟩), .pointer (some ⟨gL, 0, none⟩)]) ?hx ?hargs ?_; (case hx => rfl); (case hargs => simp [Act.eval]); refine (impl_Disk_settle_clos II.out HB.out HG.out (rd_T76 pend x) _ _ _ ST.out).mono ?_; rintro e w2 ⟨rfl, hI, hb, hkp⟩; refine ⟨_, rfl, ?_⟩; have I2 := Aside0.mk hI; have HB2 := Aside0.mk hb; have HK2 := Aside0.mk (HK.out.then_ hkp (fun _ h_ => .inl h_)); clear hI hb hkp hx0 hx1 hx2))
        go_roundg (pend.length - (x + 1).toNat)
        case measure => have := HM.out; have := HT.out; omega
        case rel => exact ⟨x + 1, k2, s2, by rw [WN.out], ⟨by have := HM.out; omega, by have := HM.out; have := HT.out; omega, rfl⟩, ⟨by have h := HH.out; simp only [Bool.false_eq_true, if_false] at h; rw [show (x + 1).toNat = x.toNat + 1 from by have := HM.out; omega]; exact h⟩, I2, HB2, HK2⟩
    · have hd : decide (x < (pend.length : Int)) = false := decide_eq_false hc
      have e : pend.drop x.toNat = [] := List.drop_of_length_le (by omega)
      have h := H.out
      rw [e] at h
      simp only [impl_Disk_settle_idx, Option.some.injEq, Prod.mk.injEq] at h
      obtain ⟨rfl, rfl, rfl⟩ := h
      clear e hc H
      go_wp2
      go_ret
      exact ⟨rfl, II.out, HB.out, HK.out⟩
def impl_Disk_settle_go (host : Int) (lose : Bool) : List S76 → Int → List ByteArray → Option (List S76 × Int × List ByteArray)
  | [], keep, secs => some ([], keep, secs)
  | x :: r, keep, secs => (impl_Disk_settle_stp host lose keep secs x).bind fun b => (impl_Disk_settle_go host lose r b.2.1 b.2.2).bind fun q => some (if b.1 = true then q.1 else x :: q.1, q.2.1, q.2.2)
theorem impl_Disk_settle_go_idx (host : Int) (lose : Bool) : ∀ (l : List S76) (keep : Int) (secs : List ByteArray) (n : Nat) (out : List S76) (kf : Int) (sf : List ByteArray), impl_Disk_settle_go host lose l keep secs = some (out, kf, sf) →
    (impl_Disk_settle_idx host lose l keep secs n = some (-1, kf, sf) ∧ out = l) ∨ ∃ (i : Nat) (k1 : Int) (s1 : List ByteArray) (rest : List S76), i < l.length ∧ impl_Disk_settle_idx host lose l keep secs n = some (((n + i : Nat) : Int), k1, s1) ∧ impl_Disk_settle_go host lose (l.drop (i + 1)) k1 s1 = some (rest, kf, sf) ∧ out = l.take i ++ rest := by
  intro l
  induction l with
  | nil =>
    intro keep secs n out kf sf h
    simp only [impl_Disk_settle_go, Option.some.injEq, Prod.mk.injEq] at h
    obtain ⟨rfl, rfl, rfl⟩ := h
    exact .inl ⟨rfl, rfl⟩
  | cons x r ih =>
    intro keep secs n out kf sf h
    simp only [impl_Disk_settle_go] at h
    obtain ⟨⟨b, k1, s1⟩, hst, h⟩ := Option.bind_eq_some_iff.mp h
    obtain ⟨⟨o1, k2, s2⟩, hgo, h⟩ := Option.bind_eq_some_iff.mp h
    simp only [Option.some.injEq, Prod.mk.injEq] at h
    obtain ⟨rfl, rfl, rfl⟩ := h
    cases b with
    | true =>
      refine .inr ⟨0, k1, s1, o1, by simp, ?_, by simpa using hgo, by simp⟩
      simp only [impl_Disk_settle_idx, hst, Option.bind_some, if_true, Nat.add_zero]
    | false =>
      rcases ih k1 s1 (n + 1) o1 k2 s2 hgo with ⟨h1, h2⟩ | ⟨i, k3, s3, rest, h1, h2, h3, h4⟩
      · refine .inl ⟨?_, by simp [h2]⟩
        simp only [impl_Disk_settle_idx, hst, Option.bind_some, Bool.false_eq_true, if_false]
        exact h1
      · refine .inr ⟨i + 1, k3, s3, rest, by simp; omega, ?_, by simpa using h3, by simp [h4]⟩
        simp only [impl_Disk_settle_idx, hst, Option.bind_some, Bool.false_eq_true, if_false]
        rw [h2]; congr 2; omega
theorem impl_Disk_settle_blk {g : Nat} {t : TypeId} : ∀ (vs : List Value) (o : Nat) {w : World} {cs : Array Value}, w.heap[g]? = some (.cells cs t (0, 0)) → ∃ cs', (w.setCells g o vs).heap[g]? = some (.cells cs' t (0, 0)) ∧ cs'.size = cs.size ∧ ∀ j, j < o → cs'[j]? = cs[j]? := by
  intro vs
  induction vs with
  | nil => intro o w cs h; exact ⟨cs, h, rfl, fun _ _ => rfl⟩
  | cons v r ih =>
    intro o w cs h
    obtain ⟨cs', h1, h2, h3⟩ := ih (o + 1) (blk_set h o v)
    refine ⟨cs', h1, by rw [h2, Array.size_setIfInBounds], fun j hj => ?_⟩
    rw [h3 j (by omega)]
    exact Array.getElem?_setIfInBounds_ne (by omega)
theorem impl_Disk_settle_cut {W : World} {base gp i cap : Nat} {ok : Nat → Prop} {xs : List S76} (h : Kd.R k76 76 W base ok (.slice (some ⟨gp, 0, none⟩) i cap) xs) (vs : List Value) (o : Nat) (ho : i * 3 ≤ o) : Kd.R k76 76 (W.setCells gp o vs) base ok (.slice (some ⟨gp, 0, none⟩) i cap) xs := by
  have hn := (Kd.R_reads' h).1
  obtain ⟨h0, inner, ⟨hl, ho'⟩, hr⟩ := h
  refine ⟨h0, inner, ⟨hl, ?_⟩, hr.imp_ (fun p c hp => by obtain rfl := k76_openM hp; exact k76_mkM _ _ _ p)⟩
  rcases ho' with ⟨e, _⟩ | ⟨g, cap', cur, e, hb, hh, h1, h2, h3, h4⟩
  · cases e
  · injection e with e1 e2 e3
    injection e1 with e1
    injection e1 with e1
    subst e1 e3
    obtain ⟨cs', q1, q2, q3⟩ := impl_Disk_settle_blk vs o hh
    refine .inr ⟨gp, _, cs', by rw [hn], hb, q1, h1, h2, q2.trans h3, ?_⟩
    rw [← h4]
    refine List.ext_getElem? (fun j => ?_)
    rw [List.getElem?_take, List.getElem?_take]
    by_cases c : j < xs.length * (k76).sz
    · rw [if_pos c, if_pos c, Array.getElem?_toList, Array.getElem?_toList]
      exact q3 j (Nat.lt_of_lt_of_le c (by rw [← hn]; exact ho))
    · rw [if_neg c, if_neg c]
theorem impl_Disk_settle_kept {g : Nat} : ∀ (vs : List Value) (o : Nat) (w : World), Kept w (w.setCells g o vs) (fun k_ => k_ = g) := by
  intro vs
  induction vs with
  | nil => intro o w; exact Kept.refl _ _
  | cons v r ih => intro o w; exact (Kept.setCell (Kept.refl w (fun k_ => k_ = g)) (p := ⟨g, o, none⟩) (.inl rfl) v).then_ (ih (o + 1) _) (fun _ h_ => .inl h_)
theorem impl_Disk_settle_bel {g : Nat} {w0 : World} (hg : w0.heap.size ≤ g) : ∀ (vs : List Value) (o : Nat) (w : World), Below w0.heap.size w0 w → Below w0.heap.size w0 (w.setCells g o vs) := by
  intro vs
  induction vs with
  | nil => intro o w h; exact h
  | cons v r ih => intro o w h; exact ih (o + 1) _ (below_set h hg)
theorem impl_Disk_settle_I.kept {W W1 : World} {base gH gK gO gL gR : Nat} {host keep : Int} {lose : Bool} {sv pv : Value} {secs : List ByteArray} (I : impl_Disk_settle_I W base gH gK gO gL gR host keep lose sv pv secs) {g : Nat} {cs : Array Value} (hk : Kept W W1 (fun k_ => k_ = g)) (hc : W.heap[g]? = some (.cells cs 76 (0, 0))) : impl_Disk_settle_I W1 base gH gK gO gL gR host keep lose sv pv secs :=
  ⟨blk_kept I.h hk (fun e => blk_ne I.h hc (by decide) e), blk_kept I.k hk (fun e => blk_ne I.k hc (by decide) e), blk_kept I.o hk (fun e => blk_ne I.o hc (by decide) e), blk_kept I.l hk (fun e => blk_ne I.l hc (by decide) e), Kd.R_mono (Kd.R_kept (Kd.R_types I.s hc (by decide)) hk (fun _ h_ e => h_.2 e)) (fun _ _ => trivial), I.n, blk_kept I.r hk (fun e => blk_ne I.r hc (by decide) e)⟩
/-- clear of the rest of a row: some cells from there on are written. -/
theorem impl_Disk_settle_clear {W : World} {base gp n cap : Nat} {ok : Nat → Prop} {xs : List S76} (h : Kd.R k76 76 W base ok (.slice (some ⟨gp, 0, none⟩) n cap) xs) (a : Nat) (ha : a < n) (cc : Nat) (ty : TypeId) :
    ∃ vs, (Builtin.clear_ #[27] ty #[.slice (some ⟨gp, a * 3, none⟩) (n - a) cc]).run Try.prog W = .ok (.tuple #[]) (W.setCells gp (a * 3) vs) := by
  have hz : ∀ w, (zeroValue 76).run Try.prog w = .ok (.agg #[.int .i64 0, .int .i64 0, .string ⟨#[]⟩]) w := Try.zeroValue76
  obtain ⟨m, hm⟩ : ∃ m, n - a = m + 1 := ⟨n - a - 1, by omega⟩
  refine ⟨(Builtin.zeroCells (Value.agg #[.int .i64 0, .int .i64 0, .string ⟨#[]⟩]).cells (n - a)).toList, ?_⟩
  have hlen : (Builtin.zeroCells (Value.agg #[.int .i64 0, .int .i64 0, .string ⟨#[]⟩]).cells (n - a)).toList.length = (n - a) * 3 := by simp [Builtin.zeroCells, Value.cells]
  have hn := (Kd.R_reads' h).1
  have hst := run_storeCells_cells (P := Try.prog) gp (a * 3) (Builtin.zeroCells (Value.agg #[.int .i64 0, .int .i64 0, .string ⟨#[]⟩]).cells (n - a)).toList 0 W (by
    intro j hj
    rw [hlen] at hj
    obtain ⟨c, hcl, hM, hcc, hfr⟩ := Kd.R_elem h z76 ((a + j / 3 : Nat) : Int) (by omega) (by omega)
    have hj3 : j % 3 < c.length := by rw [hcl]; exact Nat.mod_lt _ (by decide)
    have := hcc (j % 3) _ (List.getElem?_eq_getElem hj3)
    rw [Int.toNat_natCast] at this
    have e : a * 3 + 0 + j = (a + j / 3) * (k76).sz + j % 3 := by show a * 3 + 0 + j = (a + j / 3) * 3 + j % 3; omega
    rw [e, this]; rfl) (by
    intro j hj
    rw [hlen] at hj
    obtain ⟨c, hcl, hM, hcc, hfr⟩ := Kd.R_elem h z76 ((a + j / 3 : Nat) : Int) (by omega) (by omega)
    have := hfr (j % 3)
    rw [Int.toNat_natCast] at this
    have e : a * 3 + 0 + j = (a + j / 3) * (k76).sz + j % 3 := by show a * 3 + 0 + j = (a + j / 3) * 3 + j % 3; omega
    rw [e]; exact this) (by
    intro v hv
    simp only [Builtin.zeroCells, Array.toList_map, List.mem_map] at hv
    obtain ⟨q, _, rfl⟩ := hv
    have hq : q % 3 < 3 := Nat.mod_lt _ (by decide)
    show ((#[Value.int .i64 0, .int .i64 0, .string ⟨#[]⟩] : Array Value)[q % 3]!).oneCell' = true
    rcases (show q % 3 = 0 ∨ q % 3 = 1 ∨ q % 3 = 2 by omega) with e | e | e <;> rw [e] <;> rfl)
  simp only [Nat.add_zero] at hst
  rw [hm] at hst ⊢
  simp [Builtin.clear_, run_underlying Try.underlying27, hz, hst]
set_option maxHeartbeats 8000000 in
set_option maxRecDepth 100000 in
theorem impl_Disk_settle_delete {w0 W : World} {gH gK gO gL gR : Nat} {host keep : Int} {lose : Bool} {sv pv v : Value} {secs : List ByteArray} {pend : List S76} (I : impl_Disk_settle_I W w0.heap.size gH gK gO gL gR host keep lose sv pv secs) (hB : Below w0.heap.size w0 W) (hg : w0.heap.size ≤ gK)
    (RP : Kd.R k76 76 W w0.heap.size (fun k_ => k_ ≠ gK ∧ some k_ ≠ sv.ownBlock) v pend) (hl : pend.length ≤ 1000000000) (out : List S76) (kf : Int) (sf : List ByteArray) (h : impl_Disk_settle_go host lose pend keep secs = some (out, kf, sf)) :
    Calls Try.prog 60 #[v, .func (.func 61) #[] #[.pointer (some ⟨gH, 0, none⟩), .pointer (some ⟨gK, 0, none⟩), .pointer (some ⟨gO, 0, none⟩), .pointer (some ⟨gL, 0, none⟩)]] W
      fun e W' => ∃ v', e = .returned v' ∧ Kd.R k76 76 W' w0.heap.size (fun k_ => k_ ≠ gK ∧ some k_ ≠ sv.ownBlock) v' out ∧ impl_Disk_settle_I W' w0.heap.size gH gK gO gL gR host kf lose sv pv sf ∧ Below w0.heap.size w0 W' := by
  have hu76 := Try.underlying76
  have hidx := impl_Disk_settle_index (pend := pend) I hB hg RP hl
  have PP := Aside0.mk RP
  have HG := Aside0.mk hg
  have HL := Aside0.mk hl
  obtain ⟨Ao, co, rfl⟩ := Kd.R_slice RP
  rcases impl_Disk_settle_go_idx host lose pend keep secs 0 out kf sf h with ⟨h1, rfl⟩ | ⟨i0, k1, s1, rest0, h1, h2, h3, rfl⟩
  · have HX := Aside0.mk (hidx (-1) kf sf h1)
    clear I hB hg RP hl hidx h h1
    go_enter Try.func60, Try.ntmps60
    go_wp2_with (first
      | ((with_reducible refine gate_callee (f := 80) rfl ?_); refine goesL_ (some 10) rfl rfl Try.func80 (by kernel_rfl) rfl #[.slice Ao out.length co, .func (.func 61) #[] #[.pointer (some ⟨gH, 0, none⟩), .pointer (some ⟨gK, 0, none⟩), .pointer (some ⟨gO, 0, none⟩), .pointer (some ⟨gL, 0, none⟩)]] rfl (by (try simp only [List.map_toArray, List.map_cons, List.map_nil]); first | done | rfl) ?_; refine HX.out.mono ?_; rintro e w2 ⟨rfl, hI, hb, hkp⟩; refine ⟨_, rfl, ?_⟩; have I2 := Aside0.mk hI; have HB2 := Aside0.mk hb; have P2 := Aside0.mk (Kd.R_kept PP.out hkp (fun k_ hk_ hs_ => hs_.elim hk_.1 hk_.2)); clear hI hb hkp))
    go_ret
    exact ⟨_, rfl, P2.out, I2.out, HB2.out⟩
  · have HX := Aside0.mk (hidx _ k1 s1 h2)
    have H3 := Aside0.mk h3
    have H1 := Aside0.mk h1
    clear I hB hg RP hl hidx h h1 h2 h3
    obtain ⟨gp, cp, ep, gb1, _, gc1, _⟩ := Kd.R_form PP.out (by have := H1.out; omega)
    (first | cases ep | (injection ep with ea_ en_ ec_; (first | subst ea_ | (injection ea_ with ea_; subst ea_)); subst ec_; clear en_))
    have GP := Aside0.mk gb1
    have NE : ((((0 + i0 : Nat) : Int)) == -1) = false := beq_eq_false_iff_ne.2 (by omega)
    have NE2 : decide ((((0 + i0 : Nat) : Int)) = -1) = false := decide_eq_false (by omega)
    clear gb1
    go_enter Try.func60, Try.ntmps60
    go_wp2_with (first
      | ((with_reducible refine gate_callee (f := 80) rfl ?_); refine goesL_ (some 10) rfl rfl Try.func80 (by kernel_rfl) rfl #[.slice (some ⟨gp, 0, none⟩) pend.length co, .func (.func 61) #[] #[.pointer (some ⟨gH, 0, none⟩), .pointer (some ⟨gK, 0, none⟩), .pointer (some ⟨gO, 0, none⟩), .pointer (some ⟨gL, 0, none⟩)]] rfl (by (try simp only [List.map_toArray, List.map_cons, List.map_nil]); first | done | rfl) ?_; refine HX.out.mono ?_; rintro e w2 ⟨rfl, hI, hb, hkp⟩; refine ⟨_, rfl, ?_⟩; have I2 := Aside0.mk hI; have HB2 := Aside0.mk hb; have P2 := Aside0.mk (Kd.R_kept PP.out hkp (fun k_ hk_ hs_ => hs_.elim hk_.1 hk_.2)); clear hI hb hkp))
    go_loopg [5, 6] pend.length (fun kq v5 v6 w' => ∃ (a j : Int) (dk rest : List S76) (kp : Int) (sc : List ByteArray), v5 = .int .i64 a ∧ v6 = .int .i64 j ∧ Aside0 (0 ≤ a ∧ a < j ∧ j.toNat ≤ pend.length ∧ pend.length - j.toNat ≤ kq ∧ dk.length = pend.length) ∧ Aside0 (pend.take i0 ++ rest0 = dk.take a.toNat ++ rest ∧ dk.drop j.toNat = pend.drop j.toNat) ∧ Aside0 (impl_Disk_settle_go host lose (pend.drop j.toNat) kp sc = some (rest, kf, sf)) ∧ Aside0 (Kd.R k76 76 w' w0.heap.size (fun k_ => k_ ≠ gK ∧ some k_ ≠ sv.ownBlock) (.slice (some ⟨gp, 0, none⟩) pend.length co) dk) ∧ Aside0 (impl_Disk_settle_I w' w0.heap.size gH gK gO gL gR host kp lose sv pv sc) ∧ Aside0 (Below w0.heap.size w0 w'))
    case atStart =>
      have h1 := H1.out
      have hL := HL.out
      refine ⟨(i0 : Int), ((i0 + 1 : Nat) : Int), pend, rest0, k1, s1, by simp, ?_, ⟨by omega, by omega, by omega, ?_, rfl⟩, ⟨by simp, rfl⟩, ⟨by simpa using H3.out⟩, P2, I2, HB2⟩
      · have e : wrap64 ((((0 + i0 : Nat) : Int)) + 1) = ((i0 + 1 : Nat) : Int) := by unfold wrap64; omega
        first | rw [e] | (simp only [Nat.zero_add] at e; rw [e]) | simp [e]
      · omega
    case round =>
      try clear c1
      try clear p2
      clear HX PP H3 P2 I2 HB2
      obtain ⟨a, j, dk, rest, kp, sc, rfl, rfl, HM, HO, HGo, HR, II, HB⟩ := hrel
      by_cases hj : j < (pend.length : Int)
      · have hd : decide (j < (pend.length : Int)) = true := decide_eq_true hj
        have h0j : 0 ≤ j := by have := HM.out; omega
        have hjp : j.toNat < pend.length := by omega
        have hjd : j.toNat < dk.length := by have := HM.out; omega
        have he : dk[j.toNat] = pend[j.toNat] ∧ dk.drop (j.toNat + 1) = pend.drop (j.toNat + 1) := by
          have := HO.out.2
          rw [List.drop_eq_getElem_cons hjd, List.drop_eq_getElem_cons hjp] at this
          injection this with e1 e2
          exact ⟨e1, e2⟩
        have h := HGo.out
        rw [List.drop_eq_getElem_cons hjp] at h
        simp only [impl_Disk_settle_go] at h
        have hh := Option.bind_eq_some_iff.mp h
        clear h
        obtain ⟨⟨b, k2, s2⟩, hst, hh⟩ := hh
        have hh2 := Option.bind_eq_some_iff.mp hh
        clear hh
        obtain ⟨⟨o1, k3, s3⟩, hgo, hh⟩ := hh2
        simp only [Option.some.injEq, Prod.mk.injEq] at hh
        obtain ⟨hrest, rfl, rfl⟩ := hh
        obtain ⟨ce, hcl, hM, hcc, hfr⟩ := Kd.R_elem HR.out z76 j h0j hj
        obtain rfl := k76_openM hM
        obtain ⟨x, hx⟩ : ∃ x, x = rd_T76 dk j := ⟨_, rfl⟩
        have hxp : x = pend[j.toNat] := by rw [hx, ← he.1]; simp [rd_T76, hjd]
        have hx0 : wr.cell? ⟨gp, j.toNat * 3, none⟩ = some (.int .i64 x.f0) := by rw [hx]; exact hcc 0 _ rfl
        have hx1 : wr.cell? ⟨gp, j.toNat * 3 + 1, none⟩ = some (.int .i64 x.f1) := by rw [hx]; exact hcc 1 _ rfl
        have hx2 : wr.cell? ⟨gp, j.toNat * 3 + 2, none⟩ = some (.string x.f2) := by rw [hx]; exact hcc 2 _ rfl
        clear hcl hM hcc hfr hx
        have ST := Aside0.mk (show impl_Disk_settle_stp host lose kp sc x = some (b, k2, s2) from by rw [hxp]; exact hst)
        have RS := Aside0.mk (show rest = if b = true then o1 else x :: o1 from by rw [hxp]; exact hrest.symm)
        have GO := Aside0.mk hgo
        have HE := Aside0.mk he.2
        have HJ := Aside0.mk hj
        have A0 := Aside0.mk (show 0 ≤ a from HM.out.1)
        have A1 := Aside0.mk (show a < (pend.length : Int) from by have := HM.out; omega)
        have WJ : Aside0 (wrap64 (j + 1) = j + 1) := ⟨by unfold wrap64; have := HL.out; omega⟩
        have WA : Aside0 (wrap64 (a + 1) = a + 1) := ⟨by unfold wrap64; have := HL.out; have := HM.out; omega⟩
        have p0 := eq_true h0j
        have p1 := eq_true hj
        have p3 := eq_true A0.out
        have p4 := eq_true A1.out
        clear h0j hj hjd he hst hrest hgo hxp hjp HGo
        cases b with
        | true =>
          go_wp2_with (first
            | ((with_reducible refine gate_dst (N := 7) rfl ?_); refine box_event ?hg (N := 7) ?hd (cs := #[.int .i64 0, .int .i64 0, .string ⟨#[]⟩]) (t := 76) ?hr ?_; (case hd => rfl); (case hg => rfl); (case hr => first | (go_simp; done) | (go_simp; rfl)); intro gb hgb w4 hbox hb; have BK := Aside0.mk hbox; have R4 := Aside0.mk (Kd.R_below (Kd.R_elderB HR.out gb (by rw [hgb]; exact Nat.le_refl _)) hb); have I4 := Aside0.mk (II.out.below hb); have B4 := Aside0.mk (below_step HB.out hb); have GE := Aside0.mk (show w0.heap.size ≤ gb from by rw [hgb]; exact HB.out.size); clear hb hbox hgb HR II HB; have hz0 : w4.cell? ⟨gb, 0, none⟩ = some (.int .i64 0) := (blk_cell BK.out 0).trans rfl; have hz1 : w4.cell? ⟨gb, 1, none⟩ = some (.int .i64 0) := (blk_cell BK.out 1).trans rfl; have hz2 : w4.cell? ⟨gb, 2, none⟩ = some (.string ⟨#[]⟩) := (blk_cell BK.out 2).trans rfl; have hf0 := blk_frozen BK.out 0; have hf1 := blk_frozen BK.out 1; have hf2 := blk_frozen BK.out 2)
            | ((with_reducible refine gate_store (t := 76) (p := 7) rfl ?_); refine store_event (t := 76) (p := 7) (v := ?vo1) (w1 := (((w4.setCell ⟨gb, 0, none⟩ (.int .i64 x.f0)).setCell ⟨gb, 1, none⟩ (.int .i64 x.f1)).setCell ⟨gb, 2, none⟩ (.string x.f2))) ?hg ?ho ?hn ?hr ?_; (case ho => rfl); (case hg => rfl); (case hn => rfl); (case hr => first | (go_simp; done) | (go_simp; rfl)); intro w5 hw; have BB := Aside0.mk (show w5.heap[gb]? = some (.cells #[.int .i64 x.f0, .int .i64 x.f1, .string x.f2] 76 (0, 0)) from by rw [hw]; exact blk_set (blk_set (blk_set BK.out 0 _) 1 _) 2 _); have K45 := (show Kept w4 w5 (fun k_ => k_ = gb) from by rw [hw]; exact Kept.setCell (Kept.setCell (Kept.setCell (Kept.refl w4 (fun k_ => k_ = gb)) (p := ⟨gb, 0, none⟩) (.inl rfl) _) (p := ⟨gb, 1, none⟩) (.inl rfl) _) (p := ⟨gb, 2, none⟩) (.inl rfl) _); have R5 := Aside0.mk (Kd.R_kept R4.out K45 (fun _ h_ e_ => h_.2 e_)); have I5 := Aside0.mk (I4.out.kept K45 BK.out); have B5 := Aside0.mk (show Below w0.heap.size w0 w5 from by rw [hw]; exact below_set (below_set (below_set B4.out GE.out) GE.out) GE.out); clear hw K45 R4 I4 B4 BK GE hz0 hz1 hz2 hf0 hf1 hf2; have hb0 : w5.cell? ⟨gb, 0, none⟩ = some (.int .i64 x.f0) := (blk_cell BB.out 0).trans rfl; have hb1 : w5.cell? ⟨gb, 1, none⟩ = some (.int .i64 x.f1) := (blk_cell BB.out 1).trans rfl; have hb2 : w5.cell? ⟨gb, 2, none⟩ = some (.string x.f2) := (blk_cell BB.out 2).trans rfl)
            | ((with_reducible refine gate_dst (N := 28) rfl ?_); refine goesV (some 28) rfl rfl Try.func61 (by kernel_rfl) rfl #[.agg #[.int .i64 x.f0, .int .i64 x.f1, .string x.f2], .pointer (some ⟨gH, 0, none⟩), .pointer (some ⟨gK, 0, none⟩), .pointer (some ⟨gO, 0, none⟩), .pointer (some ⟨gL, 0, none⟩)] rfl (cap := #[.pointer (some ⟨gH, 0, none⟩), .pointer (some ⟨gK, 0, none⟩), .pointer (some ⟨gO, 0, none⟩), .pointer (some ⟨gL, 0, none⟩)]) ?hx ?hargs ?_; (case hx => rfl); (case hargs => simp [Act.eval]); refine (impl_Disk_settle_clos I5.out B5.out HG.out x _ _ _ ST.out).mono ?_; rintro e w6 ⟨rfl, hI, hb, hkp⟩; refine ⟨_, rfl, ?_⟩; have BC := Aside0.mk (blk_kept BB.out hkp (fun h_ => h_.elim (fun e_ => blk_ne BB.out I5.out.k (by decide) e_) (fun e_ => Kd.R_ne I5.out.s BB.out (by decide) e_))); have R6 := Aside0.mk (Kd.R_kept R5.out hkp (fun k_ hk_ hs_ => hs_.elim hk_.1.1 hk_.1.2)); have I6 := Aside0.mk hI; have B6 := Aside0.mk hb; clear hI hb hkp BB R5 I5 B5 hb0 hb1 hb2))
          go_roundg (pend.length - (j + 1).toNat)
          case measure => have := HM.out; have := HJ.out; omega
          case rel =>
            have hm := HM.out
            have hjl := HJ.out
            refine ⟨a, j + 1, dk, o1, k2, s2, rfl, by rw [WJ.out], ⟨hm.1, by omega, by omega, Nat.le_refl _, hm.2.2.2.2⟩, ⟨by rw [HO.out.1, RS.out]; simp, by rw [show (j + 1).toNat = j.toNat + 1 by omega]; exact HE.out⟩, ⟨by rw [show (j + 1).toNat = j.toNat + 1 by omega]; exact GO.out⟩, ⟨Kd.R_mono R6.out (fun _ h_ => h_.1)⟩, I6, B6⟩
        | false =>
          go_wp2_with (first
            | ((with_reducible refine gate_dst (N := 7) rfl ?_); refine box_event ?hg (N := 7) ?hd (cs := #[.int .i64 0, .int .i64 0, .string ⟨#[]⟩]) (t := 76) ?hr ?_; (case hd => rfl); (case hg => rfl); (case hr => first | (go_simp; done) | (go_simp; rfl)); intro gb hgb w4 hbox hb; have BK := Aside0.mk hbox; have R4 := Aside0.mk (Kd.R_below (Kd.R_elderB HR.out gb (by rw [hgb]; exact Nat.le_refl _)) hb); have I4 := Aside0.mk (II.out.below hb); have B4 := Aside0.mk (below_step HB.out hb); have GE := Aside0.mk (show w0.heap.size ≤ gb from by rw [hgb]; exact HB.out.size); clear hb hbox hgb HR II HB; have hz0 : w4.cell? ⟨gb, 0, none⟩ = some (.int .i64 0) := (blk_cell BK.out 0).trans rfl; have hz1 : w4.cell? ⟨gb, 1, none⟩ = some (.int .i64 0) := (blk_cell BK.out 1).trans rfl; have hz2 : w4.cell? ⟨gb, 2, none⟩ = some (.string ⟨#[]⟩) := (blk_cell BK.out 2).trans rfl; have hf0 := blk_frozen BK.out 0; have hf1 := blk_frozen BK.out 1; have hf2 := blk_frozen BK.out 2)
            | ((with_reducible refine gate_store (t := 76) (p := 7) rfl ?_); refine store_event (t := 76) (p := 7) (v := ?vo1) (w1 := (((w4.setCell ⟨gb, 0, none⟩ (.int .i64 x.f0)).setCell ⟨gb, 1, none⟩ (.int .i64 x.f1)).setCell ⟨gb, 2, none⟩ (.string x.f2))) ?hg ?ho ?hn ?hr ?_; (case ho => rfl); (case hg => rfl); (case hn => rfl); (case hr => first | (go_simp; done) | (go_simp; rfl)); intro w5 hw; have BB := Aside0.mk (show w5.heap[gb]? = some (.cells #[.int .i64 x.f0, .int .i64 x.f1, .string x.f2] 76 (0, 0)) from by rw [hw]; exact blk_set (blk_set (blk_set BK.out 0 _) 1 _) 2 _); have K45 := (show Kept w4 w5 (fun k_ => k_ = gb) from by rw [hw]; exact Kept.setCell (Kept.setCell (Kept.setCell (Kept.refl w4 (fun k_ => k_ = gb)) (p := ⟨gb, 0, none⟩) (.inl rfl) _) (p := ⟨gb, 1, none⟩) (.inl rfl) _) (p := ⟨gb, 2, none⟩) (.inl rfl) _); have R5 := Aside0.mk (Kd.R_kept R4.out K45 (fun _ h_ e_ => h_.2 e_)); have I5 := Aside0.mk (I4.out.kept K45 BK.out); have B5 := Aside0.mk (show Below w0.heap.size w0 w5 from by rw [hw]; exact below_set (below_set (below_set B4.out GE.out) GE.out) GE.out); clear hw K45 R4 I4 B4 BK GE hz0 hz1 hz2 hf0 hf1 hf2; have hb0 : w5.cell? ⟨gb, 0, none⟩ = some (.int .i64 x.f0) := (blk_cell BB.out 0).trans rfl; have hb1 : w5.cell? ⟨gb, 1, none⟩ = some (.int .i64 x.f1) := (blk_cell BB.out 1).trans rfl; have hb2 : w5.cell? ⟨gb, 2, none⟩ = some (.string x.f2) := (blk_cell BB.out 2).trans rfl)
            | ((with_reducible refine gate_dst (N := 28) rfl ?_); refine goesV (some 28) rfl rfl Try.func61 (by kernel_rfl) rfl #[.agg #[.int .i64 x.f0, .int .i64 x.f1, .string x.f2], .pointer (some ⟨gH, 0, none⟩), .pointer (some ⟨gK, 0, none⟩), .pointer (some ⟨gO, 0, none⟩), .pointer (some ⟨gL, 0, none⟩)] rfl (cap := #[.pointer (some ⟨gH, 0, none⟩), .pointer (some ⟨gK, 0, none⟩), .pointer (some ⟨gO, 0, none⟩), .pointer (some ⟨gL, 0, none⟩)]) ?hx ?hargs ?_; (case hx => rfl); (case hargs => simp [Act.eval]); refine (impl_Disk_settle_clos I5.out B5.out HG.out x _ _ _ ST.out).mono ?_; rintro e w6 ⟨rfl, hI, hb, hkp⟩; refine ⟨_, rfl, ?_⟩; have BC := Aside0.mk (blk_kept BB.out hkp (fun h_ => h_.elim (fun e_ => blk_ne BB.out I5.out.k (by decide) e_) (fun e_ => Kd.R_ne I5.out.s BB.out (by decide) e_))); have R6 := Aside0.mk (Kd.R_kept R5.out hkp (fun k_ hk_ hs_ => hs_.elim hk_.1.1 hk_.1.2)); have I6 := Aside0.mk hI; have B6 := Aside0.mk hb; clear hI hb hkp BB R5 I5 B5 hb0 hb1 hb2; have hc0 : w6.cell? ⟨gb, 0, none⟩ = some (.int .i64 x.f0) := (blk_cell BC.out 0).trans rfl; have hc1 : w6.cell? ⟨gb, 1, none⟩ = some (.int .i64 x.f1) := (blk_cell BC.out 1).trans rfl; have hc2 : w6.cell? ⟨gb, 2, none⟩ = some (.string x.f2) := (blk_cell BC.out 2).trans rfl; obtain ⟨ce, hcl, hM, hcc, hfr⟩ := Kd.R_elem R6.out z76 a A0.out A1.out; obtain rfl := k76_openM hM; have hy0 := hcc 0 _ rfl; have hy1 := hcc 1 _ rfl; have hy2 := hcc 2 _ rfl; have hg0 := hfr 0; have hg1 := hfr 1; have hg2 := hfr 2; (try simp only [show (k76).sz = 3 from rfl, Nat.add_zero] at hy0 hy1 hy2 hg0 hg1 hg2); have HP := Aside0.mk (Kd.R_seg R6.out a A0.out A1.out (seg := [.int .i64 x.f0, .int .i64 x.f1, .string x.f2]) (j := 0) hcl hcc (show 3 ≤ 3 from by decide) (x' := x) (okp := fun _ => False) (k76_mkM _ _ _ x) (fun _ hk => hk.elim)); clear hcl hM hcc hfr)
            | ((with_reducible refine gate_store (t := 76) (p := 33) rfl ?_); refine store_event (t := 76) (p := 33) (v := ?vo2) (w1 := (((w6.setCell ⟨gp, a.toNat * 3, none⟩ (.int .i64 x.f0)).setCell ⟨gp, a.toNat * 3 + 1, none⟩ (.int .i64 x.f1)).setCell ⟨gp, a.toNat * 3 + 2, none⟩ (.string x.f2))) ?hg ?ho ?hn ?hr ?_; (case ho => rfl); (case hg => rfl); (case hn => rfl); (case hr => first | (go_simp; done) | (go_simp; rfl)); intro w7 hw; have hgr : w6.grownBy w7 (some gp) := (by rw [hw]; exact HP.out.2); have R7 := Aside0.mk (show Kd.R k76 76 w7 w0.heap.size (fun k_ => k_ ≠ gK ∧ some k_ ≠ sv.ownBlock) (.slice (some ⟨gp, 0, none⟩) pend.length co) (dk.set a.toNat x) from by rw [hw]; exact Kd.R_mono HP.out.1 (fun _ h_ => h_.1)); have I7 := Aside0.mk (I6.out.kept (Kept.of_grown (S := fun k_ => k_ = gp) hgr (Kept.refl _ _) (fun k_ e_ => .inl (by injection e_ with e_; exact e_.symm))) (Classical.choose_spec (Kd.R_typed R6.out gp rfl))); have B7 := Aside0.mk (show Below w0.heap.size w0 w7 from by rw [hw]; exact below_set (below_set (below_set B6.out GP.out) GP.out) GP.out); clear hw hgr HP R6 I6 B6 BC hc0 hc1 hc2 hy0 hy1 hy2 hg0 hg1 hg2))
          go_roundg (pend.length - (j + 1).toNat)
          case measure => have := HM.out; have := HJ.out; omega
          case rel =>
            have hm := HM.out
            have hjl := HJ.out
            refine ⟨a + 1, j + 1, dk.set a.toNat x, o1, k2, s2, by rw [WA.out], by rw [WJ.out], ⟨by omega, by omega, by omega, Nat.le_refl _, by rw [List.length_set]; exact hm.2.2.2.2⟩, ⟨?_, ?_⟩, ⟨by rw [show (j + 1).toNat = j.toNat + 1 by omega]; exact GO.out⟩, R7, I7, B7⟩
            · rw [HO.out.1, RS.out, show (a + 1).toNat = a.toNat + 1 by omega, List.take_succ_eq_append_getElem (by rw [List.length_set]; omega), List.getElem_set_self, List.take_set_of_le (Nat.le_refl _)]
              simp
            · rw [show (j + 1).toNat = j.toNat + 1 by omega, List.drop_set_of_lt (by omega)]; exact HE.out
      · have hd : decide (j < (pend.length : Int)) = false := decide_eq_false hj
        have ej : j.toNat = pend.length := by have := HM.out; omega
        have h := HGo.out
        rw [ej, List.drop_of_length_le (Nat.le_refl _)] at h
        simp only [impl_Disk_settle_go, Option.some.injEq, Prod.mk.injEq] at h
        obtain ⟨h4, rfl, rfl⟩ := h
        have HOUT := Aside0.mk (show pend.take i0 ++ rest0 = dk.take a.toNat from by rw [HO.out.1, ← h4, List.append_nil])
        have A0 := Aside0.mk (show 0 ≤ a from HM.out.1)
        have A1 := Aside0.mk (show a.toNat < pend.length from by have := HM.out; omega)
        obtain ⟨vs, hclr⟩ := impl_Disk_settle_clear HR.out a.toNat A1.out (co - a.toNat) 0
        clear h4 ej hj HGo HO
        have hco : pend.length ≤ co := (Kd.R_reads' HR.out).2.1
        have n1 : (co = a.toNat) = False := eq_false (by have := A1.out; omega)
        have n2 : (a.toNat = co) = False := eq_false (by have := A1.out; omega)
        have n3 : ¬ co = a.toNat := by have := A1.out; omega
        have p3 := eq_true A0.out
        have p4 : (a ≤ (pend.length : Int)) = True := eq_true (by have := A1.out; omega)
        have p5 : (a.toNat ≤ pend.length) = True := eq_true (by have := A1.out; omega)
        have p6 : (a.toNat ≤ co) = True := eq_true (by have := A1.out; omega)
        have p7 : ((co : Int) < a) = False := eq_false (by have := A1.out; omega)
        have p8 : (a ≤ (co : Int)) = True := eq_true (by have := A1.out; omega)
        go_wp2
        go_ret
        refine ⟨_, rfl, ?_, II.out.kept (impl_Disk_settle_kept vs _ wr) (Classical.choose_spec (Kd.R_typed HR.out gp rfl)), impl_Disk_settle_bel GP.out vs _ _ HB.out⟩
        rw [HOUT.out]
        exact impl_Disk_settle_cut (Kd.R_take HR.out (by have := HM.out; omega)) vs _ (Nat.le_refl _)
def impl_Disk_settle.f (l0_0 : List ByteArray) (l0_1 : List (S76)) (a1 : Int) (a2 : Int) (a3 : Bool) : Option (List ByteArray × (List (S76))) := (impl_Disk_copied.f l0_0 l0_1).bind fun t => if t.2.length ≤ 1000000000 then (impl_Disk_settle_go a1 a3 t.2 a2 t.1).bind fun q => some (q.2.2, q.1) else none
set_option maxHeartbeats 8000000 in
set_option maxRecDepth 100000 in
theorem impl_Disk_settle.calls (A0_0 : Option Addr) (c0_0 : Nat) (l0_0 : List ByteArray) (A0_1 : Option Addr) (c0_1 : Nat) (l0_1 : List (S76)) (a1 : Int) (a2 : Int) (a3 : Bool) (r1 : List ByteArray) (r2 : List (S76)) (w : World) (hr0_0 : Kd.C Kd.string w A0_0 l0_0.length l0_0) (hc0_0 : l0_0.length ≤ c0_0) (hr0_1 : Kd.C k76 w A0_1 l0_1.length l0_1) (hc0_1 : l0_1.length ≤ c0_1) (h : impl_Disk_settle.f l0_0 l0_1 a1 a2 a3 = some (r1, r2)) :
    Calls Try.prog 35 #[.agg #[.slice A0_0 l0_0.length c0_0, .slice A0_1 l0_1.length c0_1], .int .i64 a1, .int .i64 a2, .bool a3] w fun e w' => ∃ v0_ v1_ : Value, e = .returned (.agg #[v0_, v1_]) ∧ Kd.R Kd.string 9 w' w.heap.size (fun _ => True) v0_ r1 ∧ Kd.R k76 76 w' w.heap.size (fun _ => True) v1_ r2 ∧ Below w.heap.size w w' := by
 have hu29 := Try.underlying29
 have HR0 := Aside0.mk hr0_0
 have HC0 := Aside0.mk hc0_0
 have HR1 := Aside0.mk hr0_1
 have HC1 := Aside0.mk hc0_1
 have HB := Aside0.mk (Below.refl w.heap.size w)
 unfold impl_Disk_settle.f at h
 obtain ⟨⟨t1, t2⟩, ht, h⟩ := Option.bind_eq_some_iff.mp h
 have hlim : t2.length ≤ 1000000000 := by
  by_cases c : t2.length ≤ 1000000000
  ·exact c
  ·rw [if_neg c] at h; cases h
 rw [if_pos hlim] at h
 obtain ⟨⟨q1, kf, sf⟩, hgo, h⟩ := Option.bind_eq_some_iff.mp h
 simp only [Option.some.injEq, Prod.mk.injEq] at h
 obtain ⟨rfl, rfl⟩ := h
 have T0 := Aside0.mk ht
 have HL := Aside0.mk hlim
 have HGo := Aside0.mk (show impl_Disk_settle_go a1 a3 t2 a2 t1 = some (q1, kf, sf) from hgo)
 clear hr0_0 hc0_0 hr0_1 hc0_1 ht hlim hgo
 go_enter Try.func35, Try.ntmps35
 go_wp2_with (first
  | ((with_reducible refine gate_dst (N := 4) rfl ?_); refine box_event ?hg (N := 4) ?hd (cs := #[.slice A0_0 l0_0.length c0_0, .slice A0_1 l0_1.length c0_1]) (t := 29) ?hr ?_; (case hd => rfl); (case hg => rfl); (case hr => first | (go_simp; done) | (go_simp; rfl)); intro g0 hg0 w1 hbox hb;  have ng0 := Aside0.mk hbox; have nB := Aside0.mk (below_step HB.out hb); have nG := Aside0.mk (show w.heap.size ≤ g0 from by rw [hg0]; exact HB.out.size); clear HB hbox hb hg0; have HB := nB; have Bg0 := ng0; have Gg0 := nG; clear nB ng0 nG)
  | ((with_reducible refine gate_dst (N := 5) rfl ?_); refine box_event ?hg (N := 5) ?hd (cs := #[.int .i64 a1]) (t := 3) ?hr ?_; (case hd => rfl); (case hg => rfl); (case hr => first | (go_simp; done) | (go_simp; rfl)); intro gH hgH w2 hbox hb; have mg0 := Aside0.mk (blk_below Bg0.out hb); clear Bg0; have Bg0 := mg0; clear mg0;  have ngH := Aside0.mk hbox; have nB := Aside0.mk (below_step HB.out hb); have nG := Aside0.mk (show w.heap.size ≤ gH from by rw [hgH]; exact HB.out.size); clear HB hbox hb hgH; have HB := nB; have BgH := ngH; have GgH := nG; clear nB ngH nG)
  | ((with_reducible refine gate_dst (N := 6) rfl ?_); refine box_event ?hg (N := 6) ?hd (cs := #[.int .i64 a2]) (t := 3) ?hr ?_; (case hd => rfl); (case hg => rfl); (case hr => first | (go_simp; done) | (go_simp; rfl)); intro gK hgK w3 hbox hb; have nHK := Aside0.mk (show gH ≠ gK from by rw [hgK]; exact Nat.ne_of_lt (blk_lt BgH.out)); have mg0 := Aside0.mk (blk_below Bg0.out hb); clear Bg0; have Bg0 := mg0; clear mg0; have mgH := Aside0.mk (blk_below BgH.out hb); clear BgH; have BgH := mgH; clear mgH;  have ngK := Aside0.mk hbox; have nB := Aside0.mk (below_step HB.out hb); have nG := Aside0.mk (show w.heap.size ≤ gK from by rw [hgK]; exact HB.out.size); clear HB hbox hb hgK; have HB := nB; have BgK := ngK; have GgK := nG; clear nB ngK nG ; have HHK := nHK; clear nHK)
  | ((with_reducible refine gate_dst (N := 7) rfl ?_); refine box_event ?hg (N := 7) ?hd (cs := #[.bool a3]) (t := 4) ?hr ?_; (case hd => rfl); (case hg => rfl); (case hr => first | (go_simp; done) | (go_simp; rfl)); intro gL hgL w4 hbox hb; have mg0 := Aside0.mk (blk_below Bg0.out hb); clear Bg0; have Bg0 := mg0; clear mg0; have mgH := Aside0.mk (blk_below BgH.out hb); clear BgH; have BgH := mgH; clear mgH; have mgK := Aside0.mk (blk_below BgK.out hb); clear BgK; have BgK := mgK; clear mgK;  have ngL := Aside0.mk hbox; have nB := Aside0.mk (below_step HB.out hb); have nG := Aside0.mk (show w.heap.size ≤ gL from by rw [hgL]; exact HB.out.size); clear HB hbox hb hgL; have HB := nB; have BgL := ngL; have GgL := nG; clear nB ngL nG)
  | ((with_reducible refine gate_dst (N := 8) rfl ?_); refine box_event ?hg (N := 8) ?hd (cs := #[.slice none 0 0, .slice none 0 0]) (t := 29) ?hr ?_; (case hd => rfl); (case hg => rfl); (case hr => first | (go_simp; done) | (go_simp; rfl)); intro gR hgR w5 hbox hb; have mg0 := Aside0.mk (blk_below Bg0.out hb); clear Bg0; have Bg0 := mg0; clear mg0; have mgH := Aside0.mk (blk_below BgH.out hb); clear BgH; have BgH := mgH; clear mgH; have mgK := Aside0.mk (blk_below BgK.out hb); clear BgK; have BgK := mgK; clear mgK; have mgL := Aside0.mk (blk_below BgL.out hb); clear BgL; have BgL := mgL; clear mgL;  have ngR := Aside0.mk hbox; have nB := Aside0.mk (below_step HB.out hb); have nG := Aside0.mk (show w.heap.size ≤ gR from by rw [hgR]; exact HB.out.size); clear HB hbox hb hgR; have HB := nB; have BgR := ngR; have GgR := nG; clear nB ngR nG; have hcg0 : w5.cell? ⟨g0, 0, none⟩ = some (.slice A0_0 l0_0.length c0_0) := (blk_cell Bg0.out 0).trans rfl; have hcg1 : w5.cell? ⟨g0, 1, none⟩ = some (.slice A0_1 l0_1.length c0_1) := (blk_cell Bg0.out 1).trans rfl)
  | ((with_reducible refine gate_callee (f := 51) rfl ?_); refine goesL_ (some 11) rfl rfl Try.func51 (by kernel_rfl) rfl #[.agg #[.slice A0_0 l0_0.length c0_0, .slice A0_1 l0_1.length c0_1]] rfl (by (try simp only [List.map_toArray, List.map_cons, List.map_nil]); first | done | rfl) ?_; (with_reducible refine (impl_Disk_copied.calls A0_0 c0_0 l0_0 A0_1 c0_1 l0_1 t1 t2 _ ?s1 ?s2 ?s3 ?s4 T0.out).mono ?_); (case s1 => exact Kd.C_below HR0.out HB.out); (case s2 => exact HC0.out); (case s3 => exact Kd.C_below HR1.out HB.out); (case s4 => exact HC1.out); rintro e w6 ⟨v0, v1, rfl, ho0, ho1, hb⟩; refine ⟨_, rfl, ?_⟩; have R0 := Aside0.mk (Kd.R_lower ho0 HB.out.size); have R1 := Aside0.mk (Kd.R_lower ho1 HB.out.size); have mgH := Aside0.mk (blk_below BgH.out hb); clear BgH; have BgH := mgH; clear mgH; have mgK := Aside0.mk (blk_below BgK.out hb); clear BgK; have BgK := mgK; clear mgK; have mgL := Aside0.mk (blk_below BgL.out hb); clear BgL; have BgL := mgL; clear mgL; have mgR := Aside0.mk (blk_below BgR.out hb); clear BgR; have BgR := mgR; clear mgR;  have nB := Aside0.mk (below_step HB.out hb); clear HB hb ho0 ho1 hcg0 hcg1 Bg0; have HB := nB; clear nB)
  | ((with_reducible refine gate_dst (N := 9) rfl ?_); refine box_event ?hg (N := 9) ?hd (cs := #[.slice none 0 0, .slice none 0 0]) (t := 29) ?hr ?_; (case hd => rfl); (case hg => rfl); (case hr => first | (go_simp; done) | (go_simp; rfl)); intro gO hgO w7 hbox hb; have NRO := Aside0.mk (show gR ≠ gO from by rw [hgO]; exact Nat.ne_of_lt (blk_lt BgR.out)); have mgH := Aside0.mk (blk_below BgH.out hb); clear BgH; have BgH := mgH; clear mgH; have mgK := Aside0.mk (blk_below BgK.out hb); clear BgK; have BgK := mgK; clear mgK; have mgL := Aside0.mk (blk_below BgL.out hb); clear BgL; have BgL := mgL; clear mgL; have mgR := Aside0.mk (blk_below BgR.out hb); clear BgR; have BgR := mgR; clear mgR;  have mR0 := Aside0.mk (Kd.R_below R0.out hb); have mR1 := Aside0.mk (Kd.R_below R1.out hb); have BgO := Aside0.mk hbox; have nB := Aside0.mk (below_step HB.out hb); have GgO := Aside0.mk (show w.heap.size ≤ gO from by rw [hgO]; exact HB.out.size); clear HB hbox hb hgO R0 R1; have HB := nB; have R0 := mR0; have R1 := mR1; clear nB mR0 mR1; have hz0 : w7.cell? ⟨gO, 0, none⟩ = some (.slice none 0 0) := (blk_cell BgO.out 0).trans rfl; have hz1 : w7.cell? ⟨gO, 1, none⟩ = some (.slice none 0 0) := (blk_cell BgO.out 1).trans rfl; have hf0 := blk_frozen BgO.out 0; have hf1 := blk_frozen BgO.out 1; obtain ⟨As, cs, rfl⟩ := Kd.R_slice R0.out; obtain ⟨Ap, cp, rfl⟩ := Kd.R_slice R1.out)
  | ((with_reducible refine gate_store (t := 29) (p := 9) rfl ?_); refine store_event (t := 29) (p := 9) (v := ?vo1) (w1 := ((w7.setCell ⟨gO, 0, none⟩ (.slice As t1.length cs)).setCell ⟨gO, 1, none⟩ (.slice Ap t2.length cp))) ?hg ?ho ?hn ?hr ?_; (case ho => rfl); (case hg => rfl); (case hn => rfl); (case hr => first | (go_simp; done) | (go_simp; rfl)); intro w8 hw; have K78 := (show Kept w7 w8 (fun k_ => k_ = gO) from by rw [hw]; exact Kept.setCell (Kept.setCell (Kept.refl w7 (fun k_ => k_ = gO)) (p := ⟨gO, 0, none⟩) (.inl rfl) _) (p := ⟨gO, 1, none⟩) (.inl rfl) _); have mO := Aside0.mk (show w8.heap[gO]? = some (.cells #[.slice As t1.length cs, .slice Ap t2.length cp] 29 (0, 0)) from by rw [hw]; exact blk_set (blk_set BgO.out 0 _) 1 _); have mR := Aside0.mk (blk_kept BgR.out K78 NRO.out); have I8 := Aside0.mk (show impl_Disk_settle_I w8 w.heap.size gH gK gO gL gR a1 a2 a3 (.slice As t1.length cs) (.slice Ap t2.length cp) t1 from ⟨blk_kept BgH.out K78 (blk_ne BgH.out BgO.out (by decide)), blk_kept BgK.out K78 (blk_ne BgK.out BgO.out (by decide)), mO.out, blk_kept BgL.out K78 (blk_ne BgL.out BgO.out (by decide)), Kd.R_mono (Kd.R_kept (Kd.R_types R0.out BgO.out (by decide)) K78 (fun _ h_ => h_.2)) (fun _ _ => trivial), HHK.out, mR.out⟩); have nR1 := (Kd.R_kept (Kd.R_types R1.out BgO.out (by decide)) K78 (fun _ h_ => h_.2)); have R8 := Aside0.mk (show Kd.R k76 76 w8 w.heap.size (fun k_ => k_ ≠ gK ∧ some k_ ≠ (.slice As t1.length cs : Value).ownBlock) (.slice Ap t2.length cp) t2 from Kd.R_mono (Kd.R_apart' (v := .slice As t1.length cs) (Kd.R_types nR1 I8.out.k (by decide)) (Kd.R_typed I8.out.s) (by decide)) (fun _ h_ => ⟨h_.1.2, h_.2⟩)); have nB := Aside0.mk (show Below w.heap.size w w8 from by rw [hw]; exact below_set (below_set HB.out GgO.out) GgO.out); clear hw K78 R0 R1 nR1 HB BgR BgO BgH BgK BgL hz0 hz1 hf0 hf1; have HB := nB; have BgR := mR; clear nB mR mO; have hc1 : w8.cell? ⟨gO, 1, none⟩ = some (.slice Ap t2.length cp) := (blk_cell I8.out.o 1).trans rfl)
  | ((with_reducible refine gate_callee (f := 60) rfl ?_); refine goesL_ (some 15) rfl rfl Try.func60 (by kernel_rfl) rfl #[.slice Ap t2.length cp, .func (.func 61) #[] #[.pointer (some ⟨gH, 0, none⟩), .pointer (some ⟨gK, 0, none⟩), .pointer (some ⟨gO, 0, none⟩), .pointer (some ⟨gL, 0, none⟩)]] rfl (by (try simp only [List.map_toArray, List.map_cons, List.map_nil]); first | done | rfl) ?_; refine (impl_Disk_settle_delete (w0 := w) I8.out HB.out GgK.out R8.out HL.out q1 kf sf HGo.out).mono ?_; rintro e w9 ⟨v9, rfl, hr, hI, hb⟩; refine ⟨_, rfl, ?_⟩; obtain ⟨A9, c9, rfl⟩ := Kd.R_slice hr; have I9 := Aside0.mk hI; have R9 := Aside0.mk hr; have B9 := Aside0.mk hb; clear hI hr hb I8 R8 HB BgR hc1; have hq1 : w9.cell? ⟨gO, 1, none⟩ = some (.slice Ap t2.length cp) := (blk_cell I9.out.o 1).trans rfl; have hfq := blk_frozen I9.out.o 1)
  | ((with_reducible refine gate_store (t := 27) (p := 16) rfl ?_); refine store_event (t := 27) (p := 16) (v := ?vo2) (w1 := (w9.setCell ⟨gO, 1, none⟩ (.slice A9 q1.length c9))) ?hg ?ho ?hn ?hr ?_; (case ho => rfl); (case hg => rfl); (case hn => rfl); (case hr => first | (go_simp; done) | (go_simp; rfl)); intro w10 hw; have K := (show Kept w9 w10 (fun k_ => k_ = gO) from by rw [hw]; exact Kept.setCell (Kept.refl w9 (fun k_ => k_ = gO)) (p := ⟨gO, 1, none⟩) (.inl rfl) _); have O10 := Aside0.mk (show w10.heap[gO]? = some (.cells #[.slice As t1.length cs, .slice A9 q1.length c9] 29 (0, 0)) from by rw [hw]; exact blk_set I9.out.o 1 _); have Q10 := Aside0.mk (blk_kept I9.out.r K NRO.out); have S10 := Aside0.mk (Kd.R_kept (Kd.R_types I9.out.s I9.out.o (by decide)) K (fun _ h_ => h_.2)); have R10 := Aside0.mk (Kd.R_kept (Kd.R_types R9.out I9.out.o (by decide)) K (fun _ h_ => h_.2)); have B10 := Aside0.mk (show Below w.heap.size w w10 from by rw [hw]; exact below_set B9.out GgO.out); clear hw K I9 R9 B9 hq1 hfq; have ho0 : w10.cell? ⟨gO, 0, none⟩ = some (.slice As t1.length cs) := (blk_cell O10.out 0).trans rfl; have ho1 : w10.cell? ⟨gO, 1, none⟩ = some (.slice A9 q1.length c9) := (blk_cell O10.out 1).trans rfl; have hr0 : w10.cell? ⟨gR, 0, none⟩ = some (.slice none 0 0) := (blk_cell Q10.out 0).trans rfl; have hr1 : w10.cell? ⟨gR, 1, none⟩ = some (.slice none 0 0) := (blk_cell Q10.out 1).trans rfl; have hfr0 := blk_frozen Q10.out 0; have hfr1 := blk_frozen Q10.out 1)
  | ((with_reducible refine gate_store (t := 29) (p := 8) rfl ?_); refine store_event (t := 29) (p := 8) (v := ?vo3) (w1 := ((w10.setCell ⟨gR, 0, none⟩ (.slice As t1.length cs)).setCell ⟨gR, 1, none⟩ (.slice A9 q1.length c9))) ?hg ?ho ?hn ?hr ?_; (case ho => rfl); (case hg => rfl); (case hn => rfl); (case hr => first | (go_simp; done) | (go_simp; rfl)); intro w11 hw; have K := (show Kept w10 w11 (fun k_ => k_ = gR) from by rw [hw]; exact Kept.setCell (Kept.setCell (Kept.refl w10 (fun k_ => k_ = gR)) (p := ⟨gR, 0, none⟩) (.inl rfl) _) (p := ⟨gR, 1, none⟩) (.inl rfl) _); have Q11 := Aside0.mk (show w11.heap[gR]? = some (.cells #[.slice As t1.length cs, .slice A9 q1.length c9] 29 (0, 0)) from by rw [hw]; exact blk_set (blk_set Q10.out 0 _) 1 _); have S11 := Aside0.mk (Kd.R_kept (Kd.R_types S10.out Q10.out (by decide)) K (fun _ h_ => h_.2)); have R11 := Aside0.mk (Kd.R_kept (Kd.R_types R10.out Q10.out (by decide)) K (fun _ h_ => h_.2)); have B11 := Aside0.mk (show Below w.heap.size w w11 from by rw [hw]; exact below_set (below_set B10.out GgR.out) GgR.out); clear hw K S10 R10 B10 Q10 O10 ho0 ho1 hr0 hr1 hfr0 hfr1))
 refine bodyPost_ret (results_cell_row rfl _ _ gR 29 #[.slice As t1.length cs, .slice A9 q1.length c9] (0, 0) _ rfl Q11.out Try.underlying29 rfl (by kernel_rfl)) rfl ?_
 exact ⟨_, _, rfl, Kd.R_mono S11.out (fun _ _ => trivial), Kd.R_mono R11.out (fun _ _ => trivial), B11.out⟩
/-! ### impl_LandOne: function 19 -/
def impl_LandOne.f (k : Nat) (l0_0 : List ByteArray) (l0_1 : List (S76)) (a1 : Int) : Option (List ByteArray × (List (S76)) × Int) := (impl_Disk_codes.f l0_0 l0_1 a1).bind fun t437 => (if t437 = 0 then ((impl_Disk_pending.f k l0_0 l0_1 a1).bind fun t438 => (if t438 = 0 then ((impl_Disk_copied.f l0_0 l0_1).bind fun bt439 => (some (bt439.1, bt439.2, 5))) else ((impl_Disk_settle.f l0_0 l0_1 a1 1 false).bind fun bt445 => (some (bt445.1, bt445.2, 0))))) else (some (([] : List ByteArray), ([] : List (S76)), t437)))
theorem impl_LandOne.mono : ∀ a0 a1 a2 k, LeO (impl_LandOne.f k a0 a1 a2) (impl_LandOne.f (k + 1) a0 a1 a2) := by
  intro a0 a1 a2 k
  unfold impl_LandOne.f
  repeat' first
      | (with_reducible exact impl_Disk_pending.mono _ _ _ _)
      | (with_reducible exact LeO.refl _)
      | (with_reducible exact LeO.none _)
      | (with_reducible refine LeO.ite ?_ ?_)
      | (with_reducible refine LeO.bind ?_ (fun _ => ?_))
      | exact impl_Disk_pending.mono _ _ _ _
      | exact LeO.none _
      | refine LeO.ite ?_ ?_
      | refine LeO.bind ?_ (fun _ => ?_)
set_option maxHeartbeats 8000000 in
set_option maxRecDepth 100000 in
theorem impl_LandOne.calls (k : Nat) (A0_0 : Option Addr) (c0_0 : Nat) (l0_0 : List ByteArray) (A0_1 : Option Addr) (c0_1 : Nat) (l0_1 : List (S76)) (a1 : Int) (r1 : List ByteArray) (r2 : List (S76)) (r3 : Int) (w : World) (hr0_0 : Kd.C Kd.string w A0_0 l0_0.length l0_0) (hc0_0 : l0_0.length ≤ c0_0) (hr0_1 : Kd.C k76 w A0_1 l0_1.length l0_1) (hc0_1 : l0_1.length ≤ c0_1) (h : impl_LandOne.f k l0_0 l0_1 a1 = some (r1, r2, r3)) :
    Calls Try.prog 19 #[.agg #[.slice A0_0 l0_0.length c0_0, .slice A0_1 l0_1.length c0_1], .int .i64 a1] w fun e w' => ∃ v0_ v1_ : Value, e = .returned (.tuple #[.agg #[v0_, v1_], .int .i64 r3]) ∧ Kd.R Kd.string 9 w' w.heap.size (fun _ => True) v0_ r1 ∧ Kd.R k76 76 w' w.heap.size (fun _ => True) v1_ r2 ∧ Below w.heap.size w w' := by
 have hu29 := Try.underlying29
 have HR0_0 := Aside0.mk hr0_0
 have HC0_0 := Aside0.mk hc0_0
 clear hr0_0 hc0_0
 have HR0_1 := Aside0.mk hr0_1
 have HC0_1 := Aside0.mk hc0_1
 clear hr0_1 hc0_1
 have HB := Aside0.mk (Below.refl w.heap.size w)
 have H : ((impl_Disk_codes.f l0_0 l0_1 a1).bind fun t437 => (if t437 = 0 then ((impl_Disk_pending.f k l0_0 l0_1 a1).bind fun t438 => (if t438 = 0 then ((impl_Disk_copied.f l0_0 l0_1).bind fun bt439 => (some (bt439.1, bt439.2, 5))) else ((impl_Disk_settle.f l0_0 l0_1 a1 1 false).bind fun bt445 => (some (bt445.1, bt445.2, 0))))) else (some (([] : List ByteArray), ([] : List (S76)), t437)))) = some (r1, r2, r3) := h
 clear h
 replace H := Option.bind_eq_some_iff.mp H
 obtain ⟨t437, A30, H⟩ := H
 replace H : (if t437 = 0 then ((impl_Disk_pending.f k l0_0 l0_1 a1).bind fun t438 => (if t438 = 0 then ((impl_Disk_copied.f l0_0 l0_1).bind fun bt439 => (some (bt439.1, bt439.2, 5))) else ((impl_Disk_settle.f l0_0 l0_1 a1 1 false).bind fun bt445 => (some (bt445.1, bt445.2, 0))))) else (some (([] : List ByteArray), ([] : List (S76)), t437))) = some (r1, r2, r3) := H
 have A3 := Aside0.mk A30
 clear A30
 by_cases c4 : t437 = 0
 ·rw [if_pos c4] at H
  have c4b0 : (t437 == 0) = true := beq_iff_eq.mpr c4
  have c4b1 : (t437 != 0) = false := bne_eq_false_iff_eq.mpr c4
  clear c4
  replace H := Option.bind_eq_some_iff.mp H
  obtain ⟨t438, A50, H⟩ := H
  replace H : (if t438 = 0 then ((impl_Disk_copied.f l0_0 l0_1).bind fun bt439 => (some (bt439.1, bt439.2, 5))) else ((impl_Disk_settle.f l0_0 l0_1 a1 1 false).bind fun bt445 => (some (bt445.1, bt445.2, 0)))) = some (r1, r2, r3) := H
  have A5 := Aside0.mk A50
  clear A50
  by_cases c6 : t438 = 0
  ·rw [if_pos c6] at H
   have c6b0 : (t438 == 0) = true := beq_iff_eq.mpr c6
   have c6b1 : (t438 != 0) = false := bne_eq_false_iff_eq.mpr c6
   clear c6
   replace H := Option.bind_eq_some_iff.mp H
   obtain ⟨⟨t439, t442⟩, A70, H⟩ := H
   replace H : (some (t439, t442, 5)) = some (r1, r2, r3) := H
   have A7 := Aside0.mk A70
   clear A70
   simp only [Option.some.injEq, Prod.mk.injEq] at H
   obtain ⟨rfl, rfl, rfl⟩ := H
   go_enter Try.func19, Try.ntmps19
   go_wp2_with (first | ((with_reducible refine gate_dst (N := 2) rfl ?_); refine box_event ?hg (N := 2) ?hd (cs := #[.slice A0_0 l0_0.length c0_0, .slice A0_1 l0_1.length c0_1]) (t := 29) ?hr ?_; (case hd => rfl); (case hg => rfl); (case hr => first | (go_simp; done) | (go_simp; rfl)); intro gb435 hg w8 hbox hb; have n0_ := Aside0.mk (below_step (by repeat (first | (with_reducible first | exact HB.out | apply below_alloc | apply pw_below_drewN | apply below_drew1) | exact HB.out)) hb); have n1_ := Aside0.mk (hbox); have n2_ := Aside0.mk ((by rw [hg]; exact (below_size (by repeat (first | (with_reducible first | exact HB.out | apply below_alloc | apply pw_below_drewN | apply below_drew1) | exact HB.out))) : w.heap.size ≤ gb435)); have n3_ := Aside0.mk ((by rw [hg]; exact (below_size (by repeat (first | (with_reducible first | exact HB.out | apply below_alloc | apply pw_below_drewN | apply below_drew1) | exact HB.out))) : w.heap.size ≤ gb435)); clear HB; have HB := n0_; have BK435 := n1_; have GW435 := n2_; have GE435 := n3_; clear n0_ n1_ n2_ n3_; clear hb hbox hg) | ((with_reducible refine gate_dst (N := 4) rfl ?_); refine box_event ?hg (N := 4) ?hd (cs := #[.slice none 0 0, .slice none 0 0]) (t := 29) ?hr ?_; (case hd => rfl); (case hg => rfl); (case hr => first | (go_simp; done) | (go_simp; rfl)); intro gb436 hg w9 hbox hb; have n0_ := Aside0.mk (blk_below (g := gb435) (o := .cells #[.slice A0_0 l0_0.length c0_0, .slice A0_1 l0_1.length c0_1] 29 (0, 0)) (by (with_reducible repeat (first | refine blk_drewN ?_ _ | refine blk_drew ?_ | refine blk_alloc ?_ _)); exact BK435.out) hb); have n1_ := Aside0.mk (below_step (by repeat (first | (with_reducible first | exact HB.out | apply below_alloc | apply pw_below_drewN | apply below_drew1 | refine below_set ?_ GE435.out) | exact HB.out)) hb); have n2_ := Aside0.mk (hbox); have n3_ := Aside0.mk ((by rw [hg]; exact (below_size (by repeat (first | (with_reducible first | exact HB.out | apply below_alloc | apply pw_below_drewN | apply below_drew1 | refine below_set ?_ GE435.out) | exact HB.out))) : w.heap.size ≤ gb436)); have n4_ := Aside0.mk ((by rw [hg]; exact (below_size (by repeat (first | (with_reducible first | exact HB.out | apply below_alloc | apply pw_below_drewN | apply below_drew1 | refine below_set ?_ GE435.out) | exact HB.out))) : w.heap.size ≤ gb436)); have n5_ := Aside0.mk ((by rw [hg]; exact Nat.ne_of_lt (blk_lt (g := gb435) (o := .cells #[.slice A0_0 l0_0.length c0_0, .slice A0_1 l0_1.length c0_1] 29 (0, 0)) (by (with_reducible repeat (first | refine blk_drewN ?_ _ | refine blk_drew ?_ | refine blk_alloc ?_ _)); exact BK435.out)) : gb435 ≠ gb436)); have n6_ := Aside0.mk ((by rw [hg]; exact Nat.ne_of_gt (blk_lt (g := gb435) (o := .cells #[.slice A0_0 l0_0.length c0_0, .slice A0_1 l0_1.length c0_1] 29 (0, 0)) (by (with_reducible repeat (first | refine blk_drewN ?_ _ | refine blk_drew ?_ | refine blk_alloc ?_ _)); exact BK435.out)) : gb436 ≠ gb435)); clear BK435; clear HB; have BK435 := n0_; have HB := n1_; have BK436 := n2_; have GW436 := n3_; have GE436 := n4_; have NB435_436 := n5_; have NB436_435 := n6_; clear n0_ n1_ n2_ n3_ n4_ n5_ n6_; clear hb hbox hg; have hnb10 := NB435_436.out; have hnc10 := NB436_435.out; have hcz11_0 : w9.cell? ⟨gb435, 0, none⟩ = some (.slice A0_0 l0_0.length c0_0) := (blk_cell BK435.out 0).trans rfl; have hcz11_1 : w9.cell? ⟨gb435, 1, none⟩ = some (.slice A0_1 l0_1.length c0_1) := (blk_cell BK435.out 1).trans rfl; have hfz11_0 := blk_frozen BK435.out 0; have hfz11_1 := blk_frozen BK435.out 1) | ((with_reducible refine gate_callee (f := 34) rfl ?_); refine goesL_ (some 9) rfl rfl Try.func34 (by kernel_rfl) rfl #[.agg #[.slice A0_0 l0_0.length c0_0, .slice A0_1 l0_1.length c0_1], .int .i64 a1] rfl (by (try simp only [List.map_toArray, List.map_cons, List.map_nil]); first | done | rfl | (simp only [List.length_drop, List.length_take]; rfl)) ?_; (with_reducible refine (impl_Disk_codes.calls _ _ l0_0 _ _ l0_1 a1 t437 _ ?side1 ?side2 ?side3 ?side4 A3.out).mono ?_); (case side1 => repeat (first | exact (Kd.C_below HR0_0.out HB.out) | (with_reducible refine Kd.C_alloc ?_ _) | (with_reducible refine Kd.C_drewN ?_ _) | (with_reducible refine Kd.C_drew ?_))); (case side2 => exact HC0_0.out); (case side3 => repeat (first | exact (Kd.C_below HR0_1.out HB.out) | (with_reducible refine Kd.C_alloc ?_ _) | (with_reducible refine Kd.C_drewN ?_ _) | (with_reducible refine Kd.C_drew ?_))); (case side4 => exact HC0_1.out); rintro e w12 ⟨rfl, hb⟩; refine ⟨_, rfl, ?_⟩; have n0_ := Aside0.mk (blk_below (g := gb435) (o := .cells #[.slice A0_0 l0_0.length c0_0, .slice A0_1 l0_1.length c0_1] 29 (0, 0)) (by (with_reducible repeat (first | refine blk_drewN ?_ _ | refine blk_drew ?_ | refine blk_alloc ?_ _)); exact BK435.out) hb); have n1_ := Aside0.mk (blk_below (g := gb436) (o := .cells #[.slice none 0 0, .slice none 0 0] 29 (0, 0)) (by (with_reducible repeat (first | refine blk_drewN ?_ _ | refine blk_drew ?_ | refine blk_alloc ?_ _)); exact BK436.out) hb); have n2_ := Aside0.mk (below_step (by repeat (first | (with_reducible first | exact HB.out | apply below_alloc | apply pw_below_drewN | apply below_drew1 | refine below_set ?_ GE435.out | refine below_set ?_ GE436.out) | exact HB.out)) hb); clear BK435; clear BK436; clear HB; have BK435 := n0_; have BK436 := n1_; have HB := n2_; clear n0_ n1_ n2_; (try clear hb); (try clear hb2); (try clear hk); (try clear hi); have hcz13_0 : w12.cell? ⟨gb435, 0, none⟩ = some (.slice A0_0 l0_0.length c0_0) := (blk_cell BK435.out 0).trans rfl; have hcz13_1 : w12.cell? ⟨gb435, 1, none⟩ = some (.slice A0_1 l0_1.length c0_1) := (blk_cell BK435.out 1).trans rfl; have hfz13_0 := blk_frozen BK435.out 0; have hfz13_1 := blk_frozen BK435.out 1) | ((with_reducible refine gate_callee (f := 50) rfl ?_); refine goesL_ (some 16) rfl rfl Try.func50 (by kernel_rfl) rfl #[.agg #[.slice A0_0 l0_0.length c0_0, .slice A0_1 l0_1.length c0_1], .int .i64 a1] rfl (by (try simp only [List.map_toArray, List.map_cons, List.map_nil]); first | done | rfl | (simp only [List.length_drop, List.length_take]; rfl)) ?_; (with_reducible refine (impl_Disk_pending.calls k _ _ l0_0 _ _ l0_1 a1 t438 _ ?side1 ?side2 ?side3 ?side4 A5.out).mono ?_); (case side1 => repeat (first | exact (Kd.C_below HR0_0.out HB.out) | (with_reducible refine Kd.C_alloc ?_ _) | (with_reducible refine Kd.C_drewN ?_ _) | (with_reducible refine Kd.C_drew ?_))); (case side2 => exact HC0_0.out); (case side3 => repeat (first | exact (Kd.C_below HR0_1.out HB.out) | (with_reducible refine Kd.C_alloc ?_ _) | (with_reducible refine Kd.C_drewN ?_ _) | (with_reducible refine Kd.C_drew ?_))); (case side4 => exact HC0_1.out); rintro e w14 ⟨rfl, hb⟩; refine ⟨_, rfl, ?_⟩; have n0_ := Aside0.mk (blk_below (g := gb435) (o := .cells #[.slice A0_0 l0_0.length c0_0, .slice A0_1 l0_1.length c0_1] 29 (0, 0)) (by (with_reducible repeat (first | refine blk_drewN ?_ _ | refine blk_drew ?_ | refine blk_alloc ?_ _)); exact BK435.out) hb); have n1_ := Aside0.mk (blk_below (g := gb436) (o := .cells #[.slice none 0 0, .slice none 0 0] 29 (0, 0)) (by (with_reducible repeat (first | refine blk_drewN ?_ _ | refine blk_drew ?_ | refine blk_alloc ?_ _)); exact BK436.out) hb); have n2_ := Aside0.mk (below_step (by repeat (first | (with_reducible first | exact HB.out | apply below_alloc | apply pw_below_drewN | apply below_drew1 | refine below_set ?_ GE435.out | refine below_set ?_ GE436.out) | exact HB.out)) hb); clear BK435; clear BK436; clear HB; have BK435 := n0_; have BK436 := n1_; have HB := n2_; clear n0_ n1_ n2_; (try clear hb); (try clear hb2); (try clear hk); (try clear hi); have hcz15_0 : w14.cell? ⟨gb435, 0, none⟩ = some (.slice A0_0 l0_0.length c0_0) := (blk_cell BK435.out 0).trans rfl; have hcz15_1 : w14.cell? ⟨gb435, 1, none⟩ = some (.slice A0_1 l0_1.length c0_1) := (blk_cell BK435.out 1).trans rfl; have hfz15_0 := blk_frozen BK435.out 0; have hfz15_1 := blk_frozen BK435.out 1) | ((with_reducible refine gate_callee (f := 51) rfl ?_); refine goesL_ (some 19) rfl rfl Try.func51 (by kernel_rfl) rfl #[.agg #[.slice A0_0 l0_0.length c0_0, .slice A0_1 l0_1.length c0_1]] rfl (by (try simp only [List.map_toArray, List.map_cons, List.map_nil]); first | done | rfl | (simp only [List.length_drop, List.length_take]; rfl)) ?_; (with_reducible refine (impl_Disk_copied.calls _ _ l0_0 _ _ l0_1 t439 t442 _ ?side1 ?side2 ?side3 ?side4 A7.out).mono ?_); (case side1 => repeat (first | exact (Kd.C_below HR0_0.out HB.out) | (with_reducible refine Kd.C_alloc ?_ _) | (with_reducible refine Kd.C_drewN ?_ _) | (with_reducible refine Kd.C_drew ?_))); (case side2 => exact HC0_0.out); (case side3 => repeat (first | exact (Kd.C_below HR0_1.out HB.out) | (with_reducible refine Kd.C_alloc ?_ _) | (with_reducible refine Kd.C_drewN ?_ _) | (with_reducible refine Kd.C_drew ?_))); (case side4 => exact HC0_1.out); rintro e w16 ⟨v440, v443, rfl, ho0, ho1, hb⟩; refine ⟨_, rfl, ?_⟩; have n0_ := Aside0.mk (Kd.R_lower ho0 (below_size (by repeat (first | (with_reducible first | exact HB.out | apply below_alloc | apply pw_below_drewN | apply below_drew1 | refine below_set ?_ GE435.out | refine below_set ?_ GE436.out) | exact HB.out)))); have n1_ := Aside0.mk (Kd.R_lower ho1 (below_size (by repeat (first | (with_reducible first | exact HB.out | apply below_alloc | apply pw_below_drewN | apply below_drew1 | refine below_set ?_ GE435.out | refine below_set ?_ GE436.out) | exact HB.out)))); have n2_ := Aside0.mk (blk_below (g := gb435) (o := .cells #[.slice A0_0 l0_0.length c0_0, .slice A0_1 l0_1.length c0_1] 29 (0, 0)) (by (with_reducible repeat (first | refine blk_drewN ?_ _ | refine blk_drew ?_ | refine blk_alloc ?_ _)); exact BK435.out) hb); have n3_ := Aside0.mk (blk_below (g := gb436) (o := .cells #[.slice none 0 0, .slice none 0 0] 29 (0, 0)) (by (with_reducible repeat (first | refine blk_drewN ?_ _ | refine blk_drew ?_ | refine blk_alloc ?_ _)); exact BK436.out) hb); have n4_ := Aside0.mk (below_step (by repeat (first | (with_reducible first | exact HB.out | apply below_alloc | apply pw_below_drewN | apply below_drew1 | refine below_set ?_ GE435.out | refine below_set ?_ GE436.out) | exact HB.out)) hb); clear BK435; clear BK436; clear HB; have HO441 := n0_; have HO444 := n1_; have BK435 := n2_; have BK436 := n3_; have HB := n4_; clear n0_ n1_ n2_ n3_ n4_; (try clear hb); (try clear hb2); (try clear hk); (try clear hi); (try clear ho0); (try clear ho1); obtain ⟨Ao17, co17, eo17⟩ := Kd.R_slice HO441.out; subst eo17; have hcz18_0 : w16.cell? ⟨gb436, 0, none⟩ = some (.slice none 0 0) := (blk_cell BK436.out 0).trans rfl; have hcz18_1 : w16.cell? ⟨gb436, 1, none⟩ = some (.slice none 0 0) := (blk_cell BK436.out 1).trans rfl; have hfz18_0 := blk_frozen BK436.out 0; have hfz18_1 := blk_frozen BK436.out 1; obtain ⟨Ao19, co19, eo19⟩ := Kd.R_slice HO444.out; subst eo19))
   refine bodyPost_ret (results_ct rfl _ _ gb436 29 #[.slice Ao17 t439.length co17, .slice Ao19 t442.length co19] (0, 0) _ rfl (by (with_reducible repeat (first | refine blk_drewN ?_ _ | refine blk_drew ?_ | refine blk_alloc ?_ _)); refine blk_put (cs := #[.slice Ao17 t439.length co17, .slice none 0 0]) ?_ 1 _ rfl; (with_reducible repeat (first | refine blk_drewN ?_ _ | refine blk_drew ?_ | refine blk_alloc ?_ _)); refine blk_put (cs := #[.slice none 0 0, .slice none 0 0]) ?_ 0 _ rfl; (with_reducible repeat (first | refine blk_drewN ?_ _ | refine blk_drew ?_ | refine blk_alloc ?_ _)); exact BK436.out) Try.underlying29 rfl (by kernel_rfl)) rfl ?_
   exact ⟨_, _, by first | rfl | (simp [errW_none, errW_some] <;> rfl) | (simp [*, errW_none, errW_some] <;> rfl), by (with_reducible repeat (first | apply Kd.R_alloc | apply Kd.R_drewN | apply Kd.R_drew)); exact Kd.R_mono (Kd.R_far (p := ⟨gb436, 1, none⟩) (Kd.R_far (p := ⟨gb436, 0, none⟩) (Kd.R_types HO441.out BK436.out (by decide)) (fun _ hk => hk.2) (.slice Ao17 t439.length co17)) (fun _ hk => hk.2) (.slice Ao19 t442.length co19)) (fun _ hk => trivial), by (with_reducible repeat (first | apply Kd.R_alloc | apply Kd.R_drewN | apply Kd.R_drew)); exact Kd.R_mono (Kd.R_far (p := ⟨gb436, 1, none⟩) (Kd.R_far (p := ⟨gb436, 0, none⟩) (Kd.R_types HO444.out BK436.out (by decide)) (fun _ hk => hk.2) (.slice Ao17 t439.length co17)) (fun _ hk => hk.2) (.slice Ao19 t442.length co19)) (fun _ hk => trivial), by repeat (first | (with_reducible first | exact HB.out | apply below_alloc | apply pw_below_drewN | apply below_drew1 | refine below_set ?_ GE435.out | refine below_set ?_ GE436.out) | exact HB.out)⟩
  ·rw [if_neg c6] at H
   have c6b0 : (t438 == 0) = false := beq_eq_false_iff_ne.mpr c6
   have c6b1 : (t438 != 0) = true := bne_iff_ne.mpr c6
   replace H := Option.bind_eq_some_iff.mp H
   obtain ⟨⟨t445, t448⟩, A200, H⟩ := H
   replace H : (some (t445, t448, 0)) = some (r1, r2, r3) := H
   have A20 := Aside0.mk A200
   clear A200
   simp only [Option.some.injEq, Prod.mk.injEq] at H
   obtain ⟨rfl, rfl, rfl⟩ := H
   go_enter Try.func19, Try.ntmps19
   go_wp2_with (first | ((with_reducible refine gate_dst (N := 2) rfl ?_); refine box_event ?hg (N := 2) ?hd (cs := #[.slice A0_0 l0_0.length c0_0, .slice A0_1 l0_1.length c0_1]) (t := 29) ?hr ?_; (case hd => rfl); (case hg => rfl); (case hr => first | (go_simp; done) | (go_simp; rfl)); intro gb435 hg w21 hbox hb; have n0_ := Aside0.mk (below_step (by repeat (first | (with_reducible first | exact HB.out | apply below_alloc | apply pw_below_drewN | apply below_drew1) | exact HB.out)) hb); have n1_ := Aside0.mk (hbox); have n2_ := Aside0.mk ((by rw [hg]; exact (below_size (by repeat (first | (with_reducible first | exact HB.out | apply below_alloc | apply pw_below_drewN | apply below_drew1) | exact HB.out))) : w.heap.size ≤ gb435)); have n3_ := Aside0.mk ((by rw [hg]; exact (below_size (by repeat (first | (with_reducible first | exact HB.out | apply below_alloc | apply pw_below_drewN | apply below_drew1) | exact HB.out))) : w.heap.size ≤ gb435)); clear HB; have HB := n0_; have BK435 := n1_; have GW435 := n2_; have GE435 := n3_; clear n0_ n1_ n2_ n3_; clear hb hbox hg) | ((with_reducible refine gate_dst (N := 4) rfl ?_); refine box_event ?hg (N := 4) ?hd (cs := #[.slice none 0 0, .slice none 0 0]) (t := 29) ?hr ?_; (case hd => rfl); (case hg => rfl); (case hr => first | (go_simp; done) | (go_simp; rfl)); intro gb436 hg w22 hbox hb; have n0_ := Aside0.mk (blk_below (g := gb435) (o := .cells #[.slice A0_0 l0_0.length c0_0, .slice A0_1 l0_1.length c0_1] 29 (0, 0)) (by (with_reducible repeat (first | refine blk_drewN ?_ _ | refine blk_drew ?_ | refine blk_alloc ?_ _)); exact BK435.out) hb); have n1_ := Aside0.mk (below_step (by repeat (first | (with_reducible first | exact HB.out | apply below_alloc | apply pw_below_drewN | apply below_drew1 | refine below_set ?_ GE435.out) | exact HB.out)) hb); have n2_ := Aside0.mk (hbox); have n3_ := Aside0.mk ((by rw [hg]; exact (below_size (by repeat (first | (with_reducible first | exact HB.out | apply below_alloc | apply pw_below_drewN | apply below_drew1 | refine below_set ?_ GE435.out) | exact HB.out))) : w.heap.size ≤ gb436)); have n4_ := Aside0.mk ((by rw [hg]; exact (below_size (by repeat (first | (with_reducible first | exact HB.out | apply below_alloc | apply pw_below_drewN | apply below_drew1 | refine below_set ?_ GE435.out) | exact HB.out))) : w.heap.size ≤ gb436)); have n5_ := Aside0.mk ((by rw [hg]; exact Nat.ne_of_lt (blk_lt (g := gb435) (o := .cells #[.slice A0_0 l0_0.length c0_0, .slice A0_1 l0_1.length c0_1] 29 (0, 0)) (by (with_reducible repeat (first | refine blk_drewN ?_ _ | refine blk_drew ?_ | refine blk_alloc ?_ _)); exact BK435.out)) : gb435 ≠ gb436)); have n6_ := Aside0.mk ((by rw [hg]; exact Nat.ne_of_gt (blk_lt (g := gb435) (o := .cells #[.slice A0_0 l0_0.length c0_0, .slice A0_1 l0_1.length c0_1] 29 (0, 0)) (by (with_reducible repeat (first | refine blk_drewN ?_ _ | refine blk_drew ?_ | refine blk_alloc ?_ _)); exact BK435.out)) : gb436 ≠ gb435)); clear BK435; clear HB; have BK435 := n0_; have HB := n1_; have BK436 := n2_; have GW436 := n3_; have GE436 := n4_; have NB435_436 := n5_; have NB436_435 := n6_; clear n0_ n1_ n2_ n3_ n4_ n5_ n6_; clear hb hbox hg; have hnb23 := NB435_436.out; have hnc23 := NB436_435.out; have hcz24_0 : w22.cell? ⟨gb435, 0, none⟩ = some (.slice A0_0 l0_0.length c0_0) := (blk_cell BK435.out 0).trans rfl; have hcz24_1 : w22.cell? ⟨gb435, 1, none⟩ = some (.slice A0_1 l0_1.length c0_1) := (blk_cell BK435.out 1).trans rfl; have hfz24_0 := blk_frozen BK435.out 0; have hfz24_1 := blk_frozen BK435.out 1) | ((with_reducible refine gate_callee (f := 34) rfl ?_); refine goesL_ (some 9) rfl rfl Try.func34 (by kernel_rfl) rfl #[.agg #[.slice A0_0 l0_0.length c0_0, .slice A0_1 l0_1.length c0_1], .int .i64 a1] rfl (by (try simp only [List.map_toArray, List.map_cons, List.map_nil]); first | done | rfl | (simp only [List.length_drop, List.length_take]; rfl)) ?_; (with_reducible refine (impl_Disk_codes.calls _ _ l0_0 _ _ l0_1 a1 t437 _ ?side1 ?side2 ?side3 ?side4 A3.out).mono ?_); (case side1 => repeat (first | exact (Kd.C_below HR0_0.out HB.out) | (with_reducible refine Kd.C_alloc ?_ _) | (with_reducible refine Kd.C_drewN ?_ _) | (with_reducible refine Kd.C_drew ?_))); (case side2 => exact HC0_0.out); (case side3 => repeat (first | exact (Kd.C_below HR0_1.out HB.out) | (with_reducible refine Kd.C_alloc ?_ _) | (with_reducible refine Kd.C_drewN ?_ _) | (with_reducible refine Kd.C_drew ?_))); (case side4 => exact HC0_1.out); rintro e w25 ⟨rfl, hb⟩; refine ⟨_, rfl, ?_⟩; have n0_ := Aside0.mk (blk_below (g := gb435) (o := .cells #[.slice A0_0 l0_0.length c0_0, .slice A0_1 l0_1.length c0_1] 29 (0, 0)) (by (with_reducible repeat (first | refine blk_drewN ?_ _ | refine blk_drew ?_ | refine blk_alloc ?_ _)); exact BK435.out) hb); have n1_ := Aside0.mk (blk_below (g := gb436) (o := .cells #[.slice none 0 0, .slice none 0 0] 29 (0, 0)) (by (with_reducible repeat (first | refine blk_drewN ?_ _ | refine blk_drew ?_ | refine blk_alloc ?_ _)); exact BK436.out) hb); have n2_ := Aside0.mk (below_step (by repeat (first | (with_reducible first | exact HB.out | apply below_alloc | apply pw_below_drewN | apply below_drew1 | refine below_set ?_ GE435.out | refine below_set ?_ GE436.out) | exact HB.out)) hb); clear BK435; clear BK436; clear HB; have BK435 := n0_; have BK436 := n1_; have HB := n2_; clear n0_ n1_ n2_; (try clear hb); (try clear hb2); (try clear hk); (try clear hi); have hcz26_0 : w25.cell? ⟨gb435, 0, none⟩ = some (.slice A0_0 l0_0.length c0_0) := (blk_cell BK435.out 0).trans rfl; have hcz26_1 : w25.cell? ⟨gb435, 1, none⟩ = some (.slice A0_1 l0_1.length c0_1) := (blk_cell BK435.out 1).trans rfl; have hfz26_0 := blk_frozen BK435.out 0; have hfz26_1 := blk_frozen BK435.out 1) | ((with_reducible refine gate_callee (f := 50) rfl ?_); refine goesL_ (some 16) rfl rfl Try.func50 (by kernel_rfl) rfl #[.agg #[.slice A0_0 l0_0.length c0_0, .slice A0_1 l0_1.length c0_1], .int .i64 a1] rfl (by (try simp only [List.map_toArray, List.map_cons, List.map_nil]); first | done | rfl | (simp only [List.length_drop, List.length_take]; rfl)) ?_; (with_reducible refine (impl_Disk_pending.calls k _ _ l0_0 _ _ l0_1 a1 t438 _ ?side1 ?side2 ?side3 ?side4 A5.out).mono ?_); (case side1 => repeat (first | exact (Kd.C_below HR0_0.out HB.out) | (with_reducible refine Kd.C_alloc ?_ _) | (with_reducible refine Kd.C_drewN ?_ _) | (with_reducible refine Kd.C_drew ?_))); (case side2 => exact HC0_0.out); (case side3 => repeat (first | exact (Kd.C_below HR0_1.out HB.out) | (with_reducible refine Kd.C_alloc ?_ _) | (with_reducible refine Kd.C_drewN ?_ _) | (with_reducible refine Kd.C_drew ?_))); (case side4 => exact HC0_1.out); rintro e w27 ⟨rfl, hb⟩; refine ⟨_, rfl, ?_⟩; have n0_ := Aside0.mk (blk_below (g := gb435) (o := .cells #[.slice A0_0 l0_0.length c0_0, .slice A0_1 l0_1.length c0_1] 29 (0, 0)) (by (with_reducible repeat (first | refine blk_drewN ?_ _ | refine blk_drew ?_ | refine blk_alloc ?_ _)); exact BK435.out) hb); have n1_ := Aside0.mk (blk_below (g := gb436) (o := .cells #[.slice none 0 0, .slice none 0 0] 29 (0, 0)) (by (with_reducible repeat (first | refine blk_drewN ?_ _ | refine blk_drew ?_ | refine blk_alloc ?_ _)); exact BK436.out) hb); have n2_ := Aside0.mk (below_step (by repeat (first | (with_reducible first | exact HB.out | apply below_alloc | apply pw_below_drewN | apply below_drew1 | refine below_set ?_ GE435.out | refine below_set ?_ GE436.out) | exact HB.out)) hb); clear BK435; clear BK436; clear HB; have BK435 := n0_; have BK436 := n1_; have HB := n2_; clear n0_ n1_ n2_; (try clear hb); (try clear hb2); (try clear hk); (try clear hi); have hcz28_0 : w27.cell? ⟨gb435, 0, none⟩ = some (.slice A0_0 l0_0.length c0_0) := (blk_cell BK435.out 0).trans rfl; have hcz28_1 : w27.cell? ⟨gb435, 1, none⟩ = some (.slice A0_1 l0_1.length c0_1) := (blk_cell BK435.out 1).trans rfl; have hfz28_0 := blk_frozen BK435.out 0; have hfz28_1 := blk_frozen BK435.out 1) | ((with_reducible refine gate_callee (f := 35) rfl ?_); refine goesL_ (some 22) rfl rfl Try.func35 (by kernel_rfl) rfl #[.agg #[.slice A0_0 l0_0.length c0_0, .slice A0_1 l0_1.length c0_1], .int .i64 a1, .int .i64 1, .bool false] rfl (by (try simp only [List.map_toArray, List.map_cons, List.map_nil]); first | done | rfl | (simp only [List.length_drop, List.length_take]; rfl)) ?_; (with_reducible refine (impl_Disk_settle.calls _ _ l0_0 _ _ l0_1 a1 1 false t445 t448 _ ?side1 ?side2 ?side3 ?side4 A20.out).mono ?_); (case side1 => repeat (first | exact (Kd.C_below HR0_0.out HB.out) | (with_reducible refine Kd.C_alloc ?_ _) | (with_reducible refine Kd.C_drewN ?_ _) | (with_reducible refine Kd.C_drew ?_))); (case side2 => exact HC0_0.out); (case side3 => repeat (first | exact (Kd.C_below HR0_1.out HB.out) | (with_reducible refine Kd.C_alloc ?_ _) | (with_reducible refine Kd.C_drewN ?_ _) | (with_reducible refine Kd.C_drew ?_))); (case side4 => exact HC0_1.out); rintro e w29 ⟨v446, v449, rfl, ho0, ho1, hb⟩; refine ⟨_, rfl, ?_⟩; have n0_ := Aside0.mk (Kd.R_lower ho0 (below_size (by repeat (first | (with_reducible first | exact HB.out | apply below_alloc | apply pw_below_drewN | apply below_drew1 | refine below_set ?_ GE435.out | refine below_set ?_ GE436.out) | exact HB.out)))); have n1_ := Aside0.mk (Kd.R_lower ho1 (below_size (by repeat (first | (with_reducible first | exact HB.out | apply below_alloc | apply pw_below_drewN | apply below_drew1 | refine below_set ?_ GE435.out | refine below_set ?_ GE436.out) | exact HB.out)))); have n2_ := Aside0.mk (blk_below (g := gb435) (o := .cells #[.slice A0_0 l0_0.length c0_0, .slice A0_1 l0_1.length c0_1] 29 (0, 0)) (by (with_reducible repeat (first | refine blk_drewN ?_ _ | refine blk_drew ?_ | refine blk_alloc ?_ _)); exact BK435.out) hb); have n3_ := Aside0.mk (blk_below (g := gb436) (o := .cells #[.slice none 0 0, .slice none 0 0] 29 (0, 0)) (by (with_reducible repeat (first | refine blk_drewN ?_ _ | refine blk_drew ?_ | refine blk_alloc ?_ _)); exact BK436.out) hb); have n4_ := Aside0.mk (below_step (by repeat (first | (with_reducible first | exact HB.out | apply below_alloc | apply pw_below_drewN | apply below_drew1 | refine below_set ?_ GE435.out | refine below_set ?_ GE436.out) | exact HB.out)) hb); clear BK435; clear BK436; clear HB; have HO447 := n0_; have HO450 := n1_; have BK435 := n2_; have BK436 := n3_; have HB := n4_; clear n0_ n1_ n2_ n3_ n4_; (try clear hb); (try clear hb2); (try clear hk); (try clear hi); (try clear ho0); (try clear ho1); obtain ⟨Ao30, co30, eo30⟩ := Kd.R_slice HO447.out; subst eo30; have hcz31_0 : w29.cell? ⟨gb436, 0, none⟩ = some (.slice none 0 0) := (blk_cell BK436.out 0).trans rfl; have hcz31_1 : w29.cell? ⟨gb436, 1, none⟩ = some (.slice none 0 0) := (blk_cell BK436.out 1).trans rfl; have hfz31_0 := blk_frozen BK436.out 0; have hfz31_1 := blk_frozen BK436.out 1; obtain ⟨Ao32, co32, eo32⟩ := Kd.R_slice HO450.out; subst eo32))
   refine bodyPost_ret (results_ct rfl _ _ gb436 29 #[.slice Ao30 t445.length co30, .slice Ao32 t448.length co32] (0, 0) _ rfl (by (with_reducible repeat (first | refine blk_drewN ?_ _ | refine blk_drew ?_ | refine blk_alloc ?_ _)); refine blk_put (cs := #[.slice Ao30 t445.length co30, .slice none 0 0]) ?_ 1 _ rfl; (with_reducible repeat (first | refine blk_drewN ?_ _ | refine blk_drew ?_ | refine blk_alloc ?_ _)); refine blk_put (cs := #[.slice none 0 0, .slice none 0 0]) ?_ 0 _ rfl; (with_reducible repeat (first | refine blk_drewN ?_ _ | refine blk_drew ?_ | refine blk_alloc ?_ _)); exact BK436.out) Try.underlying29 rfl (by kernel_rfl)) rfl ?_
   exact ⟨_, _, by first | rfl | (simp [errW_none, errW_some] <;> rfl) | (simp [*, errW_none, errW_some] <;> rfl), by (with_reducible repeat (first | apply Kd.R_alloc | apply Kd.R_drewN | apply Kd.R_drew)); exact Kd.R_mono (Kd.R_far (p := ⟨gb436, 1, none⟩) (Kd.R_far (p := ⟨gb436, 0, none⟩) (Kd.R_types HO447.out BK436.out (by decide)) (fun _ hk => hk.2) (.slice Ao30 t445.length co30)) (fun _ hk => hk.2) (.slice Ao32 t448.length co32)) (fun _ hk => trivial), by (with_reducible repeat (first | apply Kd.R_alloc | apply Kd.R_drewN | apply Kd.R_drew)); exact Kd.R_mono (Kd.R_far (p := ⟨gb436, 1, none⟩) (Kd.R_far (p := ⟨gb436, 0, none⟩) (Kd.R_types HO450.out BK436.out (by decide)) (fun _ hk => hk.2) (.slice Ao30 t445.length co30)) (fun _ hk => hk.2) (.slice Ao32 t448.length co32)) (fun _ hk => trivial), by repeat (first | (with_reducible first | exact HB.out | apply below_alloc | apply pw_below_drewN | apply below_drew1 | refine below_set ?_ GE435.out | refine below_set ?_ GE436.out) | exact HB.out)⟩
 ·rw [if_neg c4] at H
  have c4b0 : (t437 == 0) = false := beq_eq_false_iff_ne.mpr c4
  have c4b1 : (t437 != 0) = true := bne_iff_ne.mpr c4
  simp only [Option.some.injEq, Prod.mk.injEq] at H
  obtain ⟨rfl, rfl, rfl⟩ := H
  go_enter Try.func19, Try.ntmps19
  go_wp2_with (first | ((with_reducible refine gate_dst (N := 2) rfl ?_); refine box_event ?hg (N := 2) ?hd (cs := #[.slice A0_0 l0_0.length c0_0, .slice A0_1 l0_1.length c0_1]) (t := 29) ?hr ?_; (case hd => rfl); (case hg => rfl); (case hr => first | (go_simp; done) | (go_simp; rfl)); intro gb435 hg w33 hbox hb; have n0_ := Aside0.mk (below_step (by repeat (first | (with_reducible first | exact HB.out | apply below_alloc | apply pw_below_drewN | apply below_drew1) | exact HB.out)) hb); have n1_ := Aside0.mk (hbox); have n2_ := Aside0.mk ((by rw [hg]; exact (below_size (by repeat (first | (with_reducible first | exact HB.out | apply below_alloc | apply pw_below_drewN | apply below_drew1) | exact HB.out))) : w.heap.size ≤ gb435)); have n3_ := Aside0.mk ((by rw [hg]; exact (below_size (by repeat (first | (with_reducible first | exact HB.out | apply below_alloc | apply pw_below_drewN | apply below_drew1) | exact HB.out))) : w.heap.size ≤ gb435)); clear HB; have HB := n0_; have BK435 := n1_; have GW435 := n2_; have GE435 := n3_; clear n0_ n1_ n2_ n3_; clear hb hbox hg) | ((with_reducible refine gate_dst (N := 4) rfl ?_); refine box_event ?hg (N := 4) ?hd (cs := #[.slice none 0 0, .slice none 0 0]) (t := 29) ?hr ?_; (case hd => rfl); (case hg => rfl); (case hr => first | (go_simp; done) | (go_simp; rfl)); intro gb436 hg w34 hbox hb; have n0_ := Aside0.mk (blk_below (g := gb435) (o := .cells #[.slice A0_0 l0_0.length c0_0, .slice A0_1 l0_1.length c0_1] 29 (0, 0)) (by (with_reducible repeat (first | refine blk_drewN ?_ _ | refine blk_drew ?_ | refine blk_alloc ?_ _)); exact BK435.out) hb); have n1_ := Aside0.mk (below_step (by repeat (first | (with_reducible first | exact HB.out | apply below_alloc | apply pw_below_drewN | apply below_drew1 | refine below_set ?_ GE435.out) | exact HB.out)) hb); have n2_ := Aside0.mk (hbox); have n3_ := Aside0.mk ((by rw [hg]; exact (below_size (by repeat (first | (with_reducible first | exact HB.out | apply below_alloc | apply pw_below_drewN | apply below_drew1 | refine below_set ?_ GE435.out) | exact HB.out))) : w.heap.size ≤ gb436)); have n4_ := Aside0.mk ((by rw [hg]; exact (below_size (by repeat (first | (with_reducible first | exact HB.out | apply below_alloc | apply pw_below_drewN | apply below_drew1 | refine below_set ?_ GE435.out) | exact HB.out))) : w.heap.size ≤ gb436)); have n5_ := Aside0.mk ((by rw [hg]; exact Nat.ne_of_lt (blk_lt (g := gb435) (o := .cells #[.slice A0_0 l0_0.length c0_0, .slice A0_1 l0_1.length c0_1] 29 (0, 0)) (by (with_reducible repeat (first | refine blk_drewN ?_ _ | refine blk_drew ?_ | refine blk_alloc ?_ _)); exact BK435.out)) : gb435 ≠ gb436)); have n6_ := Aside0.mk ((by rw [hg]; exact Nat.ne_of_gt (blk_lt (g := gb435) (o := .cells #[.slice A0_0 l0_0.length c0_0, .slice A0_1 l0_1.length c0_1] 29 (0, 0)) (by (with_reducible repeat (first | refine blk_drewN ?_ _ | refine blk_drew ?_ | refine blk_alloc ?_ _)); exact BK435.out)) : gb436 ≠ gb435)); clear BK435; clear HB; have BK435 := n0_; have HB := n1_; have BK436 := n2_; have GW436 := n3_; have GE436 := n4_; have NB435_436 := n5_; have NB436_435 := n6_; clear n0_ n1_ n2_ n3_ n4_ n5_ n6_; clear hb hbox hg; have hnb35 := NB435_436.out; have hnc35 := NB436_435.out; have hcz36_0 : w34.cell? ⟨gb435, 0, none⟩ = some (.slice A0_0 l0_0.length c0_0) := (blk_cell BK435.out 0).trans rfl; have hcz36_1 : w34.cell? ⟨gb435, 1, none⟩ = some (.slice A0_1 l0_1.length c0_1) := (blk_cell BK435.out 1).trans rfl; have hfz36_0 := blk_frozen BK435.out 0; have hfz36_1 := blk_frozen BK435.out 1) | ((with_reducible refine gate_callee (f := 34) rfl ?_); refine goesL_ (some 9) rfl rfl Try.func34 (by kernel_rfl) rfl #[.agg #[.slice A0_0 l0_0.length c0_0, .slice A0_1 l0_1.length c0_1], .int .i64 a1] rfl (by (try simp only [List.map_toArray, List.map_cons, List.map_nil]); first | done | rfl | (simp only [List.length_drop, List.length_take]; rfl)) ?_; (with_reducible refine (impl_Disk_codes.calls _ _ l0_0 _ _ l0_1 a1 t437 _ ?side1 ?side2 ?side3 ?side4 A3.out).mono ?_); (case side1 => repeat (first | exact (Kd.C_below HR0_0.out HB.out) | (with_reducible refine Kd.C_alloc ?_ _) | (with_reducible refine Kd.C_drewN ?_ _) | (with_reducible refine Kd.C_drew ?_))); (case side2 => exact HC0_0.out); (case side3 => repeat (first | exact (Kd.C_below HR0_1.out HB.out) | (with_reducible refine Kd.C_alloc ?_ _) | (with_reducible refine Kd.C_drewN ?_ _) | (with_reducible refine Kd.C_drew ?_))); (case side4 => exact HC0_1.out); rintro e w37 ⟨rfl, hb⟩; refine ⟨_, rfl, ?_⟩; have n0_ := Aside0.mk (blk_below (g := gb435) (o := .cells #[.slice A0_0 l0_0.length c0_0, .slice A0_1 l0_1.length c0_1] 29 (0, 0)) (by (with_reducible repeat (first | refine blk_drewN ?_ _ | refine blk_drew ?_ | refine blk_alloc ?_ _)); exact BK435.out) hb); have n1_ := Aside0.mk (blk_below (g := gb436) (o := .cells #[.slice none 0 0, .slice none 0 0] 29 (0, 0)) (by (with_reducible repeat (first | refine blk_drewN ?_ _ | refine blk_drew ?_ | refine blk_alloc ?_ _)); exact BK436.out) hb); have n2_ := Aside0.mk (below_step (by repeat (first | (with_reducible first | exact HB.out | apply below_alloc | apply pw_below_drewN | apply below_drew1 | refine below_set ?_ GE435.out | refine below_set ?_ GE436.out) | exact HB.out)) hb); clear BK435; clear BK436; clear HB; have BK435 := n0_; have BK436 := n1_; have HB := n2_; clear n0_ n1_ n2_; (try clear hb); (try clear hb2); (try clear hk); (try clear hi); have hcz38_0 : w37.cell? ⟨gb436, 0, none⟩ = some (.slice none 0 0) := (blk_cell BK436.out 0).trans rfl; have hcz38_1 : w37.cell? ⟨gb436, 1, none⟩ = some (.slice none 0 0) := (blk_cell BK436.out 1).trans rfl; have hfz38_0 := blk_frozen BK436.out 0; have hfz38_1 := blk_frozen BK436.out 1))
  refine bodyPost_ret (results_ct rfl _ _ gb436 29 #[.slice none 0 0, .slice none 0 0] (0, 0) _ rfl (by (with_reducible repeat (first | refine blk_drewN ?_ _ | refine blk_drew ?_ | refine blk_alloc ?_ _)); refine blk_put (cs := #[.slice none 0 0, .slice none 0 0]) ?_ 1 _ rfl; (with_reducible repeat (first | refine blk_drewN ?_ _ | refine blk_drew ?_ | refine blk_alloc ?_ _)); refine blk_put (cs := #[.slice none 0 0, .slice none 0 0]) ?_ 0 _ rfl; (with_reducible repeat (first | refine blk_drewN ?_ _ | refine blk_drew ?_ | refine blk_alloc ?_ _)); exact BK436.out) Try.underlying29 rfl (by kernel_rfl)) rfl ?_
  exact ⟨_, _, by first | rfl | (simp [errW_none, errW_some] <;> rfl) | (simp [*, errW_none, errW_some] <;> rfl), by first | exact Kd.R_nil _ _ _ _ _ | exact Kd.N_nil _ _ _ _ _ | exact Kd.V_nil _ _ _ _ _ | exact Kd.Q_nil _ _ _ _ _ | exact Kd.S_nil _ _ _ _ _, by first | exact Kd.R_nil _ _ _ _ _ | exact Kd.N_nil _ _ _ _ _ | exact Kd.V_nil _ _ _ _ _ | exact Kd.Q_nil _ _ _ _ _ | exact Kd.S_nil _ _ _ _ _, by repeat (first | (with_reducible first | exact HB.out | apply below_alloc | apply pw_below_drewN | apply below_drew1 | refine below_set ?_ GE435.out | refine below_set ?_ GE436.out) | exact HB.out)⟩
/-! ### laws_eqIo: function 62 -/
def laws_eqIo.f (a0_0 : Int) (a0_1 : Int) (a0_2 : ByteArray) (a1_0 : Int) (a1_1 : Int) (a1_2 : ByteArray) : Option (Bool) := if a0_0 = a1_0 then (if a0_1 = a1_1 then (if a0_2.toList = a1_2.toList then (some true) else (some false)) else (some false)) else (some false)
set_option maxHeartbeats 8000000 in
set_option maxRecDepth 100000 in
theorem laws_eqIo.calls (a0_0 : Int) (a0_1 : Int) (a0_2 : ByteArray) (a1_0 : Int) (a1_1 : Int) (a1_2 : ByteArray) (r : Bool) (w : World) (h : laws_eqIo.f a0_0 a0_1 a0_2 a1_0 a1_1 a1_2 = some r) :
    Calls Try.prog 62 #[.agg #[.int .i64 a0_0, .int .i64 a0_1, .string a0_2], .agg #[.int .i64 a1_0, .int .i64 a1_1, .string a1_2]] w fun e w' => e = .returned (.bool r) ∧ Below w.heap.size w w' := by
 have hu76 := Try.underlying76
 have HB := Aside0.mk (Below.refl w.heap.size w)
 have H : (if a0_0 = a1_0 then (if a0_1 = a1_1 then (if a0_2.toList = a1_2.toList then (some true) else (some false)) else (some false)) else (some false)) = some r := h
 clear h
 by_cases c3 : a0_0 = a1_0
 ·rw [if_pos c3] at H
  have c3b0 : (a0_0 == a1_0) = true := beq_iff_eq.mpr c3
  have c3b1 : (a0_0 != a1_0) = false := bne_eq_false_iff_eq.mpr c3
  clear c3
  by_cases c4 : a0_1 = a1_1
  ·rw [if_pos c4] at H
   have c4b0 : (a0_1 == a1_1) = true := beq_iff_eq.mpr c4
   have c4b1 : (a0_1 != a1_1) = false := bne_eq_false_iff_eq.mpr c4
   clear c4
   by_cases c5 : a0_2.toList = a1_2.toList
   ·rw [if_pos c5] at H
    have c5b0 : (a0_2.toList == a1_2.toList) = true := beq_iff_eq.mpr c5
    have c5b1 : (a0_2.toList != a1_2.toList) = false := bne_eq_false_iff_eq.mpr c5
    clear c5
    obtain rfl := Option.some.inj H
    go_enter Try.func62, Try.ntmps62
    go_wp2_with (first | ((with_reducible refine gate_dst (N := 2) rfl ?_); refine box_event ?hg (N := 2) ?hd (cs := #[.int .i64 a0_0, .int .i64 a0_1, .string a0_2]) (t := 76) ?hr ?_; (case hd => rfl); (case hg => rfl); (case hr => first | (go_simp; done) | (go_simp; rfl)); intro gb230 hg w6 hbox hb; have n0_ := Aside0.mk (below_step (by repeat (first | (with_reducible first | exact HB.out | apply below_alloc | apply pw_below_drewN | apply below_drew1) | exact HB.out)) hb); have n1_ := Aside0.mk (hbox); have n2_ := Aside0.mk ((by rw [hg]; exact (below_size (by repeat (first | (with_reducible first | exact HB.out | apply below_alloc | apply pw_below_drewN | apply below_drew1) | exact HB.out))) : w.heap.size ≤ gb230)); have n3_ := Aside0.mk ((by rw [hg]; exact (below_size (by repeat (first | (with_reducible first | exact HB.out | apply below_alloc | apply pw_below_drewN | apply below_drew1) | exact HB.out))) : w.heap.size ≤ gb230)); clear HB; have HB := n0_; have BK230 := n1_; have GW230 := n2_; have GE230 := n3_; clear n0_ n1_ n2_ n3_; clear hb hbox hg) | ((with_reducible refine gate_dst (N := 3) rfl ?_); refine box_event ?hg (N := 3) ?hd (cs := #[.int .i64 a1_0, .int .i64 a1_1, .string a1_2]) (t := 76) ?hr ?_; (case hd => rfl); (case hg => rfl); (case hr => first | (go_simp; done) | (go_simp; rfl)); intro gb231 hg w7 hbox hb; have n0_ := Aside0.mk (blk_below (g := gb230) (o := .cells #[.int .i64 a0_0, .int .i64 a0_1, .string a0_2] 76 (0, 0)) (by (with_reducible repeat (first | refine blk_drewN ?_ _ | refine blk_drew ?_ | refine blk_alloc ?_ _)); exact BK230.out) hb); have n1_ := Aside0.mk (below_step (by repeat (first | (with_reducible first | exact HB.out | apply below_alloc | apply pw_below_drewN | apply below_drew1 | refine below_set ?_ GE230.out) | exact HB.out)) hb); have n2_ := Aside0.mk (hbox); have n3_ := Aside0.mk ((by rw [hg]; exact (below_size (by repeat (first | (with_reducible first | exact HB.out | apply below_alloc | apply pw_below_drewN | apply below_drew1 | refine below_set ?_ GE230.out) | exact HB.out))) : w.heap.size ≤ gb231)); have n4_ := Aside0.mk ((by rw [hg]; exact (below_size (by repeat (first | (with_reducible first | exact HB.out | apply below_alloc | apply pw_below_drewN | apply below_drew1 | refine below_set ?_ GE230.out) | exact HB.out))) : w.heap.size ≤ gb231)); have n5_ := Aside0.mk ((by rw [hg]; exact Nat.ne_of_lt (blk_lt (g := gb230) (o := .cells #[.int .i64 a0_0, .int .i64 a0_1, .string a0_2] 76 (0, 0)) (by (with_reducible repeat (first | refine blk_drewN ?_ _ | refine blk_drew ?_ | refine blk_alloc ?_ _)); exact BK230.out)) : gb230 ≠ gb231)); have n6_ := Aside0.mk ((by rw [hg]; exact Nat.ne_of_gt (blk_lt (g := gb230) (o := .cells #[.int .i64 a0_0, .int .i64 a0_1, .string a0_2] 76 (0, 0)) (by (with_reducible repeat (first | refine blk_drewN ?_ _ | refine blk_drew ?_ | refine blk_alloc ?_ _)); exact BK230.out)) : gb231 ≠ gb230)); clear BK230; clear HB; have BK230 := n0_; have HB := n1_; have BK231 := n2_; have GW231 := n3_; have GE231 := n4_; have NB230_231 := n5_; have NB231_230 := n6_; clear n0_ n1_ n2_ n3_ n4_ n5_ n6_; clear hb hbox hg; have hnb8 := NB230_231.out; have hnc8 := NB231_230.out; have hcz9_0 : w7.cell? ⟨gb230, 0, none⟩ = some (.int .i64 a0_0) := (blk_cell BK230.out 0).trans rfl; have hcz9_1 : w7.cell? ⟨gb230, 1, none⟩ = some (.int .i64 a0_1) := (blk_cell BK230.out 1).trans rfl; have hcz9_2 : w7.cell? ⟨gb230, 2, none⟩ = some (.string a0_2) := (blk_cell BK230.out 2).trans rfl; have hfz9_0 := blk_frozen BK230.out 0; have hfz9_1 := blk_frozen BK230.out 1; have hfz9_2 := blk_frozen BK230.out 2; have hcz10_0 : w7.cell? ⟨gb231, 0, none⟩ = some (.int .i64 a1_0) := (blk_cell BK231.out 0).trans rfl; have hcz10_1 : w7.cell? ⟨gb231, 1, none⟩ = some (.int .i64 a1_1) := (blk_cell BK231.out 1).trans rfl; have hcz10_2 : w7.cell? ⟨gb231, 2, none⟩ = some (.string a1_2) := (blk_cell BK231.out 2).trans rfl; have hfz10_0 := blk_frozen BK231.out 0; have hfz10_1 := blk_frozen BK231.out 1; have hfz10_2 := blk_frozen BK231.out 2))
    go_ret
    exact ⟨by first | rfl | (simp [errW_none, errW_some] <;> rfl) | (simp [*, errW_none, errW_some] <;> rfl), by repeat (first | (with_reducible first | exact HB.out | apply below_alloc | apply pw_below_drewN | apply below_drew1 | refine below_set ?_ GE230.out | refine below_set ?_ GE231.out) | exact HB.out)⟩
   ·rw [if_neg c5] at H
    have c5b0 : (a0_2.toList == a1_2.toList) = false := beq_eq_false_iff_ne.mpr c5
    have c5b1 : (a0_2.toList != a1_2.toList) = true := bne_iff_ne.mpr c5
    obtain rfl := Option.some.inj H
    go_enter Try.func62, Try.ntmps62
    go_wp2_with (first | ((with_reducible refine gate_dst (N := 2) rfl ?_); refine box_event ?hg (N := 2) ?hd (cs := #[.int .i64 a0_0, .int .i64 a0_1, .string a0_2]) (t := 76) ?hr ?_; (case hd => rfl); (case hg => rfl); (case hr => first | (go_simp; done) | (go_simp; rfl)); intro gb230 hg w11 hbox hb; have n0_ := Aside0.mk (below_step (by repeat (first | (with_reducible first | exact HB.out | apply below_alloc | apply pw_below_drewN | apply below_drew1) | exact HB.out)) hb); have n1_ := Aside0.mk (hbox); have n2_ := Aside0.mk ((by rw [hg]; exact (below_size (by repeat (first | (with_reducible first | exact HB.out | apply below_alloc | apply pw_below_drewN | apply below_drew1) | exact HB.out))) : w.heap.size ≤ gb230)); have n3_ := Aside0.mk ((by rw [hg]; exact (below_size (by repeat (first | (with_reducible first | exact HB.out | apply below_alloc | apply pw_below_drewN | apply below_drew1) | exact HB.out))) : w.heap.size ≤ gb230)); clear HB; have HB := n0_; have BK230 := n1_; have GW230 := n2_; have GE230 := n3_; clear n0_ n1_ n2_ n3_; clear hb hbox hg) | ((with_reducible refine gate_dst (N := 3) rfl ?_); refine box_event ?hg (N := 3) ?hd (cs := #[.int .i64 a1_0, .int .i64 a1_1, .string a1_2]) (t := 76) ?hr ?_; (case hd => rfl); (case hg => rfl); (case hr => first | (go_simp; done) | (go_simp; rfl)); intro gb231 hg w12 hbox hb; have n0_ := Aside0.mk (blk_below (g := gb230) (o := .cells #[.int .i64 a0_0, .int .i64 a0_1, .string a0_2] 76 (0, 0)) (by (with_reducible repeat (first | refine blk_drewN ?_ _ | refine blk_drew ?_ | refine blk_alloc ?_ _)); exact BK230.out) hb); have n1_ := Aside0.mk (below_step (by repeat (first | (with_reducible first | exact HB.out | apply below_alloc | apply pw_below_drewN | apply below_drew1 | refine below_set ?_ GE230.out) | exact HB.out)) hb); have n2_ := Aside0.mk (hbox); have n3_ := Aside0.mk ((by rw [hg]; exact (below_size (by repeat (first | (with_reducible first | exact HB.out | apply below_alloc | apply pw_below_drewN | apply below_drew1 | refine below_set ?_ GE230.out) | exact HB.out))) : w.heap.size ≤ gb231)); have n4_ := Aside0.mk ((by rw [hg]; exact (below_size (by repeat (first | (with_reducible first | exact HB.out | apply below_alloc | apply pw_below_drewN | apply below_drew1 | refine below_set ?_ GE230.out) | exact HB.out))) : w.heap.size ≤ gb231)); have n5_ := Aside0.mk ((by rw [hg]; exact Nat.ne_of_lt (blk_lt (g := gb230) (o := .cells #[.int .i64 a0_0, .int .i64 a0_1, .string a0_2] 76 (0, 0)) (by (with_reducible repeat (first | refine blk_drewN ?_ _ | refine blk_drew ?_ | refine blk_alloc ?_ _)); exact BK230.out)) : gb230 ≠ gb231)); have n6_ := Aside0.mk ((by rw [hg]; exact Nat.ne_of_gt (blk_lt (g := gb230) (o := .cells #[.int .i64 a0_0, .int .i64 a0_1, .string a0_2] 76 (0, 0)) (by (with_reducible repeat (first | refine blk_drewN ?_ _ | refine blk_drew ?_ | refine blk_alloc ?_ _)); exact BK230.out)) : gb231 ≠ gb230)); clear BK230; clear HB; have BK230 := n0_; have HB := n1_; have BK231 := n2_; have GW231 := n3_; have GE231 := n4_; have NB230_231 := n5_; have NB231_230 := n6_; clear n0_ n1_ n2_ n3_ n4_ n5_ n6_; clear hb hbox hg; have hnb13 := NB230_231.out; have hnc13 := NB231_230.out; have hcz14_0 : w12.cell? ⟨gb230, 0, none⟩ = some (.int .i64 a0_0) := (blk_cell BK230.out 0).trans rfl; have hcz14_1 : w12.cell? ⟨gb230, 1, none⟩ = some (.int .i64 a0_1) := (blk_cell BK230.out 1).trans rfl; have hcz14_2 : w12.cell? ⟨gb230, 2, none⟩ = some (.string a0_2) := (blk_cell BK230.out 2).trans rfl; have hfz14_0 := blk_frozen BK230.out 0; have hfz14_1 := blk_frozen BK230.out 1; have hfz14_2 := blk_frozen BK230.out 2; have hcz15_0 : w12.cell? ⟨gb231, 0, none⟩ = some (.int .i64 a1_0) := (blk_cell BK231.out 0).trans rfl; have hcz15_1 : w12.cell? ⟨gb231, 1, none⟩ = some (.int .i64 a1_1) := (blk_cell BK231.out 1).trans rfl; have hcz15_2 : w12.cell? ⟨gb231, 2, none⟩ = some (.string a1_2) := (blk_cell BK231.out 2).trans rfl; have hfz15_0 := blk_frozen BK231.out 0; have hfz15_1 := blk_frozen BK231.out 1; have hfz15_2 := blk_frozen BK231.out 2))
    go_ret
    exact ⟨by first | rfl | (simp [errW_none, errW_some] <;> rfl) | (simp [*, errW_none, errW_some] <;> rfl), by repeat (first | (with_reducible first | exact HB.out | apply below_alloc | apply pw_below_drewN | apply below_drew1 | refine below_set ?_ GE230.out | refine below_set ?_ GE231.out) | exact HB.out)⟩
  ·rw [if_neg c4] at H
   have c4b0 : (a0_1 == a1_1) = false := beq_eq_false_iff_ne.mpr c4
   have c4b1 : (a0_1 != a1_1) = true := bne_iff_ne.mpr c4
   obtain rfl := Option.some.inj H
   go_enter Try.func62, Try.ntmps62
   go_wp2_with (first | ((with_reducible refine gate_dst (N := 2) rfl ?_); refine box_event ?hg (N := 2) ?hd (cs := #[.int .i64 a0_0, .int .i64 a0_1, .string a0_2]) (t := 76) ?hr ?_; (case hd => rfl); (case hg => rfl); (case hr => first | (go_simp; done) | (go_simp; rfl)); intro gb230 hg w16 hbox hb; have n0_ := Aside0.mk (below_step (by repeat (first | (with_reducible first | exact HB.out | apply below_alloc | apply pw_below_drewN | apply below_drew1) | exact HB.out)) hb); have n1_ := Aside0.mk (hbox); have n2_ := Aside0.mk ((by rw [hg]; exact (below_size (by repeat (first | (with_reducible first | exact HB.out | apply below_alloc | apply pw_below_drewN | apply below_drew1) | exact HB.out))) : w.heap.size ≤ gb230)); have n3_ := Aside0.mk ((by rw [hg]; exact (below_size (by repeat (first | (with_reducible first | exact HB.out | apply below_alloc | apply pw_below_drewN | apply below_drew1) | exact HB.out))) : w.heap.size ≤ gb230)); clear HB; have HB := n0_; have BK230 := n1_; have GW230 := n2_; have GE230 := n3_; clear n0_ n1_ n2_ n3_; clear hb hbox hg) | ((with_reducible refine gate_dst (N := 3) rfl ?_); refine box_event ?hg (N := 3) ?hd (cs := #[.int .i64 a1_0, .int .i64 a1_1, .string a1_2]) (t := 76) ?hr ?_; (case hd => rfl); (case hg => rfl); (case hr => first | (go_simp; done) | (go_simp; rfl)); intro gb231 hg w17 hbox hb; have n0_ := Aside0.mk (blk_below (g := gb230) (o := .cells #[.int .i64 a0_0, .int .i64 a0_1, .string a0_2] 76 (0, 0)) (by (with_reducible repeat (first | refine blk_drewN ?_ _ | refine blk_drew ?_ | refine blk_alloc ?_ _)); exact BK230.out) hb); have n1_ := Aside0.mk (below_step (by repeat (first | (with_reducible first | exact HB.out | apply below_alloc | apply pw_below_drewN | apply below_drew1 | refine below_set ?_ GE230.out) | exact HB.out)) hb); have n2_ := Aside0.mk (hbox); have n3_ := Aside0.mk ((by rw [hg]; exact (below_size (by repeat (first | (with_reducible first | exact HB.out | apply below_alloc | apply pw_below_drewN | apply below_drew1 | refine below_set ?_ GE230.out) | exact HB.out))) : w.heap.size ≤ gb231)); have n4_ := Aside0.mk ((by rw [hg]; exact (below_size (by repeat (first | (with_reducible first | exact HB.out | apply below_alloc | apply pw_below_drewN | apply below_drew1 | refine below_set ?_ GE230.out) | exact HB.out))) : w.heap.size ≤ gb231)); have n5_ := Aside0.mk ((by rw [hg]; exact Nat.ne_of_lt (blk_lt (g := gb230) (o := .cells #[.int .i64 a0_0, .int .i64 a0_1, .string a0_2] 76 (0, 0)) (by (with_reducible repeat (first | refine blk_drewN ?_ _ | refine blk_drew ?_ | refine blk_alloc ?_ _)); exact BK230.out)) : gb230 ≠ gb231)); have n6_ := Aside0.mk ((by rw [hg]; exact Nat.ne_of_gt (blk_lt (g := gb230) (o := .cells #[.int .i64 a0_0, .int .i64 a0_1, .string a0_2] 76 (0, 0)) (by (with_reducible repeat (first | refine blk_drewN ?_ _ | refine blk_drew ?_ | refine blk_alloc ?_ _)); exact BK230.out)) : gb231 ≠ gb230)); clear BK230; clear HB; have BK230 := n0_; have HB := n1_; have BK231 := n2_; have GW231 := n3_; have GE231 := n4_; have NB230_231 := n5_; have NB231_230 := n6_; clear n0_ n1_ n2_ n3_ n4_ n5_ n6_; clear hb hbox hg; have hnb18 := NB230_231.out; have hnc18 := NB231_230.out; have hcz19_0 : w17.cell? ⟨gb230, 0, none⟩ = some (.int .i64 a0_0) := (blk_cell BK230.out 0).trans rfl; have hcz19_1 : w17.cell? ⟨gb230, 1, none⟩ = some (.int .i64 a0_1) := (blk_cell BK230.out 1).trans rfl; have hcz19_2 : w17.cell? ⟨gb230, 2, none⟩ = some (.string a0_2) := (blk_cell BK230.out 2).trans rfl; have hfz19_0 := blk_frozen BK230.out 0; have hfz19_1 := blk_frozen BK230.out 1; have hfz19_2 := blk_frozen BK230.out 2; have hcz20_0 : w17.cell? ⟨gb231, 0, none⟩ = some (.int .i64 a1_0) := (blk_cell BK231.out 0).trans rfl; have hcz20_1 : w17.cell? ⟨gb231, 1, none⟩ = some (.int .i64 a1_1) := (blk_cell BK231.out 1).trans rfl; have hcz20_2 : w17.cell? ⟨gb231, 2, none⟩ = some (.string a1_2) := (blk_cell BK231.out 2).trans rfl; have hfz20_0 := blk_frozen BK231.out 0; have hfz20_1 := blk_frozen BK231.out 1; have hfz20_2 := blk_frozen BK231.out 2))
   go_ret
   exact ⟨by first | rfl | (simp [errW_none, errW_some] <;> rfl) | (simp [*, errW_none, errW_some] <;> rfl), by repeat (first | (with_reducible first | exact HB.out | apply below_alloc | apply pw_below_drewN | apply below_drew1 | refine below_set ?_ GE230.out | refine below_set ?_ GE231.out) | exact HB.out)⟩
 ·rw [if_neg c3] at H
  have c3b0 : (a0_0 == a1_0) = false := beq_eq_false_iff_ne.mpr c3
  have c3b1 : (a0_0 != a1_0) = true := bne_iff_ne.mpr c3
  obtain rfl := Option.some.inj H
  go_enter Try.func62, Try.ntmps62
  go_wp2_with (first | ((with_reducible refine gate_dst (N := 2) rfl ?_); refine box_event ?hg (N := 2) ?hd (cs := #[.int .i64 a0_0, .int .i64 a0_1, .string a0_2]) (t := 76) ?hr ?_; (case hd => rfl); (case hg => rfl); (case hr => first | (go_simp; done) | (go_simp; rfl)); intro gb230 hg w21 hbox hb; have n0_ := Aside0.mk (below_step (by repeat (first | (with_reducible first | exact HB.out | apply below_alloc | apply pw_below_drewN | apply below_drew1) | exact HB.out)) hb); have n1_ := Aside0.mk (hbox); have n2_ := Aside0.mk ((by rw [hg]; exact (below_size (by repeat (first | (with_reducible first | exact HB.out | apply below_alloc | apply pw_below_drewN | apply below_drew1) | exact HB.out))) : w.heap.size ≤ gb230)); have n3_ := Aside0.mk ((by rw [hg]; exact (below_size (by repeat (first | (with_reducible first | exact HB.out | apply below_alloc | apply pw_below_drewN | apply below_drew1) | exact HB.out))) : w.heap.size ≤ gb230)); clear HB; have HB := n0_; have BK230 := n1_; have GW230 := n2_; have GE230 := n3_; clear n0_ n1_ n2_ n3_; clear hb hbox hg) | ((with_reducible refine gate_dst (N := 3) rfl ?_); refine box_event ?hg (N := 3) ?hd (cs := #[.int .i64 a1_0, .int .i64 a1_1, .string a1_2]) (t := 76) ?hr ?_; (case hd => rfl); (case hg => rfl); (case hr => first | (go_simp; done) | (go_simp; rfl)); intro gb231 hg w22 hbox hb; have n0_ := Aside0.mk (blk_below (g := gb230) (o := .cells #[.int .i64 a0_0, .int .i64 a0_1, .string a0_2] 76 (0, 0)) (by (with_reducible repeat (first | refine blk_drewN ?_ _ | refine blk_drew ?_ | refine blk_alloc ?_ _)); exact BK230.out) hb); have n1_ := Aside0.mk (below_step (by repeat (first | (with_reducible first | exact HB.out | apply below_alloc | apply pw_below_drewN | apply below_drew1 | refine below_set ?_ GE230.out) | exact HB.out)) hb); have n2_ := Aside0.mk (hbox); have n3_ := Aside0.mk ((by rw [hg]; exact (below_size (by repeat (first | (with_reducible first | exact HB.out | apply below_alloc | apply pw_below_drewN | apply below_drew1 | refine below_set ?_ GE230.out) | exact HB.out))) : w.heap.size ≤ gb231)); have n4_ := Aside0.mk ((by rw [hg]; exact (below_size (by repeat (first | (with_reducible first | exact HB.out | apply below_alloc | apply pw_below_drewN | apply below_drew1 | refine below_set ?_ GE230.out) | exact HB.out))) : w.heap.size ≤ gb231)); have n5_ := Aside0.mk ((by rw [hg]; exact Nat.ne_of_lt (blk_lt (g := gb230) (o := .cells #[.int .i64 a0_0, .int .i64 a0_1, .string a0_2] 76 (0, 0)) (by (with_reducible repeat (first | refine blk_drewN ?_ _ | refine blk_drew ?_ | refine blk_alloc ?_ _)); exact BK230.out)) : gb230 ≠ gb231)); have n6_ := Aside0.mk ((by rw [hg]; exact Nat.ne_of_gt (blk_lt (g := gb230) (o := .cells #[.int .i64 a0_0, .int .i64 a0_1, .string a0_2] 76 (0, 0)) (by (with_reducible repeat (first | refine blk_drewN ?_ _ | refine blk_drew ?_ | refine blk_alloc ?_ _)); exact BK230.out)) : gb231 ≠ gb230)); clear BK230; clear HB; have BK230 := n0_; have HB := n1_; have BK231 := n2_; have GW231 := n3_; have GE231 := n4_; have NB230_231 := n5_; have NB231_230 := n6_; clear n0_ n1_ n2_ n3_ n4_ n5_ n6_; clear hb hbox hg; have hnb23 := NB230_231.out; have hnc23 := NB231_230.out; have hcz24_0 : w22.cell? ⟨gb230, 0, none⟩ = some (.int .i64 a0_0) := (blk_cell BK230.out 0).trans rfl; have hcz24_1 : w22.cell? ⟨gb230, 1, none⟩ = some (.int .i64 a0_1) := (blk_cell BK230.out 1).trans rfl; have hcz24_2 : w22.cell? ⟨gb230, 2, none⟩ = some (.string a0_2) := (blk_cell BK230.out 2).trans rfl; have hfz24_0 := blk_frozen BK230.out 0; have hfz24_1 := blk_frozen BK230.out 1; have hfz24_2 := blk_frozen BK230.out 2; have hcz25_0 : w22.cell? ⟨gb231, 0, none⟩ = some (.int .i64 a1_0) := (blk_cell BK231.out 0).trans rfl; have hcz25_1 : w22.cell? ⟨gb231, 1, none⟩ = some (.int .i64 a1_1) := (blk_cell BK231.out 1).trans rfl; have hcz25_2 : w22.cell? ⟨gb231, 2, none⟩ = some (.string a1_2) := (blk_cell BK231.out 2).trans rfl; have hfz25_0 := blk_frozen BK231.out 0; have hfz25_1 := blk_frozen BK231.out 1; have hfz25_2 := blk_frozen BK231.out 2))
  go_ret
  exact ⟨by first | rfl | (simp [errW_none, errW_some] <;> rfl) | (simp [*, errW_none, errW_some] <;> rfl), by repeat (first | (with_reducible first | exact HB.out | apply below_alloc | apply pw_below_drewN | apply below_drew1 | refine below_set ?_ GE230.out | refine below_set ?_ GE231.out) | exact HB.out)⟩
/-! ### laws_eqIoS: function 37 -/
def laws_eqIoS.l0 : Nat → List (S76) → List (S76) → Int → Option (Bool)
  | 0, _, _, _ => none
  | k + 1, x0, x1, x5 => if x5 < (x0.length : Int) then (if 0 ≤ x5 then (if x5 < (x1.length : Int) then ((laws_eqIo.f ((rd_T76 x0 x5).f0) ((rd_T76 x0 x5).f1) ((rd_T76 x0 x5).f2) ((rd_T76 x1 x5).f0) ((rd_T76 x1 x5).f1) ((rd_T76 x1 x5).f2)).bind fun t234 => (if t234 = true then (laws_eqIoS.l0 k x0 x1 (wrap64 (x5 + 1))) else (some false))) else (none)) else (none)) else (some true)
def laws_eqIoS.f (k : Nat) (l0 : List (S76)) (l1 : List (S76)) : Option (Bool) := if (l0.length : Int) = (l1.length : Int) then (laws_eqIoS.l0 k l0 l1 0) else (some false)
theorem laws_eqIoS.mono_l : ∀ k, (∀ y0 y1 y2, LeO (laws_eqIoS.l0 k y0 y1 y2) (laws_eqIoS.l0 (k + 1) y0 y1 y2))
  | 0 => fun _ _ _ r h => by simp [laws_eqIoS.l0] at h
  | k + 1 => by
    have ih0 := laws_eqIoS.mono_l k
    · intro y0 y1 y2
      unfold laws_eqIoS.l0
      repeat' first
      | (with_reducible exact ih0 _ _ _)
      | (with_reducible exact LeO.refl _)
      | (with_reducible exact LeO.none _)
      | (with_reducible refine LeO.ite ?_ ?_)
      | (with_reducible refine LeO.bind ?_ (fun _ => ?_))
      | exact ih0 _ _ _
      | exact LeO.none _
      | refine LeO.ite ?_ ?_
      | refine LeO.bind ?_ (fun _ => ?_)
theorem laws_eqIoS.mono : ∀ a0 a1 k, LeO (laws_eqIoS.f k a0 a1) (laws_eqIoS.f (k + 1) a0 a1) := by
  intro a0 a1 k
  have ih0 := laws_eqIoS.mono_l k
  unfold laws_eqIoS.f
  repeat' first
      | (with_reducible exact ih0 _ _ _)
      | (with_reducible exact LeO.refl _)
      | (with_reducible exact LeO.none _)
      | (with_reducible refine LeO.ite ?_ ?_)
      | (with_reducible refine LeO.bind ?_ (fun _ => ?_))
      | exact ih0 _ _ _
      | exact LeO.none _
      | refine LeO.ite ?_ ?_
      | refine LeO.bind ?_ (fun _ => ?_)
def laws_eqIoS.T6 : Bool × List (List Nat × List Nat) := (true, [([], []), ([], []), ([0, 1], [0, 1]), ([2], [2]), ([], []), ([], []), ([4, 5], [4, 5]), ([6], [6]), ([3, 7], [3, 7]), ([8], [8])])
def laws_eqIoS.B6 : List Nat := [0, 0, 3, 7, 0, 0, 48, 112, 255, 511]
theorem laws_eqIoS.tab6 : rtab .any (opsOf Try.f37 6) = laws_eqIoS.T6 := by kernel_rfl
theorem laws_eqIoS.bits6 : waitsOk laws_eqIoS.T6.2 laws_eqIoS.B6 = true := by kernel_rfl
set_option maxHeartbeats 8000000 in
set_option maxRecDepth 100000 in
theorem laws_eqIoS.calls (k : Nat) (A0 : Option Addr) (c0 : Nat) (l0 : List (S76)) (A1 : Option Addr) (c1 : Nat) (l1 : List (S76)) (r : Bool) (w : World) (hr0 : Kd.C k76 w A0 l0.length l0) (hc0 : l0.length ≤ c0) (hr1 : Kd.C k76 w A1 l1.length l1) (hc1 : l1.length ≤ c1) (h : laws_eqIoS.f k l0 l1 = some r) :
    Calls Try.prog 37 #[.slice A0 l0.length c0, .slice A1 l1.length c1] w fun e w' => e = .returned (.bool r) ∧ Below w.heap.size w w' := by
 have hu76 := Try.underlying76
 have HR0 := Aside0.mk hr0
 have HC0 := Aside0.mk hc0
 clear hr0 hc0
 have HR1 := Aside0.mk hr1
 have HC1 := Aside0.mk hc1
 clear hr1 hc1
 have HB := Aside0.mk (Below.refl w.heap.size w)
 have H : (if (l0.length : Int) = (l1.length : Int) then (laws_eqIoS.l0 k l0 l1 0) else (some false)) = some r := h
 clear h
 by_cases c3 : (l0.length : Int) = (l1.length : Int)
 ·rw [if_pos c3] at H
  have c3b0 : ((l0.length : Int) == (l1.length : Int)) = true := beq_iff_eq.mpr c3
  have c3b1 : ((l0.length : Int) != (l1.length : Int)) = false := bne_eq_false_iff_eq.mpr c3
  have c3b2 : (l0.length == l1.length) = true := by first | simpa using c3 | (simp at c3 ⊢; omega)
  clear c3
  have H' := Aside0.mk H
  clear H
  go_enter Try.func37, Try.ntmps37
  go_wp2
  go_loopg [5] k (fun kq v5 w' => ∃ (x5_1 : Int), v5 = .int .i64 x5_1 ∧ Aside0 (laws_eqIoS.l0 kq l0 l1 x5_1 = some r) ∧ Aside0 (kq ≤ k) ∧ Aside0 (Below w.heap.size w w'))
  case atStart => exact ⟨(0), (by first | rfl | (simp; done) | (simp [*]; done)), H', ⟨Nat.le_refl _⟩, ⟨by repeat (first | (with_reducible first | exact HB.out | apply below_alloc | apply pw_below_drewN | apply below_drew1) | exact HB.out)⟩⟩
  case round =>
   clear H'
   try clear c1
   try clear p2
   try clear c3
   try clear c3b0
   try clear c3b1
   try clear c3b2
   obtain ⟨x5_1, rfl, HA, HK1, HB⟩ := hrel
   cases gk with
   | zero => exact absurd HA.out (by simp [laws_eqIoS.l0])
   | succ k1 =>
    have H := HA.out
    clear HA
    simp only [laws_eqIoS.l0] at H
    by_cases c4 : x5_1 < (l0.length : Int)
    ·rw [if_pos c4] at H
     have c4b0 : decide (x5_1 < (l0.length : Int)) = true := decide_eq_true c4
     clear c4
     by_cases c5 : 0 ≤ x5_1
     ·rw [if_pos c5] at H
      have c5b0 : decide (0 ≤ x5_1) = true := decide_eq_true c5
      clear c5
      by_cases c6 : x5_1 < (l1.length : Int)
      ·rw [if_pos c6] at H
       have c6b0 : decide (x5_1 < (l1.length : Int)) = true := decide_eq_true c6
       clear c6
       replace H := Option.bind_eq_some_iff.mp H
       obtain ⟨t234, A70, H⟩ := H
       replace H : (if t234 = true then (laws_eqIoS.l0 k1 l0 l1 (wrap64 (x5_1 + 1))) else (some false)) = some r := H
       have A7 := Aside0.mk A70
       clear A70
       by_cases c8 : t234 = true
       ·subst c8
        have H1 : (laws_eqIoS.l0 k1 l0 l1 (wrap64 (x5_1 + 1))) = some r := by rw [if_pos rfl] at H; exact H
        clear H
        have H := H1
        clear H1
        have H' := Aside0.mk H
        clear H
        try go_wp2
        have n0_ := Aside0.mk (below_drew1 HB.out)
        clear HB
        have HB := n0_
        clear n0_
        have p232 : 0 ≤ (x5_1 : Int) := of_decide_eq_true (by first | (with_reducible assumption) | assumption)
        have q232 : x5_1 < (l0.length : Int) := of_decide_eq_true (by first | (with_reducible assumption) | assumption)
        obtain ⟨ad232, e232, hx232_0, hx232_1, hx232_2⟩ := at_T76 HR0.out x5_1 p232 q232
        have hw232_2 := hx232_2
        have hw232_1 := hx232_1
        have hw232_0 := hx232_0
        cases e232
        replace hx232_0 := (HB.out.cell (World.block_lt_of_cell? w _ hx232_0)).trans hx232_0
        replace hx232_1 := (HB.out.cell (World.block_lt_of_cell? w _ hx232_1)).trans hx232_1
        replace hx232_2 := (HB.out.cell (World.block_lt_of_cell? w _ hx232_2)).trans hx232_2
        replace p232 := eq_true p232
        replace q232 := eq_true q232
        have p233 : 0 ≤ (x5_1 : Int) := of_decide_eq_true (by first | (with_reducible assumption) | assumption)
        have q233 : x5_1 < (l1.length : Int) := of_decide_eq_true (by first | (with_reducible assumption) | assumption)
        obtain ⟨ad233, e233, hx233_0, hx233_1, hx233_2⟩ := at_T76 HR1.out x5_1 p233 q233
        have hw233_2 := hx233_2
        have hw233_1 := hx233_1
        have hw233_0 := hx233_0
        cases e233
        replace hx233_0 := (HB.out.cell (World.block_lt_of_cell? w _ hx233_0)).trans hx233_0
        replace hx233_1 := (HB.out.cell (World.block_lt_of_cell? w _ hx233_1)).trans hx233_1
        replace hx233_2 := (HB.out.cell (World.block_lt_of_cell? w _ hx233_2)).trans hx233_2
        replace p233 := eq_true p233
        replace q233 := eq_true q233
        refine start_ (n := 10) (S := fun w' => w'.cell? (ad232.add ((x5_1).toNat * 3)) = some (.int .i64 ((rd_T76 l0 x5_1).f0)) ∧ w'.cell? ⟨(ad232.add ((x5_1).toNat * 3)).block, (ad232.add ((x5_1).toNat * 3)).off + 1, none⟩ = some (.int .i64 ((rd_T76 l0 x5_1).f1)) ∧ w'.cell? ⟨(ad232.add ((x5_1).toNat * 3)).block, (ad232.add ((x5_1).toNat * 3)).off + 2, none⟩ = some (.string ((rd_T76 l0 x5_1).f2)) ∧ w'.cell? (ad233.add ((x5_1).toNat * 3)) = some (.int .i64 ((rd_T76 l1 x5_1).f0)) ∧ w'.cell? ⟨(ad233.add ((x5_1).toNat * 3)).block, (ad233.add ((x5_1).toNat * 3)).off + 1, none⟩ = some (.int .i64 ((rd_T76 l1 x5_1).f1)) ∧ w'.cell? ⟨(ad233.add ((x5_1).toNat * 3)).block, (ad233.add ((x5_1).toNat * 3)).off + 2, none⟩ = some (.string ((rd_T76 l1 x5_1).f2))) (ds := []) #[false, false, false, false, false, false, false, false, false, false] (by kernel_rfl) rfl rfl ⟨((HB.out.cell (World.block_lt_of_cell? w _ hw232_0)).trans hw232_0), ((HB.out.cell (World.block_lt_of_cell? w _ hw232_1)).trans hw232_1), ((HB.out.cell (World.block_lt_of_cell? w _ hw232_2)).trans hw232_2), ((HB.out.cell (World.block_lt_of_cell? w _ hw233_0)).trans hw233_0), ((HB.out.cell (World.block_lt_of_cell? w _ hw233_1)).trans hw233_1), ((HB.out.cell (World.block_lt_of_cell? w _ hw233_2)).trans hw233_2)⟩ (fun hHeld => ?_); refine with_tabW laws_eqIoS.tab6 laws_eqIoS.bits6 (fun HT_ HW_ => ?_)
        generalize wr.drew = w9 at HB hx232_0 hx232_1 hx232_2 hx233_0 hx233_1 hx233_2 hHeld ⊢
        refine pure_ (i := 0) (N := some 17) (v := ?_) (a' := ?_) #[true, false, false, false, false, false, false, false, false, false] rfl rfl (any_of HT_.out (by kernel_rfl)) (fun _ _ _ h => h) (Or.inl ⟨by rfl, ?_⟩) ?_ ?_
        rotate_left
        ·intro w'
         go_simp
         with_reducible rfl
        rotate_left
        ·simp only [Act.put, List.setIfInBounds_toArray, List.set_cons_zero, List.set_cons_succ, i64_w, i32_w]
         rfl
        refine pure_ (i := 1) (N := some 18) (v := ?_) (a' := ?_) #[true, true, false, false, false, false, false, false, false, false] rfl rfl (any_of HT_.out (by kernel_rfl)) (fun _ _ _ h => h) (Or.inl ⟨by rfl, ?_⟩) ?_ ?_
        rotate_left
        ·intro w'
         go_simp
         with_reducible rfl
        rotate_left
        ·simp only [Act.put, List.setIfInBounds_toArray, List.set_cons_zero, List.set_cons_succ, i64_w, i32_w]
         rfl
        refine pure_ (i := 2) (N := some 19) (v := ?_) (a' := ?_) #[true, true, true, false, false, false, false, false, false, false] rfl rfl (any_of HT_.out (by kernel_rfl)) (fun _ _ _ h => h) (Or.inl ⟨by rfl, ?_⟩) ?_ ?_
        rotate_left
        ·intro w'
         go_simp
         with_reducible rfl
        rotate_left
        ·simp only [Act.put, List.setIfInBounds_toArray, List.set_cons_zero, List.set_cons_succ, i64_w, i32_w]
         rfl
        refine pure_ (i := 4) (N := some 21) (v := ?_) (a' := ?_) #[true, true, true, false, true, false, false, false, false, false] rfl rfl (any_of HT_.out (by kernel_rfl)) (fun _ _ _ h => h) (Or.inl ⟨by rfl, ?_⟩) ?_ ?_
        rotate_left
        ·intro w'
         go_simp
         with_reducible rfl
        rotate_left
        ·simp only [Act.put, List.setIfInBounds_toArray, List.set_cons_zero, List.set_cons_succ, i64_w, i32_w]
         rfl
        refine pure_ (i := 5) (N := some 22) (v := ?_) (a' := ?_) #[true, true, true, false, true, true, false, false, false, false] rfl rfl (any_of HT_.out (by kernel_rfl)) (fun _ _ _ h => h) (Or.inl ⟨by rfl, ?_⟩) ?_ ?_
        rotate_left
        ·intro w'
         go_simp
         with_reducible rfl
        rotate_left
        ·simp only [Act.put, List.setIfInBounds_toArray, List.set_cons_zero, List.set_cons_succ, i64_w, i32_w]
         rfl
        refine pure_ (i := 6) (N := some 23) (v := ?_) (a' := ?_) #[true, true, true, false, true, true, true, false, false, false] rfl rfl (any_of HT_.out (by kernel_rfl)) (fun _ _ _ h => h) (Or.inl ⟨by rfl, ?_⟩) ?_ ?_
        rotate_left
        ·intro w'
         go_simp
         with_reducible rfl
        rotate_left
        ·simp only [Act.put, List.setIfInBounds_toArray, List.set_cons_zero, List.set_cons_succ, i64_w, i32_w]
         rfl
        refine take_ (i := 3) (N := some 20) (v := ?_) (a' := ?_) #[true, true, true, true, true, true, true, false, false, false] rfl rfl (take_ofW HT_.out HW_.out (by kernel_rfl)) (fun _ _ _ h => h) (Or.inl ⟨by rfl, ?_⟩) hHeld ?_ ?_
        rotate_left
        ·rintro w' ⟨s0, s1, s2, s3, s4, s5⟩
         go_simp
         with_reducible rfl
        rotate_left
        ·simp only [Act.put, List.setIfInBounds_toArray, List.set_cons_zero, List.set_cons_succ, i64_w, i32_w]
         rfl
        refine take_ (i := 7) (N := some 24) (v := ?_) (a' := ?_) #[true, true, true, true, true, true, true, true, false, false] rfl rfl (take_ofW HT_.out HW_.out (by kernel_rfl)) (fun _ _ _ h => h) (Or.inl ⟨by rfl, ?_⟩) hHeld ?_ ?_
        rotate_left
        ·rintro w' ⟨s0, s1, s2, s3, s4, s5⟩
         go_simp
         with_reducible rfl
        rotate_left
        ·simp only [Act.put, List.setIfInBounds_toArray, List.set_cons_zero, List.set_cons_succ, i64_w, i32_w]
         rfl
        refine one_ (i := 8) (N := some 25) #[true, true, true, true, true, true, true, true, true, false] rfl rfl (one_of HT_.out (by kernel_rfl)) (by decide) (fun K hK => ?_)
        refine goes_ Try.func62 (by kernel_rfl) rfl #[.agg #[.int .i64 ((rd_T76 l0 x5_1).f0), .int .i64 ((rd_T76 l0 x5_1).f1), .string ((rd_T76 l0 x5_1).f2)], .agg #[.int .i64 ((rd_T76 l1 x5_1).f0), .int .i64 ((rd_T76 l1 x5_1).f1), .string ((rd_T76 l1 x5_1).f2)]] (by rfl) rfl rfl (by (try simp only [List.map_toArray, List.map_cons, List.map_nil]); first | done | rfl | (simp only [List.length_drop, List.length_take]; rfl)) ?_
        with_reducible refine (laws_eqIo.calls ((rd_T76 l0 x5_1).f0) ((rd_T76 l0 x5_1).f1) ((rd_T76 l0 x5_1).f2) ((rd_T76 l1 x5_1).f0) ((rd_T76 l1 x5_1).f1) ((rd_T76 l1 x5_1).f2) true _ A7.out).mono ?_
        rintro e w10 ⟨rfl, hb⟩
        refine ⟨_, rfl, ?_⟩
        have n0_ := Aside0.mk (below_step (by repeat (first | (with_reducible first | exact HB.out | apply below_alloc | apply pw_below_drewN | apply below_drew1) | exact HB.out)) hb)
        clear HB
        have HB := n0_
        clear n0_
        (try clear hb)
        (try clear hb2)
        (try clear hk)
        (try clear hi)
        refine hK.out _ _ ⟨((HB.out.cell (World.block_lt_of_cell? w _ hw232_0)).trans hw232_0), ((HB.out.cell (World.block_lt_of_cell? w _ hw232_1)).trans hw232_1), ((HB.out.cell (World.block_lt_of_cell? w _ hw232_2)).trans hw232_2), ((HB.out.cell (World.block_lt_of_cell? w _ hw233_0)).trans hw233_0), ((HB.out.cell (World.block_lt_of_cell? w _ hw233_1)).trans hw233_1), ((HB.out.cell (World.block_lt_of_cell? w _ hw233_2)).trans hw233_2)⟩ (fun hHeld => ?_)
        clear hK K
        refine norm_ (a' := ?_) ?_ ?_
        rotate_left
        ·show Act.put _ (some 25) _ = _
         simp only [Act.put, List.setIfInBounds_toArray, List.set_cons_zero, List.set_cons_succ, i64_w, i32_w]
         rfl
        refine pure_ (i := 9) (N := some 26) (v := ?_) (a' := ?_) #[true, true, true, true, true, true, true, true, true, true] rfl rfl (any_of HT_.out (by kernel_rfl)) (fun _ _ _ h => h) (Or.inl ⟨by rfl, ?_⟩) ?_ ?_
        rotate_left
        ·intro w'
         go_simp
         with_reducible rfl
        rotate_left
        ·simp only [Act.put, List.setIfInBounds_toArray, List.set_cons_zero, List.set_cons_succ, i64_w, i32_w]
         rfl
        refine done_ (done_of HT_.out (by kernel_rfl)) ?_
        try go_wp2
        go_roundg k1
        case measure => have := HK1.out; omega
        case rel => exact ⟨(wrap64 (x5_1 + 1)), (by first | rfl | (simp; done) | (simp [*]; done)), H', ⟨by have := HK1.out; omega⟩, ⟨by repeat (first | (with_reducible first | exact HB.out | apply below_alloc | apply pw_below_drewN | apply below_drew1) | exact HB.out)⟩⟩
       ·replace c8 := Bool.eq_false_iff.mpr c8
        subst c8
        have H1 : (some false) = some r := by rw [if_neg (show ¬ (false = true) by decide)] at H; exact H
        clear H
        have H := H1
        clear H1
        obtain rfl := Option.some.inj H
        try go_wp2
        have n0_ := Aside0.mk (below_drew1 HB.out)
        clear HB
        have HB := n0_
        clear n0_
        have p232 : 0 ≤ (x5_1 : Int) := of_decide_eq_true (by first | (with_reducible assumption) | assumption)
        have q232 : x5_1 < (l0.length : Int) := of_decide_eq_true (by first | (with_reducible assumption) | assumption)
        obtain ⟨ad232, e232, hx232_0, hx232_1, hx232_2⟩ := at_T76 HR0.out x5_1 p232 q232
        have hw232_2 := hx232_2
        have hw232_1 := hx232_1
        have hw232_0 := hx232_0
        cases e232
        replace hx232_0 := (HB.out.cell (World.block_lt_of_cell? w _ hx232_0)).trans hx232_0
        replace hx232_1 := (HB.out.cell (World.block_lt_of_cell? w _ hx232_1)).trans hx232_1
        replace hx232_2 := (HB.out.cell (World.block_lt_of_cell? w _ hx232_2)).trans hx232_2
        replace p232 := eq_true p232
        replace q232 := eq_true q232
        have p233 : 0 ≤ (x5_1 : Int) := of_decide_eq_true (by first | (with_reducible assumption) | assumption)
        have q233 : x5_1 < (l1.length : Int) := of_decide_eq_true (by first | (with_reducible assumption) | assumption)
        obtain ⟨ad233, e233, hx233_0, hx233_1, hx233_2⟩ := at_T76 HR1.out x5_1 p233 q233
        have hw233_2 := hx233_2
        have hw233_1 := hx233_1
        have hw233_0 := hx233_0
        cases e233
        replace hx233_0 := (HB.out.cell (World.block_lt_of_cell? w _ hx233_0)).trans hx233_0
        replace hx233_1 := (HB.out.cell (World.block_lt_of_cell? w _ hx233_1)).trans hx233_1
        replace hx233_2 := (HB.out.cell (World.block_lt_of_cell? w _ hx233_2)).trans hx233_2
        replace p233 := eq_true p233
        replace q233 := eq_true q233
        refine start_ (n := 10) (S := fun w' => w'.cell? (ad232.add ((x5_1).toNat * 3)) = some (.int .i64 ((rd_T76 l0 x5_1).f0)) ∧ w'.cell? ⟨(ad232.add ((x5_1).toNat * 3)).block, (ad232.add ((x5_1).toNat * 3)).off + 1, none⟩ = some (.int .i64 ((rd_T76 l0 x5_1).f1)) ∧ w'.cell? ⟨(ad232.add ((x5_1).toNat * 3)).block, (ad232.add ((x5_1).toNat * 3)).off + 2, none⟩ = some (.string ((rd_T76 l0 x5_1).f2)) ∧ w'.cell? (ad233.add ((x5_1).toNat * 3)) = some (.int .i64 ((rd_T76 l1 x5_1).f0)) ∧ w'.cell? ⟨(ad233.add ((x5_1).toNat * 3)).block, (ad233.add ((x5_1).toNat * 3)).off + 1, none⟩ = some (.int .i64 ((rd_T76 l1 x5_1).f1)) ∧ w'.cell? ⟨(ad233.add ((x5_1).toNat * 3)).block, (ad233.add ((x5_1).toNat * 3)).off + 2, none⟩ = some (.string ((rd_T76 l1 x5_1).f2))) (ds := []) #[false, false, false, false, false, false, false, false, false, false] (by kernel_rfl) rfl rfl ⟨((HB.out.cell (World.block_lt_of_cell? w _ hw232_0)).trans hw232_0), ((HB.out.cell (World.block_lt_of_cell? w _ hw232_1)).trans hw232_1), ((HB.out.cell (World.block_lt_of_cell? w _ hw232_2)).trans hw232_2), ((HB.out.cell (World.block_lt_of_cell? w _ hw233_0)).trans hw233_0), ((HB.out.cell (World.block_lt_of_cell? w _ hw233_1)).trans hw233_1), ((HB.out.cell (World.block_lt_of_cell? w _ hw233_2)).trans hw233_2)⟩ (fun hHeld => ?_); refine with_tabW laws_eqIoS.tab6 laws_eqIoS.bits6 (fun HT_ HW_ => ?_)
        generalize wr.drew = w11 at HB hx232_0 hx232_1 hx232_2 hx233_0 hx233_1 hx233_2 hHeld ⊢
        refine pure_ (i := 0) (N := some 17) (v := ?_) (a' := ?_) #[true, false, false, false, false, false, false, false, false, false] rfl rfl (any_of HT_.out (by kernel_rfl)) (fun _ _ _ h => h) (Or.inl ⟨by rfl, ?_⟩) ?_ ?_
        rotate_left
        ·intro w'
         go_simp
         with_reducible rfl
        rotate_left
        ·simp only [Act.put, List.setIfInBounds_toArray, List.set_cons_zero, List.set_cons_succ, i64_w, i32_w]
         rfl
        refine pure_ (i := 1) (N := some 18) (v := ?_) (a' := ?_) #[true, true, false, false, false, false, false, false, false, false] rfl rfl (any_of HT_.out (by kernel_rfl)) (fun _ _ _ h => h) (Or.inl ⟨by rfl, ?_⟩) ?_ ?_
        rotate_left
        ·intro w'
         go_simp
         with_reducible rfl
        rotate_left
        ·simp only [Act.put, List.setIfInBounds_toArray, List.set_cons_zero, List.set_cons_succ, i64_w, i32_w]
         rfl
        refine pure_ (i := 2) (N := some 19) (v := ?_) (a' := ?_) #[true, true, true, false, false, false, false, false, false, false] rfl rfl (any_of HT_.out (by kernel_rfl)) (fun _ _ _ h => h) (Or.inl ⟨by rfl, ?_⟩) ?_ ?_
        rotate_left
        ·intro w'
         go_simp
         with_reducible rfl
        rotate_left
        ·simp only [Act.put, List.setIfInBounds_toArray, List.set_cons_zero, List.set_cons_succ, i64_w, i32_w]
         rfl
        refine pure_ (i := 4) (N := some 21) (v := ?_) (a' := ?_) #[true, true, true, false, true, false, false, false, false, false] rfl rfl (any_of HT_.out (by kernel_rfl)) (fun _ _ _ h => h) (Or.inl ⟨by rfl, ?_⟩) ?_ ?_
        rotate_left
        ·intro w'
         go_simp
         with_reducible rfl
        rotate_left
        ·simp only [Act.put, List.setIfInBounds_toArray, List.set_cons_zero, List.set_cons_succ, i64_w, i32_w]
         rfl
        refine pure_ (i := 5) (N := some 22) (v := ?_) (a' := ?_) #[true, true, true, false, true, true, false, false, false, false] rfl rfl (any_of HT_.out (by kernel_rfl)) (fun _ _ _ h => h) (Or.inl ⟨by rfl, ?_⟩) ?_ ?_
        rotate_left
        ·intro w'
         go_simp
         with_reducible rfl
        rotate_left
        ·simp only [Act.put, List.setIfInBounds_toArray, List.set_cons_zero, List.set_cons_succ, i64_w, i32_w]
         rfl
        refine pure_ (i := 6) (N := some 23) (v := ?_) (a' := ?_) #[true, true, true, false, true, true, true, false, false, false] rfl rfl (any_of HT_.out (by kernel_rfl)) (fun _ _ _ h => h) (Or.inl ⟨by rfl, ?_⟩) ?_ ?_
        rotate_left
        ·intro w'
         go_simp
         with_reducible rfl
        rotate_left
        ·simp only [Act.put, List.setIfInBounds_toArray, List.set_cons_zero, List.set_cons_succ, i64_w, i32_w]
         rfl
        refine take_ (i := 3) (N := some 20) (v := ?_) (a' := ?_) #[true, true, true, true, true, true, true, false, false, false] rfl rfl (take_ofW HT_.out HW_.out (by kernel_rfl)) (fun _ _ _ h => h) (Or.inl ⟨by rfl, ?_⟩) hHeld ?_ ?_
        rotate_left
        ·rintro w' ⟨s0, s1, s2, s3, s4, s5⟩
         go_simp
         with_reducible rfl
        rotate_left
        ·simp only [Act.put, List.setIfInBounds_toArray, List.set_cons_zero, List.set_cons_succ, i64_w, i32_w]
         rfl
        refine take_ (i := 7) (N := some 24) (v := ?_) (a' := ?_) #[true, true, true, true, true, true, true, true, false, false] rfl rfl (take_ofW HT_.out HW_.out (by kernel_rfl)) (fun _ _ _ h => h) (Or.inl ⟨by rfl, ?_⟩) hHeld ?_ ?_
        rotate_left
        ·rintro w' ⟨s0, s1, s2, s3, s4, s5⟩
         go_simp
         with_reducible rfl
        rotate_left
        ·simp only [Act.put, List.setIfInBounds_toArray, List.set_cons_zero, List.set_cons_succ, i64_w, i32_w]
         rfl
        refine one_ (i := 8) (N := some 25) #[true, true, true, true, true, true, true, true, true, false] rfl rfl (one_of HT_.out (by kernel_rfl)) (by decide) (fun K hK => ?_)
        refine goes_ Try.func62 (by kernel_rfl) rfl #[.agg #[.int .i64 ((rd_T76 l0 x5_1).f0), .int .i64 ((rd_T76 l0 x5_1).f1), .string ((rd_T76 l0 x5_1).f2)], .agg #[.int .i64 ((rd_T76 l1 x5_1).f0), .int .i64 ((rd_T76 l1 x5_1).f1), .string ((rd_T76 l1 x5_1).f2)]] (by rfl) rfl rfl (by (try simp only [List.map_toArray, List.map_cons, List.map_nil]); first | done | rfl | (simp only [List.length_drop, List.length_take]; rfl)) ?_
        with_reducible refine (laws_eqIo.calls ((rd_T76 l0 x5_1).f0) ((rd_T76 l0 x5_1).f1) ((rd_T76 l0 x5_1).f2) ((rd_T76 l1 x5_1).f0) ((rd_T76 l1 x5_1).f1) ((rd_T76 l1 x5_1).f2) false _ A7.out).mono ?_
        rintro e w12 ⟨rfl, hb⟩
        refine ⟨_, rfl, ?_⟩
        have n0_ := Aside0.mk (below_step (by repeat (first | (with_reducible first | exact HB.out | apply below_alloc | apply pw_below_drewN | apply below_drew1) | exact HB.out)) hb)
        clear HB
        have HB := n0_
        clear n0_
        (try clear hb)
        (try clear hb2)
        (try clear hk)
        (try clear hi)
        refine hK.out _ _ ⟨((HB.out.cell (World.block_lt_of_cell? w _ hw232_0)).trans hw232_0), ((HB.out.cell (World.block_lt_of_cell? w _ hw232_1)).trans hw232_1), ((HB.out.cell (World.block_lt_of_cell? w _ hw232_2)).trans hw232_2), ((HB.out.cell (World.block_lt_of_cell? w _ hw233_0)).trans hw233_0), ((HB.out.cell (World.block_lt_of_cell? w _ hw233_1)).trans hw233_1), ((HB.out.cell (World.block_lt_of_cell? w _ hw233_2)).trans hw233_2)⟩ (fun hHeld => ?_)
        clear hK K
        refine norm_ (a' := ?_) ?_ ?_
        rotate_left
        ·show Act.put _ (some 25) _ = _
         simp only [Act.put, List.setIfInBounds_toArray, List.set_cons_zero, List.set_cons_succ, i64_w, i32_w]
         rfl
        refine pure_ (i := 9) (N := some 26) (v := ?_) (a' := ?_) #[true, true, true, true, true, true, true, true, true, true] rfl rfl (any_of HT_.out (by kernel_rfl)) (fun _ _ _ h => h) (Or.inl ⟨by rfl, ?_⟩) ?_ ?_
        rotate_left
        ·intro w'
         go_simp
         with_reducible rfl
        rotate_left
        ·simp only [Act.put, List.setIfInBounds_toArray, List.set_cons_zero, List.set_cons_succ, i64_w, i32_w]
         rfl
        refine done_ (done_of HT_.out (by kernel_rfl)) ?_
        try go_wp2
        go_ret
        exact ⟨by first | rfl | (simp [errW_none, errW_some] <;> rfl) | (simp [*, errW_none, errW_some] <;> rfl), by repeat (first | (with_reducible first | exact HB.out | apply below_alloc | apply pw_below_drewN | apply below_drew1) | exact HB.out)⟩
      ·rw [if_neg c6] at H
       exact absurd H (by simp)
     ·rw [if_neg c5] at H
      exact absurd H (by simp)
    ·rw [if_neg c4] at H
     have c4b0 : decide (x5_1 < (l0.length : Int)) = false := decide_eq_false c4
     clear c4
     obtain rfl := Option.some.inj H
     go_wp2
     go_ret
     exact ⟨by first | rfl | (simp [errW_none, errW_some] <;> rfl) | (simp [*, errW_none, errW_some] <;> rfl), by repeat (first | (with_reducible first | exact HB.out | apply below_alloc | apply pw_below_drewN | apply below_drew1) | exact HB.out)⟩
 ·rw [if_neg c3] at H
  have c3b0 : ((l0.length : Int) == (l1.length : Int)) = false := beq_eq_false_iff_ne.mpr c3
  have c3b1 : ((l0.length : Int) != (l1.length : Int)) = true := bne_iff_ne.mpr c3
  have c3b2 : (l0.length == l1.length) = false := by first | simpa using c3 | (simp at c3 ⊢; omega)
  obtain rfl := Option.some.inj H
  go_enter Try.func37, Try.ntmps37
  go_wp2
  go_ret
  exact ⟨by first | rfl | (simp [errW_none, errW_some] <;> rfl) | (simp [*, errW_none, errW_some] <;> rfl), by repeat (first | (with_reducible first | exact HB.out | apply below_alloc | apply pw_below_drewN | apply below_drew1) | exact HB.out)⟩
end Go.Proofs.Ytadelojhfepkeaa.Q
