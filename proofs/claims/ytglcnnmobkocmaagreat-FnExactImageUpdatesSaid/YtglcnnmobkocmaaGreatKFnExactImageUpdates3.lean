/- What laws.FnExactImageUpdates reaches, part 3: the functions as Lean functions, the proofs that the program's functions answer so, and plain laws about them. -/
import Derived.Test.YtglcnnmobkocmaaGreatKFnExactImageUpdates1
import Derived.Test.YtglcnnmobkocmaaGreatKFnExactImageUpdates2
namespace Go.Proofs.YtglcnnmobkocmaaGreat.Q
open Go.RowKit Go.Proofs.YtglcnnmobkocmaaGreat.Ext Go.Proofs.YtglcnnmobkocmaaGreatW.PrintWords Go.Proofs.YtglcnnmobkocmaaGreatW.PrintLast Go.Proofs.YtglcnnmobkocmaaGreatW.PrintMore
attribute [local go_sem] max2_int min2_int max_two min_two max_three min_three max_four min_four   -- for this text's walks alone
set_option linter.unusedVariables false
set_option linter.unusedSimpArgs false

set_option linter.unusedVariables false
set_option linter.unusedSimpArgs false
/-! ### impl_refsText: function 99 -/
section
attribute [local go_sem] Oper.semAt_some
def impl_refsText_upto {α : Type} (f : Nat → α) (k : Nat) : List α := (List.range k).map f
theorem impl_refsText_upto_succ {α : Type} (f : Nat → α) (k : Nat) : impl_refsText_upto f (k + 1) = impl_refsText_upto f k ++ [f k] := by simp [impl_refsText_upto, List.range_succ]
theorem impl_refsText_upto_length {α : Type} (f : Nat → α) (k : Nat) : (impl_refsText_upto f k).length = k := by simp [impl_refsText_upto]
/-- What comes k-th: the numbers from behind. -/
structure impl_refsText_E where
  c : Int
  v : Int
  h : 0 ≤ c ∧ c < 24
def impl_refsText_f (xs : List Int) (k : Nat) : impl_refsText_E := if h : 0 ≤ (xs.length : Int) - 1 - (k : Int) ∧ (xs.length : Int) - 1 - (k : Int) < 24 then ⟨(xs.length : Int) - 1 - (k : Int), rd xs ((xs.length : Int) - 1 - (k : Int)), h⟩ else ⟨0, 0, by decide⟩
def impl_refsText_encs (x : impl_refsText_E) : Array Value := #[.int .i64 x.c, .int .i64 x.v]
/-- What the rounds keep: all that lay when the function was entered, and the iterator's box. -/
def impl_refsText_kp (n₀ Bs : Nat) (X Y : World) : Prop := Below n₀ X Y ∧ Y.cell? ⟨Bs, 0, none⟩ = X.cell? ⟨Bs, 0, none⟩
theorem impl_refsText_kp_t (n₀ Bs : Nat) {X Y Z : World} (h : impl_refsText_kp n₀ Bs X Y) (k : impl_refsText_kp n₀ Bs Y Z) : impl_refsText_kp n₀ Bs X Z := ⟨h.1.trans k.1, k.2.trans h.2⟩
set_option maxRecDepth 100000 in
set_option maxHeartbeats 4000000 in
theorem impl_refsText_back1 (F : Fence) (n : Nat) (h7 : F.fn 146) (hro : F.round = none) (hn : 1 ≤ n) (l Bs n₀ : Nat) (A : Option Addr) (cap : Nat) (xs : List Int) (w0 : World) (hw : w0.heap.size = n₀) (hC : (Kd.int .i64).C w0 A xs.length xs) (hreach : xs.length ≤ 24) (J Jx : List impl_refsText_E → World → Prop)
    (hY : ∀ pre x W, J pre W → pre.length < xs.length → YieldAt F (n - 1) Tryz.prog l (impl_refsText_encs x) W fun e W' =>
      (e = .returned (.bool true) ∧ J (pre ++ [x]) W' ∧ impl_refsText_kp n₀ Bs W W') ∨ (e = .returned (.bool false) ∧ Jx (pre ++ [x]) W'))
    (W : World) (hWw : Below n₀ w0 W) (hBs : W.cell? ⟨Bs, 0, none⟩ = some (.slice A xs.length cap)) (h0 : J [] W) :
    CallsIn F n Tryz.prog 146 #[.func (.yield l) #[] #[], .pointer (some ⟨Bs, 0, none⟩)] W fun e W' => (∃ v, e = .returned v) ∧
      ((∃ ys, ys = impl_refsText_upto (impl_refsText_f xs) xs.length ∧ J ys W') ∨ (∃ pre, (∃ k, k ≤ xs.length ∧ pre = impl_refsText_upto (impl_refsText_f xs) k) ∧ Jx pre W')) := by
  have hb0 := hBs
  have hwr : wrap64 ((xs.length : Int) - 1) = (xs.length : Int) - 1 := by unfold wrap64; omega
  refine callsIn_of_wp Tryz.func146 rfl h7 ?_ hro
  simp only [Tryz.ntmps146, List.size_toArray, List.length_cons, List.length_nil, Nat.reduceAdd, Nat.reduceSub, Array.replicate_succ, Array.replicate_zero, List.push_toArray, List.append_toArray, List.nil_append, List.cons_append]
  gi_wp2
  gi_loopw [3] (fun i wr => ∃ k : Nat, k ≤ xs.length ∧ i = .int .i64 ((xs.length : Int) - 1 - (k : Int)) ∧ J (impl_refsText_upto (impl_refsText_f xs) k) wr ∧ Below n₀ w0 wr ∧ wr.cell? ⟨Bs, 0, none⟩ = some (.slice A xs.length cap))
    (fun i _ => (intOf i + 1).toNat)
  case atStart => exact ⟨0, Nat.zero_le _, by simp, h0, hWw, hBs⟩
  case round =>
    obtain ⟨k, hk, rfl, hJs, hnx, hbr⟩ := hrel
    by_cases hlt : k < xs.length
    · have h0i : 0 ≤ (xs.length : Int) - 1 - (k : Int) := by omega
      have h1i : (xs.length : Int) - 1 - (k : Int) < (xs.length : Int) := by omega
      obtain ⟨i, hi⟩ : ∃ i : Int, i = (xs.length : Int) - 1 - (k : Int) := ⟨_, rfl⟩
      rw [← hi] at h0i h1i
      obtain ⟨ad, rfl, hx0⟩ := Kd.at_int (Kd.C_below hC (hw.symm ▸ hnx)) i h0i h1i
      obtain ⟨fn, tmps, assign, body, hy, hR⟩ := hY _ (impl_refsText_f xs k) wr hJs (by rw [impl_refsText_upto_length]; exact hlt)
      obtain ⟨hh, hf⟩ : ∃ hh, impl_refsText_f xs k = ⟨i, rd xs i, hh⟩ := ⟨by omega, by subst hi; unfold impl_refsText_f; rw [dif_pos (by omega)]⟩
      rw [hf] at hy hR
      dsimp only [impl_refsText_encs] at hy
      have hwi : wrap64 (i - 1) = i - 1 := by unfold wrap64; omega
      rw [← hi]
      have HI := zm hi
      have HF := zm hf
      have HL := zm hlt
      have d0 : decide (0 ≤ i) = true := decide_eq_true h0i
      have p0 := eq_true h0i
      have p1 := eq_true h1i
      clear hi hf hlt h0i h1i hk hb0 hBs
      gi_wp2
      refine hR.mono ?_
      rintro e W3 (⟨rfl, hJ3, hk3⟩ | ⟨rfl, hJx3⟩)
      · gi_wp2
        go_roundw
        case rel => exact ⟨k + 1, by have := HL.out; omega, by have := HI.out; first | (rw [hwi, this]; congr 1; omega) | (rw [this]; congr 1; omega), by rw [impl_refsText_upto_succ, HF.out]; exact hJ3, hnx.trans hk3.1, hk3.2.trans hbr⟩
        case measure => have := HI.out; have := HL.out; first | (simp only [intOf, hwi]; omega) | (simp only [intOf]; omega)
      · gi_wp2
        refine bodyPost_ret (results_none rfl _ _ _) rfl ?_
        exact ⟨⟨_, rfl⟩, .inr ⟨_, ⟨k + 1, by have := HL.out; omega, by rw [impl_refsText_upto_succ, HF.out]⟩, hJx3⟩⟩
    · obtain rfl : k = xs.length := by omega
      have e1 : ((xs.length : Int) - 1 - (xs.length : Int)) = -1 := by omega
      rw [e1]
      gi_wp2
      go_end0
      exact ⟨⟨_, rfl⟩, .inl ⟨_, rfl, hJs⟩⟩
set_option maxHeartbeats 1000000 in
theorem impl_refsText_back (F : Fence) (n : Nat) (h5 : F.fn 135) (hro : F.round = none) (a : Option Addr) (len cap : Nat) (w : World) :
    CallsIn F n Tryz.prog 135 #[.slice a len cap] w fun e w' => e = .returned (.func (.func 146) #[] #[.pointer (some ⟨w.heap.size, 0, none⟩)]) ∧ w' = w.alloc (.cells #[.slice a len cap] 23) := by
  refine callsIn_of_wp Tryz.func135 rfl h5 ?_ hro
  simp only [Tryz.ntmps135, List.size_toArray, List.length_cons, List.length_nil, Nat.reduceAdd, Nat.reduceSub, Array.replicate_succ, Array.replicate_zero, List.push_toArray, List.append_toArray, List.nil_append, List.cons_append]
  gi_wp2
  go_ret
  exact ⟨rfl, rfl⟩
theorem impl_refsText_stops (F : Fence) (n : Nat) (h7 : F.fn 146) (hro : F.round = none) (hn : 1 ≤ n) (Bs n₀ : Nat) (A : Option Addr) (cap : Nat) (xs : List Int) (hreach : xs.length ≤ 24) (we w : World) (hwe : we.heap.size = n₀) (hew : Below n₀ we w) (hBs : Bs < w.heap.size)
    (hc : w.cell? ⟨Bs, 0, none⟩ = some (.slice A xs.length cap)) (hC : (Kd.int .i64).C we A xs.length xs) :
    SeqStopsK F n Tryz.prog 146 #[.pointer (some ⟨Bs, 0, none⟩)] impl_refsText_encs (impl_refsText_kp n₀ Bs) (fun ys => ys = impl_refsText_upto (impl_refsText_f xs) xs.length) (fun pre => ∃ k, k ≤ xs.length ∧ pre = impl_refsText_upto (impl_refsText_f xs) k) xs.length w := fun l J Jx W hW _ _ hY h0 =>
  impl_refsText_back1 F n h7 hro hn l Bs n₀ A cap xs we hwe hC hreach J Jx hY W (hew.trans (hW.mono (hwe ▸ hew.size))) ((hW.cell (p := ⟨Bs, 0, none⟩) hBs).trans hc) h0
def impl_refsText_step (s : Int × Int × Int × Int) (q : impl_refsText_E) : Int × Int × Int × Int :=
  if Int.tdiv q.c 6 = 0 then (wrap64 (wrap64 (16 * s.1) + q.v), s.2.1, s.2.2.1, s.2.2.2)
  else if Int.tdiv q.c 6 = 1 then (s.1, wrap64 (wrap64 (16 * s.2.1) + q.v), s.2.2.1, s.2.2.2)
  else if Int.tdiv q.c 6 = 2 then (s.1, s.2.1, wrap64 (wrap64 (16 * s.2.2.1) + q.v), s.2.2.2)
  else (s.1, s.2.1, s.2.2.1, wrap64 (wrap64 (16 * s.2.2.2) + q.v))
def impl_refsText_sel (s : Int × Int × Int × Int) (q : Int) : Int := if q = 0 then s.1 else if q = 1 then s.2.1 else if q = 2 then s.2.2.1 else s.2.2.2
def impl_refsText_fold (pre : List impl_refsText_E) : Int × Int × Int × Int := pre.foldl impl_refsText_step (0, 0, 0, 0)
def impl_refsText_arr (s : Int × Int × Int × Int) : Obj := .cells #[.int .i64 s.1, .int .i64 s.2.1, .int .i64 s.2.2.1, .int .i64 s.2.2.2] 3 (0, 0)
def impl_refsText_pack (xs : List Int) : List Int := [(impl_refsText_fold (impl_refsText_upto (impl_refsText_f xs) xs.length)).1, (impl_refsText_fold (impl_refsText_upto (impl_refsText_f xs) xs.length)).2.1, (impl_refsText_fold (impl_refsText_upto (impl_refsText_f xs) xs.length)).2.2.1, (impl_refsText_fold (impl_refsText_upto (impl_refsText_f xs) xs.length)).2.2.2]
def impl_refsText.f (k : Nat) (l0 : List Int) : Option ByteArray := if l0.length ≤ 24 then impl_seal.f k 2 (impl_refsText_pack l0) else none
def impl_refsText_plain : Op → Bool
  | .defer _ => false
  | _ => true
/-- What a region without defer statements does in a round's frame is what it does in a plain one. -/
theorem impl_refsText_op_in {P : Program} {ops : Array Oper} {Q : Exit → Act → World → Prop} {l n : Nat} (hd : ops.all (fun o => impl_refsText_plain o.op) = true) (hL : ¬ LetsOut Q) {i : Nat} {K K' : Act → World → Prop} (hK : ∀ a w, K a w → K' a w) {a : Act} {w : World} (h : wpOp P ops Q i K a w) : wpOpIn (Fence.wide.inRound l) n P ops Q i K' a w := by
  unfold wpOp at h
  unfold wpOpIn
  cases ho : ops[i]? with
  | none => rw [ho] at h; exact hK _ _ h
  | some o =>
    rw [ho] at h
    dsimp only at h ⊢
    by_cases hw : Region.wanted o (yielded ops a.tmps) = true
    · rw [if_pos hw] at h ⊢
      rcases h with h | ⟨_, h⟩
      · unfold Oper.wpIn
        refine ⟨fun _ _ => trivial, ?_⟩
        rw [show (Fence.wide.inRound l).round = some l from rfl, Oper.semAt_some l _ _ (fun c hc => by
          have h1 := Array.all_eq_true_iff_forall_mem.1 hd o (Array.mem_of_getElem? ho)
          rw [hc] at h1; cases h1)]
        unfold Oper.wp at h
        generalize (execOp a.eval o).run P w = r at h
        cases r with
        | ok x w' =>
          cases x with
          | value v => exact hK _ _ h
          | skip => exact hK _ _ h
          | defer d => exact hK _ _ h
          | enter f args => exact ⟨fun hx => (by cases hx), CallsIn.inRound l ((callsIn_wide (n := n - 1)).2 (Calls.mono h (fun e w hh => by cases e <;> first | exact hK _ _ hh | exact hh)))⟩
          | row row args => exact ⟨fun hx => (by cases hx), fun c cs _ => by obtain ⟨v, w1, r1, s1⟩ := h c cs; exact ⟨v, w1, hK _ _ r1, stepsIn_wide.2 s1⟩⟩
          | _ => exact h.elim
        | halt x w' => cases x <;> exact h
      · exact absurd h hL
    · rw [if_neg hw] at h ⊢
      exact ⟨fun _ _ => trivial, hK _ _ h⟩
theorem impl_refsText_any_in {P : Program} {ops : Array Oper} {Q : Exit → Act → World → Prop} {md : Region.Mode} {l n : Nat} (hd : ops.all (fun o => impl_refsText_plain o.op) = true) (hL : ¬ LetsOut Q) : ∀ (fuel : Nat) (listed : Array Bool) (a : Act) (w : World), wpAny P md ops Q fuel listed a w → wpAnyIn (Fence.wide.inRound l) n P md ops Q fuel listed a w
  | 0, _, _, _, h => h
  | fuel + 1, listed, a, w, h => ⟨h.1, fun i hi => impl_refsText_op_in hd hL (impl_refsText_any_in hd hL fuel _) (h.2 i hi)⟩
theorem impl_refsText_region {P : Program} {ops : Array Oper} {Q : Exit → Act → World → Prop} {S : World → Prop} {ds : List Nat} {id l n m : Nat} (hm : P.follows .mixedOrders = true) (hs : ops.size = m) (hd : ops.all (fun o => impl_refsText_plain o.op) = true) (hL : ¬ LetsOut Q) {a : Act} {w : World} (lst : Array Bool) (hl : Array.replicate m false = lst)
    (h : wpAnyLast P .any ops Q S ds m lst a w.drew) : (Code.region id ops true).wpIn (Fence.wide.inRound l) n P Q a w := by
  subst hs
  subst hl
  exact wpIn_region_any hm (impl_refsText_any_in hd hL _ _ _ _ (wpAny_of_last _ _ _ _ h))
theorem impl_refsText_chain (w : World) (o0 o1 o2 : Obj) : ∃ W0, ((w.alloc o0).alloc o1).alloc o2 = W0 ∧ W0.heap.size = w.heap.size + 3 ∧ W0.heap[w.heap.size]? = some o0 ∧ W0.heap[w.heap.size + 1]? = some o1 ∧ W0.heap[w.heap.size + 1 + 1]? = some o2 ∧ Below w.heap.size w W0 := by
  refine ⟨_, rfl, by simp, blk_alloc (blk_alloc (blk_new w _) _) _, ?_, ?_, ?_⟩
  · have := blk_new (w.alloc o0) o1
    rw [World.size_alloc] at this
    exact blk_alloc this _
  · have := blk_new ((w.alloc o0).alloc o1) o2
    rw [World.size_alloc, World.size_alloc] at this
    exact this
  · exact below_alloc (below_alloc (below_alloc (Below.refl _ _) _) _) _
set_option maxRecDepth 100000 in
set_option maxHeartbeats 8000000 in
theorem impl_refsText.calls (k : Nat) (A0 : Option Addr) (c0 : Nat) (l0 : List Int) (r : ByteArray) (w : World) (hr0 : Kd.C (Kd.int .i64) w A0 l0.length l0) (hc0 : l0.length ≤ c0) (h : impl_refsText.f k l0 = some r) :
    Calls Tryz.prog 99 #[.slice A0 l0.length c0] w fun e w' => e = .returned (.string r) ∧ Below w.heap.size w w' := by
 have hl : l0.length ≤ 24 := by
  by_cases c : l0.length ≤ 24
  ·exact c
  ·unfold impl_refsText.f at h; rw [if_neg c] at h; cases h
 unfold impl_refsText.f at h
 rw [if_pos hl] at h
 refine (callsIn_wide (n := 9)).1 ?_
 have hSeal : ∀ (A1 : Option Addr) (c1 : Nat) (l1 : List Int) (r : ByteArray) (w : World), Kd.C (Kd.int .i64) w A1 l1.length l1 → l1.length ≤ c1 → impl_seal.f k 2 l1 = some r → CallsIn Fence.wide (9 - 1) Tryz.prog 98 #[.int .i64 2, .slice A1 l1.length c1] w fun e w' => e = .returned (.string r) ∧ Below w.heap.size w w' := fun A1 c1 l1 r w h1 h2 h3 => callsIn_wide.2 (impl_seal.calls k 2 A1 c1 l1 r w h1 h2 h3)
 have hK : Fence.wide.fn 99 := trivial
 have h6 : Fence.wide.fn 135 := trivial
 have h8 : Fence.wide.fn 146 := trivial
 have h9 : Fence.wide.fn 98 := trivial
 have hro : Fence.wide.round = none := rfl
 obtain ⟨F, hF⟩ : ∃ F, F = Fence.wide := ⟨_, rfl⟩
 rw [← hF] at hSeal hK h6 h8 h9 hro ⊢
 have HF := zm hF
 clear hF
 refine callsIn_of_wp_marks Tryz.func99 rfl hK ?_ hro
 simp only [Tryz.ntmps99, List.size_toArray, List.length_cons, List.length_nil, Nat.reduceAdd, Nat.reduceSub, Array.replicate_succ, Array.replicate_zero, List.push_toArray, List.append_toArray, List.nil_append, List.cons_append]
 have em : madeCells #[Value.int .i64 0] 4 = #[.int .i64 0, .int .i64 0, .int .i64 0, .int .i64 0] := by kernel_rfl
 have hm : ∀ W : World, (Instr.makeSlice 23 (.int .i64 4) (.int .i64 4)).run Tryz.prog W = .ok (.slice (some ⟨W.heap.size, 0, none⟩) 4 4) (W.alloc (.cells #[.int .i64 0, .int .i64 0, .int .i64 0, .int .i64 0] 3 (0, 0))) := fun W => by
  have := print_make (P := Tryz.prog) 23 3 .i64 8 Tryz.underlying23 info3 (by decide) 4 (by decide) W
  rw [em] at this
  exact this
 gi_wp2_with (gi_at_call 135; refine (impl_refsText_back F (9 - 1) h6 hro _ _ _ _).mono ?_; rintro e w' ⟨rfl, rfl⟩)
 obtain ⟨W0, hW0, hsz, b0, b1, b2, hB0⟩ := impl_refsText_chain w (.cells #[.int .i64 0, .int .i64 0, .int .i64 0, .int .i64 0] 3 (0, 0)) (.cells #[.slice (some ⟨w.heap.size, 0, none⟩) 4 4] 23 (0, 0)) (.cells #[.slice A0 l0.length c0] 23 (0, 0))
 rw [hW0]
 clear hW0
 have h1 : 1 ≤ 9 := by omega
 refine wpIn_rangeFunc_ownH hro h1 (gf := 146) (lb := #[.pointer (some ⟨w.heap.size + 1 + 1, 0, none⟩)]) rfl h8 (enters_of Tryz.func146 (by kernel_rfl) rfl)
  (impl_refsText_stops F (9 - 1) h8 hro (by omega) (w.heap.size + 1 + 1) w.heap.size A0 c0 l0 hl w W0 rfl hB0 (by omega) ((blk_cell b2 0).trans rfl) hr0)
  (impl_refsText_kp_t _ _) (fun W l o o' h1 h2 h3 h4 => ⟨belowK_b (w := W0) (by omega) W l o o' h1 h2 h3 h4, (belowK_b (w := W0) (Nat.le_refl _) W l o o' h1 h2 h3 h4).cell (p := ⟨w.heap.size + 1 + 1, 0, none⟩) (by simp; omega)⟩) (Below.refl _ _) (fun _ => rfl)
  (fun pre W => W.heap[w.heap.size]? = some (impl_refsText_arr (impl_refsText_fold pre)) ∧ W.heap[w.heap.size + 1]? = some (.cells #[.slice (some ⟨w.heap.size, 0, none⟩) 4 4] 23 (0, 0)) ∧ Below w.heap.size w W)
  (fun c pre W => False)
  (fun s X Y row hs hg hr => ⟨(grownBy_keeps_cells hg (fun r e => (hr r e).2) hs.1 rfl).trans hs.1, (grownBy_keeps_cells hg (fun r e => (hr r e).2) hs.2.1 rfl).trans hs.2.1, ownFrom_below (β := Unit) (Nat.le_refl _) (by omega) () X Y row hs.2.2 hg hr⟩)
  (fun c s X Y row hs hg hr => hs)
  ⟨b0, b1, hB0⟩
  (fun x a' _ => a' = { tmps := #[.slice A0 l0.length c0, undef, .string ⟨#[]⟩, .pointer (some ⟨w.heap.size + 1, 0, none⟩), .int .i64 x.c, .int .i64 x.v, .slice (some ⟨w.heap.size, 0, none⟩) 4 4, .slice A0 l0.length c0, .func (.func 146) #[] #[.pointer (some ⟨w.heap.size + 1 + 1, 0, none⟩)], .int .i64 x.c, .int .i64 x.v, undef, undef, undef, undef, undef, undef, undef, undef, undef, undef, undef, undef, undef, undef], defers := [] })
  (fun _ _ _ _ _ _ hs _ _ => hs)
  ?assign ?body ?done ?stop
 case assign =>
  rintro l pre x W K hi hK
  dsimp only [impl_refsText_encs]
  gi_wp2
  exact hK _ _ (KeepsFrom.refl _ _) ⟨Below.refl _ _, rfl⟩ hi rfl
 case body =>
  rintro l pre ⟨c, v, hc0, hc1⟩ a' W hl2 ⟨r2, hr2⟩ ⟨e0, e1, hB⟩ rfl hlt
  obtain ⟨⟨s0, s1, s2, s3⟩, hs⟩ : ∃ s, s = impl_refsText_fold pre := ⟨_, rfl⟩
  rw [← hs] at e0
  have cL : W.cell? ⟨w.heap.size + 1, 0, none⟩ = some (.slice (some ⟨w.heap.size, 0, none⟩) 4 4) := (blk_cell e1 0).trans rfl
  have x0 : W.cell? ⟨w.heap.size, 0, none⟩ = some (.int .i64 s0) := (blk_cell e0 0).trans rfl
  have x1 : W.cell? ⟨w.heap.size, 1, none⟩ = some (.int .i64 s1) := (blk_cell e0 1).trans rfl
  have x2 : W.cell? ⟨w.heap.size, 2, none⟩ = some (.int .i64 s2) := (blk_cell e0 2).trans rfl
  have x3 : W.cell? ⟨w.heap.size, 3, none⟩ = some (.int .i64 s3) := (blk_cell e0 3).trans rfl
  have fz := blk_frozen e0 0
  have ed : Int.tdiv c 6 = c / 6 := Int.tdiv_eq_ediv_of_nonneg hc0
  obtain ⟨q, hq⟩ : ∃ q, q = Int.tdiv c 6 := ⟨_, rfl⟩
  have q0 : 0 ≤ q := by omega
  have q1 : q < 4 := by omega
  obtain ⟨sv, hsv⟩ : ∃ sv, sv = impl_refsText_sel (s0, s1, s2, s3) q := ⟨_, rfl⟩
  have cQ : W.cell? ⟨w.heap.size, q.toNat, none⟩ = some (.int .i64 sv) := by
   have : q = 0 ∨ q = 1 ∨ q = 2 ∨ q = 3 := by omega
   rcases this with h | h | h | h <;> rw [h] at hsv ⊢ <;> subst hsv <;> assumption
  have hwq : wrap64 (Int.tdiv c 6) = q := by rw [← hq]; unfold wrap64; omega
  have eq_ : Int.tdiv c 6 = q := hq.symm
  have wQ : IntKind.i64.wrap q = q := by rw [IntKind.wrap_i64]; omega
  dsimp only
  have P0 := eq_true q0
  have P1 := eq_true q1
  have HSV := zm hsv
  have HS := zm hs
  clear ed q0 q1 hq x0 x1 x2 x3 hsv hs
  gi_wp2
  rw [HF.out]
  refine impl_refsText_region (S := fun w' => w'.cell? ⟨w.heap.size + 1, 0, none⟩ = some (.slice (some ⟨w.heap.size, 0, none⟩) 4 4) ∧ w'.cell? ⟨w.heap.size, q.toNat, none⟩ = some (.int .i64 sv)) (ds := [12]) (m := 13) (by kernel_rfl) rfl ?rd ?rL #[false, false, false, false, false, false, false, false, false, false, false, false, false] rfl ?rw
  case rd => kernel_rfl
  case rL => rintro ⟨a, w, h⟩; exact h
  case rw =>
  have hH : W.drew.cell? ⟨w.heap.size + 1, 0, none⟩ = some (.slice (some ⟨w.heap.size, 0, none⟩) 4 4) ∧ W.drew.cell? ⟨w.heap.size, q.toNat, none⟩ = some (.int .i64 sv) := ⟨cL, cQ⟩
  refine pure_ (i := 1) (N := some 12) (v := ?_) (a' := ?_) #[false, true, false, false, false, false, false, false, false, false, false, false, false] rfl rfl (by kernel_rfl) (fun _ _ _ h => h) (Or.inl ⟨by rfl, ?_⟩) ?_ ?_
  rotate_left
  ·intro w'
   go_simp
   with_reducible rfl
  rotate_left
  ·simp only [Act.put, zs, zz, zt]
   rfl
  refine pure_ (i := 2) (N := some 13) (v := ?_) (a' := ?_) #[false, true, true, false, false, false, false, false, false, false, false, false, false] rfl rfl (by kernel_rfl) (fun _ _ _ h => h) (Or.inl ⟨by rfl, ?_⟩) ?_ ?_
  rotate_left
  ·intro w'
   go_simp
   with_reducible rfl
  rotate_left
  ·simp only [Act.put, zs, zz, zt]
   rfl
  refine pure_ (i := 4) (N := some 15) (v := ?_) (a' := ?_) #[false, true, true, false, true, false, false, false, false, false, false, false, false] rfl rfl (by kernel_rfl) (fun _ _ _ h => h) (Or.inl ⟨by rfl, ?_⟩) ?_ ?_
  rotate_left
  ·intro w'
   go_simp
   with_reducible rfl
  rotate_left
  ·simp only [Act.put, zs, zz, zt]
   rfl
  refine pure_ (i := 5) (N := some 16) (v := ?_) (a' := ?_) #[false, true, true, false, true, true, false, false, false, false, false, false, false] rfl rfl (by kernel_rfl) (fun _ _ _ h => h) (Or.inl ⟨by rfl, ?_⟩) ?_ ?_
  rotate_left
  ·intro w'
   go_simp
   with_reducible rfl
  rotate_left
  ·simp only [Act.put, zs, zz, zt]
   rfl
  refine pure_ (i := 9) (N := some 20) (v := ?_) (a' := ?_) #[false, true, true, false, true, true, false, false, false, true, false, false, false] rfl rfl (by kernel_rfl) (fun _ _ _ h => h) (Or.inl ⟨by rfl, ?_⟩) ?_ ?_
  rotate_left
  ·intro w'
   go_simp
   with_reducible rfl
  rotate_left
  ·simp only [Act.put, zs, zz, zt]
   rfl
  refine take_ (i := 0) (N := some 11) (v := ?_) (a' := ?_) #[true, true, true, false, true, true, false, false, false, true, false, false, false] rfl rfl (by kernel_rfl) (fun _ _ _ h => h) (Or.inl ⟨by rfl, ?_⟩) hH ?_ ?_
  rotate_left
  ·rintro w' ⟨h1_, h2_⟩
   go_simp
   with_reducible rfl
  rotate_left
  ·simp only [Act.put, zs, zz, zt]
   rfl
  refine take_ (i := 3) (N := some 14) (v := ?_) (a' := ?_) #[true, true, true, true, true, true, false, false, false, true, false, false, false] rfl rfl (by kernel_rfl) (fun _ _ _ h => h) (Or.inl ⟨by rfl, ?_⟩) hH ?_ ?_
  rotate_left
  ·rintro w' ⟨h1_, h2_⟩
   go_simp
   with_reducible rfl
  rotate_left
  ·simp only [Act.put, zs, zz, zt]
   rfl
  refine pure_ (i := 6) (N := some 17) (v := ?_) (a' := ?_) #[true, true, true, true, true, true, true, false, false, true, false, false, false] rfl rfl (by kernel_rfl) (fun _ _ _ h => h) (Or.inl ⟨by rfl, ?_⟩) ?_ ?_
  rotate_left
  ·intro w'
   go_simp
   with_reducible rfl
  rotate_left
  ·simp only [Act.put, zs, zz, zt]
   rfl
  refine take_ (i := 7) (N := some 18) (v := ?_) (a' := ?_) #[true, true, true, true, true, true, true, true, false, true, false, false, false] rfl rfl (by kernel_rfl) (fun _ _ _ h => h) (Or.inl ⟨by rfl, ?_⟩) hH ?_ ?_
  rotate_left
  ·rintro w' ⟨h1_, h2_⟩
   go_simp
   with_reducible rfl
  rotate_left
  ·simp only [Act.put, zs, zz, zt]
   rfl
  refine pure_ (i := 8) (N := some 19) (v := ?_) (a' := ?_) #[true, true, true, true, true, true, true, true, true, true, false, false, false] rfl rfl (by kernel_rfl) (fun _ _ _ h => h) (Or.inl ⟨by rfl, ?_⟩) ?_ ?_
  rotate_left
  ·intro w'
   go_simp
   with_reducible rfl
  rotate_left
  ·simp only [Act.put, zs, zz, zt]
   rfl
  refine pure_ (i := 10) (N := some 21) (v := ?_) (a' := ?_) #[true, true, true, true, true, true, true, true, true, true, true, false, false] rfl rfl (by kernel_rfl) (fun _ _ _ h => h) (Or.inl ⟨by rfl, ?_⟩) ?_ ?_
  rotate_left
  ·intro w'
   go_simp
   with_reducible rfl
  rotate_left
  ·simp only [Act.put, zs, zz, zt]
   rfl
  refine pure_ (i := 11) (N := some 22) (v := ?_) (a' := ?_) #[true, true, true, true, true, true, true, true, true, true, true, true, false] rfl rfl (by kernel_rfl) (fun _ _ _ h => h) (Or.inl ⟨by rfl, ?_⟩) ?_ ?_
  rotate_left
  ·intro w'
   go_simp
   with_reducible rfl
  rotate_left
  ·simp only [Act.put, zs, zz, zt]
   rfl
  have wE : ∀ x, IntKind.i64.wrap x = wrap64 x := fun x => by rw [IntKind.wrap_i64]; unfold wrap64; omega
  have wv : IntKind.i64.wrap (IntKind.i64.wrap (16 * sv) + v) = wrap64 (wrap64 (16 * sv) + v) := by rw [wE, wE]
  refine last_ (i := 12) (N := none) #[true, true, true, true, true, true, true, true, true, true, true, true, true] rfl rfl (by kernel_rfl) (by decide) (fun K hK => ?_)
  have cQ' : W.drew.cell? ⟨w.heap.size, q.toNat, none⟩ = some (.int .i64 sv) := cQ
  have fQ' : W.drew.frozen? ⟨w.heap.size, q.toNat, none⟩ = false := blk_frozen e0 _
  refine skip_ (w1 := ?_) (by rfl) rfl ?_ ?_
  rotate_left
  ·go_simp
   rfl
  refine hK.out _ _ ?_
  clear hK K
  refine done_ (by kernel_rfl) ?_
  have hsv := HSV.out
  have hs := HS.out
  have hp := blk_put (blk_drew e0) q.toNat (.int .i64 (wrap64 (wrap64 (16 * sv) + v))) (cs' := #[.int .i64 (impl_refsText_step (s0, s1, s2, s3) ⟨c, v, hc0, hc1⟩).1, .int .i64 (impl_refsText_step (s0, s1, s2, s3) ⟨c, v, hc0, hc1⟩).2.1, .int .i64 (impl_refsText_step (s0, s1, s2, s3) ⟨c, v, hc0, hc1⟩).2.2.1, .int .i64 (impl_refsText_step (s0, s1, s2, s3) ⟨c, v, hc0, hc1⟩).2.2.2]) (by
   unfold impl_refsText_step
   dsimp only
   rw [eq_]
   have : q = 0 ∨ q = 1 ∨ q = 2 ∨ q = 3 := by have := of_eq_true P0; have := of_eq_true P1; omega
   rcases this with h | h | h | h <;> rw [h] at hsv ⊢ <;> subst hsv <;> rfl)
  rw [wv]
  refine ⟨((KeepsOthers.drew W).trans (KeepsOthers.setCell _ _ _)).from _, ⟨(Below.drew (Below.refl _ W)).setCell (p := ⟨w.heap.size, q.toNat, none⟩) (Nat.le_refl _) _, World.cell?_setCell_other _ _ _ _ (by intro e; have := congrArg Addr.block e; dsimp only at this; omega)⟩, ?_, ?_, ?_⟩
  ·rw [impl_refsText_fold, List.foldl_append, List.foldl_cons, List.foldl_nil, ← impl_refsText_fold, ← hs]; exact hp
  ·exact blk_far (blk_drew e1) (by simp) _
  ·exact (Below.drew hB).setCell (p := ⟨w.heap.size, q.toNat, none⟩) (Nat.le_refl _) _
 case done =>
  rintro D ys W hD rfl ⟨e0, e1, hB⟩ hK
  have cL : W.cell? ⟨w.heap.size + 1, 0, none⟩ = some (.slice (some ⟨w.heap.size, 0, none⟩) 4 4) := (blk_cell e1 0).trans rfl
  have hC : Kd.C (Kd.int .i64) W (some ⟨w.heap.size, 0, none⟩) (impl_refsText_pack l0).length (impl_refsText_pack l0) := by
   refine Kd.C_of_reads (enc := Value.int .i64) (d := (0 : Int)) (h1 := fun _ => rfl) ⟨rfl, (show 4 ≤ 9223372036854775807 by omega), fun _ => ⟨_, rfl, fun j hj => ?_⟩⟩
   have hj' : j < 4 := hj
   have : j = 0 ∨ j = 1 ∨ j = 2 ∨ j = 3 := by omega
   rcases this with rfl | rfl | rfl | rfl <;> exact (blk_cell e0 _).trans rfl
  gi_wp2_with (gi_at_call 98; refine (hSeal (some ⟨w.heap.size, 0, none⟩) 4 (impl_refsText_pack l0) r W hC (Nat.le_refl 4) h).mono ?_; rintro e w' ⟨rfl, hb⟩)
  have hK' : w'.heap[D]? = some (.deferred (some [])) := (hb.block D (blk_lt hK)).trans hK
  refine ⟨by simp, .inl ⟨_, _, rfl, run_takeDeferred hK', ?_⟩⟩
  refine ⟨.string r, ?_, rfl, (hB.trans (hb.mono hB.size)).trans (belowK_b (w := w) (Nat.le_refl _) w' D _ _ (by omega) hK' rfl rfl)⟩
  simp [results, Tryz.f99, go_sem]
 case stop => rintro D c pre W hD hp hx hK; exact hx.elim
theorem impl_refsText.mono : ∀ a0 k, LeO (impl_refsText.f k a0) (impl_refsText.f (k + 1) a0) := fun _ _ => LeO.ite (impl_seal.mono _ _ _) (LeO.none _)
end
/-! ### impl_Image_updates: function 54 -/
mutual
def impl_Image_updates.l0 : Nat → List Int → List ByteArray → Int → Int → List Int → List Int → List (S103) → List Int → Option ((List (S77)))
  | 0, _, _, _, _, _, _, _, _ => none
  | k + 1, x3, x16, x17, x18, x771000, x771001, x771002, x771003 => if x18 < x17 then (if 0 ≤ x18 then (if x18 < (x16.length : Int) then ((impl_packName.f k (rdOf ByteArray.empty x16 x18)).bind fun t778 => (if x3.length < 17592186044416 then (impl_Image_updates.l0 k (x3 ++ [t778]) x16 x17 (wrap64 (x18 + 1)) x771000 x771001 x771002 x771003) else (none))) else (none)) else (none)) else ((impl_seal.f k 1 x3).bind fun t782 => ((impl_refsText.f k x771000).bind fun t783 => ((impl_Image_tables.f k x771000 x771001 x771002 x771003).bind fun t787 => (impl_Image_updates.l1 k (([(⟨9, t782⟩ : S77), (⟨10, t783⟩ : S77)] : List (S77))) t787 (t787.length : Int) 0 x771000 x771001 x771002 x771003))))
def impl_Image_updates.l1 : Nat → List (S77) → List (List Int) → Int → Int → List Int → List Int → List (S103) → List Int → Option ((List (S77)))
  | 0, _, _, _, _, _, _, _, _ => none
  | k + 1, x6, x37, x38, x39, x771000, x771001, x771002, x771003 => if x39 < x38 then (if 0 ≤ x39 then (if x39 < (x37.length : Int) then ((impl_seal.f k 3 (rd_L3 x37 x39)).bind fun t791 => (if x6.length < 5864062014805 then (impl_Image_updates.l1 k (x6 ++ [(⟨wrap64 (11 + x39), t791⟩ : S77)]) x37 x38 (wrap64 (x39 + 1)) x771000 x771001 x771002 x771003) else (none))) else (none)) else (none)) else (impl_Image_updates.l2 k x6 x771000 (x771000.length : Int) 0 x771000 x771001 x771002 x771003)
def impl_Image_updates.l2 : Nat → List (S77) → List Int → Int → Int → List Int → List Int → List (S103) → List Int → Option ((List (S77)))
  | 0, _, _, _, _, _, _, _, _ => none
  | k + 1, x6, x54, x55, x56, x771000, x771001, x771002, x771003 => if x56 < x55 then (if 0 ≤ x56 then (if x56 < (x54.length : Int) then (if (rd x54 x56) > 0 then (if x56 < (x771003.length : Int) then ((impl_seal.f k 4 (([rd x771003 x56] : List Int))).bind fun t800 => (if x6.length < 5864062014805 then (impl_Image_updates.l2 k (x6 ++ [(⟨wrap64 (15 + x56), t800⟩ : S77)]) x54 x55 (wrap64 (x56 + 1)) x771000 x771001 x771002 x771003) else (none))) else (none)) else (impl_Image_updates.l2 k x6 x54 x55 (wrap64 (x56 + 1)) x771000 x771001 x771002 x771003)) else (none)) else (none)) else (some x6)
end
def impl_Image_updates.f (k : Nat) (l0_0 : List Int) (l0_1 : List Int) (l0_2 : List (S103)) (l0_3 : List Int) : Option ((List (S77))) := (impl_Image_names.f k l0_0 l0_1 l0_2 l0_3).bind fun t774 => (impl_Image_updates.l0 k (([(l0_2.length : Int)] : List Int)) t774 (t774.length : Int) 0 l0_0 l0_1 l0_2 l0_3)
theorem impl_Image_updates.mono_l : ∀ k, (∀ y0 y1 y2 y3 y4 y5 y6 y7, LeO (impl_Image_updates.l0 k y0 y1 y2 y3 y4 y5 y6 y7) (impl_Image_updates.l0 (k + 1) y0 y1 y2 y3 y4 y5 y6 y7)) ∧ (∀ y0 y1 y2 y3 y4 y5 y6 y7, LeO (impl_Image_updates.l1 k y0 y1 y2 y3 y4 y5 y6 y7) (impl_Image_updates.l1 (k + 1) y0 y1 y2 y3 y4 y5 y6 y7)) ∧ (∀ y0 y1 y2 y3 y4 y5 y6 y7, LeO (impl_Image_updates.l2 k y0 y1 y2 y3 y4 y5 y6 y7) (impl_Image_updates.l2 (k + 1) y0 y1 y2 y3 y4 y5 y6 y7))
  | 0 => ⟨fun _ _ _ _ _ _ _ _ r h => by simp [impl_Image_updates.l0] at h, fun _ _ _ _ _ _ _ _ r h => by simp [impl_Image_updates.l1] at h, fun _ _ _ _ _ _ _ _ r h => by simp [impl_Image_updates.l2] at h⟩
  | k + 1 => by
    obtain ⟨ih0, ih1, ih2⟩ := impl_Image_updates.mono_l k
    refine ⟨?_, ?_, ?_⟩
    · intro y0 y1 y2 y3 y4 y5 y6 y7
      unfold impl_Image_updates.l0
      repeat' first
      | (with_reducible exact ih0 _ _ _ _ _ _ _ _)
      | (with_reducible exact ih1 _ _ _ _ _ _ _ _)
      | (with_reducible exact ih2 _ _ _ _ _ _ _ _)
      | (with_reducible exact impl_Image_names.mono _ _ _ _ _)
      | (with_reducible exact impl_Image_tables.mono _ _ _ _ _)
      | (with_reducible exact impl_packName.mono _ _)
      | (with_reducible exact impl_refsText.mono _ _)
      | (with_reducible exact impl_seal.mono _ _ _)
      | (with_reducible exact LeO.refl _)
      | (with_reducible exact LeO.none _)
      | (with_reducible refine LeO.ite ?_ ?_)
      | (with_reducible refine LeO.bind ?_ (fun _ => ?_))
      | exact ih0 _ _ _ _ _ _ _ _
      | exact ih1 _ _ _ _ _ _ _ _
      | exact ih2 _ _ _ _ _ _ _ _
      | exact impl_Image_names.mono _ _ _ _ _
      | exact impl_Image_tables.mono _ _ _ _ _
      | exact impl_packName.mono _ _
      | exact impl_refsText.mono _ _
      | exact impl_seal.mono _ _ _
      | exact LeO.none _
      | refine LeO.ite ?_ ?_
      | refine LeO.bind ?_ (fun _ => ?_)
    · intro y0 y1 y2 y3 y4 y5 y6 y7
      unfold impl_Image_updates.l1
      repeat' first
      | (with_reducible exact ih0 _ _ _ _ _ _ _ _)
      | (with_reducible exact ih1 _ _ _ _ _ _ _ _)
      | (with_reducible exact ih2 _ _ _ _ _ _ _ _)
      | (with_reducible exact impl_Image_names.mono _ _ _ _ _)
      | (with_reducible exact impl_Image_tables.mono _ _ _ _ _)
      | (with_reducible exact impl_packName.mono _ _)
      | (with_reducible exact impl_refsText.mono _ _)
      | (with_reducible exact impl_seal.mono _ _ _)
      | (with_reducible exact LeO.refl _)
      | (with_reducible exact LeO.none _)
      | (with_reducible refine LeO.ite ?_ ?_)
      | (with_reducible refine LeO.bind ?_ (fun _ => ?_))
      | exact ih0 _ _ _ _ _ _ _ _
      | exact ih1 _ _ _ _ _ _ _ _
      | exact ih2 _ _ _ _ _ _ _ _
      | exact impl_Image_names.mono _ _ _ _ _
      | exact impl_Image_tables.mono _ _ _ _ _
      | exact impl_packName.mono _ _
      | exact impl_refsText.mono _ _
      | exact impl_seal.mono _ _ _
      | exact LeO.none _
      | refine LeO.ite ?_ ?_
      | refine LeO.bind ?_ (fun _ => ?_)
    · intro y0 y1 y2 y3 y4 y5 y6 y7
      unfold impl_Image_updates.l2
      repeat' first
      | (with_reducible exact ih0 _ _ _ _ _ _ _ _)
      | (with_reducible exact ih1 _ _ _ _ _ _ _ _)
      | (with_reducible exact ih2 _ _ _ _ _ _ _ _)
      | (with_reducible exact impl_Image_names.mono _ _ _ _ _)
      | (with_reducible exact impl_Image_tables.mono _ _ _ _ _)
      | (with_reducible exact impl_packName.mono _ _)
      | (with_reducible exact impl_refsText.mono _ _)
      | (with_reducible exact impl_seal.mono _ _ _)
      | (with_reducible exact LeO.refl _)
      | (with_reducible exact LeO.none _)
      | (with_reducible refine LeO.ite ?_ ?_)
      | (with_reducible refine LeO.bind ?_ (fun _ => ?_))
      | exact ih0 _ _ _ _ _ _ _ _
      | exact ih1 _ _ _ _ _ _ _ _
      | exact ih2 _ _ _ _ _ _ _ _
      | exact impl_Image_names.mono _ _ _ _ _
      | exact impl_Image_tables.mono _ _ _ _ _
      | exact impl_packName.mono _ _
      | exact impl_refsText.mono _ _
      | exact impl_seal.mono _ _ _
      | exact LeO.none _
      | refine LeO.ite ?_ ?_
      | refine LeO.bind ?_ (fun _ => ?_)
theorem impl_Image_updates.mono : ∀ a0 a1 a2 a3 k, LeO (impl_Image_updates.f k a0 a1 a2 a3) (impl_Image_updates.f (k + 1) a0 a1 a2 a3) := by
  intro a0 a1 a2 a3 k
  obtain ⟨ih0, ih1, ih2⟩ := impl_Image_updates.mono_l k
  unfold impl_Image_updates.f
  repeat' first
      | (with_reducible exact ih0 _ _ _ _ _ _ _ _)
      | (with_reducible exact ih1 _ _ _ _ _ _ _ _)
      | (with_reducible exact ih2 _ _ _ _ _ _ _ _)
      | (with_reducible exact impl_Image_names.mono _ _ _ _ _)
      | (with_reducible exact impl_Image_tables.mono _ _ _ _ _)
      | (with_reducible exact impl_packName.mono _ _)
      | (with_reducible exact impl_refsText.mono _ _)
      | (with_reducible exact impl_seal.mono _ _ _)
      | (with_reducible exact LeO.refl _)
      | (with_reducible exact LeO.none _)
      | (with_reducible refine LeO.ite ?_ ?_)
      | (with_reducible refine LeO.bind ?_ (fun _ => ?_))
      | exact ih0 _ _ _ _ _ _ _ _
      | exact ih1 _ _ _ _ _ _ _ _
      | exact ih2 _ _ _ _ _ _ _ _
      | exact impl_Image_names.mono _ _ _ _ _
      | exact impl_Image_tables.mono _ _ _ _ _
      | exact impl_packName.mono _ _
      | exact impl_refsText.mono _ _
      | exact impl_seal.mono _ _ _
      | exact LeO.none _
      | refine LeO.ite ?_ ?_
      | refine LeO.bind ?_ (fun _ => ?_)
def impl_Image_updates.T7 : Bool × List (List Nat × List Nat) := (true, [([], []), ([0], [0]), ([1], [1]), ([], []), ([3], [3]), ([4, 1], [4]), ([5], [5]), ([2, 6], [2, 6]), ([7, 5, 0, 1, 2, 3, 4, 5, 6, 7], [7])])
def impl_Image_updates.B7 : List Nat := [0, 1, 3, 0, 8, 27, 59, 127, 255]
theorem impl_Image_updates.tab7 : rtab .any (opsOf Tryz.f54 7) = impl_Image_updates.T7 := by kernel_rfl
theorem impl_Image_updates.bits7 : waitsOk impl_Image_updates.T7.2 impl_Image_updates.B7 = true := by kernel_rfl
set_option maxHeartbeats 8000000 in
set_option maxRecDepth 100000 in
theorem impl_Image_updates.calls (k : Nat) (A0_0 : Option Addr) (c0_0 : Nat) (l0_0 : List Int) (A0_1 : Option Addr) (c0_1 : Nat) (l0_1 : List Int) (A0_2 : Option Addr) (c0_2 : Nat) (l0_2 : List (S103)) (A0_3 : Option Addr) (c0_3 : Nat) (l0_3 : List Int) (r : List (S77)) (w : World) (hr0_0 : Kd.C (Kd.int .i64) w A0_0 l0_0.length l0_0) (hc0_0 : l0_0.length ≤ c0_0) (hr0_1 : Kd.C (Kd.int .i64) w A0_1 l0_1.length l0_1) (hc0_1 : l0_1.length ≤ c0_1) (hr0_2 : Kd.C k103 w A0_2 l0_2.length l0_2) (hc0_2 : l0_2.length ≤ c0_2) (hr0_3 : Kd.C (Kd.int .i64) w A0_3 l0_3.length l0_3) (hc0_3 : l0_3.length ≤ c0_3) (h : impl_Image_updates.f k l0_0 l0_1 l0_2 l0_3 = some r) :
    Calls Tryz.prog 54 #[.agg #[.slice A0_0 l0_0.length c0_0, .slice A0_1 l0_1.length c0_1, .slice A0_2 l0_2.length c0_2, .slice A0_3 l0_3.length c0_3]] w fun e w' => ∃ v0_ : Value, e = .returned (v0_) ∧ Kd.R k77 77 w' w.heap.size (fun _ => True) v0_ r ∧ Below w.heap.size w w' := by
 have hu26 := Tryz.underlying26
 have hu77 := Tryz.underlying77
 have Zk := zm hr0_0
 have Zm := zm hc0_0
 clear hr0_0 hc0_0
 have Zp := zm hr0_1
 have Zq := zm hc0_1
 clear hr0_1 hc0_1
 have Zr := zm hr0_2
 have Zs := zm hc0_2
 clear hr0_2 hc0_2
 have Zn := zm hr0_3
 have Zt := zm hc0_3
 clear hr0_3 hc0_3
 have HB := zm (Below.refl w.heap.size w)
 have H : ((impl_Image_names.f k l0_0 l0_1 l0_2 l0_3).bind fun t774 => (impl_Image_updates.l0 k (([(l0_2.length : Int)] : List Int)) t774 (t774.length : Int) 0 l0_0 l0_1 l0_2 l0_3)) = some r := h
 clear h
 obtain ⟨y771, hy771⟩ : ∃ y_ : List Int, y_ = (([(l0_2.length : Int)] : List Int)) := ⟨_, rfl⟩
 replace H : ((impl_Image_names.f k l0_0 l0_1 l0_2 l0_3).bind fun t774 => (impl_Image_updates.l0 k y771 t774 (t774.length : Int) 0 l0_0 l0_1 l0_2 l0_3)) = some r := by first | (rw [hy771]; with_reducible exact H) | (have H2_ := (Option.bind_some _ _).symm.trans H; rw [hy771]; with_reducible exact H2_) | (have H2_ := (Option.bind_some _ _).symm.trans H; with_reducible exact H2_) | with_reducible exact H | (rw [hy771]; exact H) | exact H
 have Ny771 := zm hy771
 clear hy771
 replace H := Option.bind_eq_some_iff.mp H
 obtain ⟨t774, A20, H⟩ := H
 replace H : (impl_Image_updates.l0 k y771 t774 (t774.length : Int) 0 l0_0 l0_1 l0_2 l0_3) = some r := H
 have A2 := zm A20
 clear A20
 have H' := zm H
 clear H
 go_enter Tryz.func54, Tryz.ntmps54
 go_wp2_with (first | ((with_reducible refine gate_dst (N := 1) rfl ?_); refine box_event ?hg (N := 1) ?hd (cs := #[.slice A0_0 l0_0.length c0_0, .slice A0_1 l0_1.length c0_1, .slice A0_2 l0_2.length c0_2, .slice A0_3 l0_3.length c0_3]) (t := 26) ?hr ?_; (case hd => rfl); (case hg => rfl); (case hr => first | (go_simp; done) | (go_simp; rfl)); intro gb770 hg w3 hbox hb; have n0_ := zm (below_step (zg_1 HB.out) hb); have n1_ := zm (hbox); have n2_ := zm ((by rw [hg]; exact (below_size (zg_1 HB.out)) : w.heap.size ≤ gb770)); have n3_ := zm ((by rw [hg]; exact (below_size (zg_1 HB.out)) : w.heap.size ≤ gb770)); clear HB; have HB := n0_; have Za := n1_; have Zu := n2_; have Zb := n3_; clear n0_ n1_ n2_ n3_; clear hb hbox hg; have hcz4_0 : w3.cell? ⟨gb770, 0, none⟩ = some (.slice A0_0 l0_0.length c0_0) := (blk_cell Za.out 0).trans rfl; have hcz4_1 : w3.cell? ⟨gb770, 1, none⟩ = some (.slice A0_1 l0_1.length c0_1) := (blk_cell Za.out 1).trans rfl; have hcz4_2 : w3.cell? ⟨gb770, 2, none⟩ = some (.slice A0_2 l0_2.length c0_2) := (blk_cell Za.out 2).trans rfl; have hcz4_3 : w3.cell? ⟨gb770, 3, none⟩ = some (.slice A0_3 l0_3.length c0_3) := (blk_cell Za.out 3).trans rfl; have hfz4_0 := blk_frozen Za.out 0; have hfz4_1 := blk_frozen Za.out 1; have hfz4_2 := blk_frozen Za.out 2; have hfz4_3 := blk_frozen Za.out 3) | ((with_reducible refine gate_dst (N := 14) rfl ?_); refine Kd.R_lit (Kd.int .i64) _ 3 ?hg (N := 14) ?hd (xs := ([(l0_2.length : Int)] : List Int)) (inner := [.int .i64 (l0_2.length : Int)]) (ok := fun _ => True) (okp := fun _ => True) ?hr ?hp (fun _ hk => hk) trivial (Below.refl _ _) (Nat.le_refl _) (by simp) ?_; (case hd => rfl); (case hg => rfl); (case hr => first | (go_simp; done) | (go_simp; rfl)); (case hp => exact (Reps.one (show Kd.M (Kd.int .i64) _ _ _ (l0_2.length : Int) [.int .i64 (l0_2.length : Int)] from rfl) (Reps.none _ _))); intro v772 w5 ho6 hb hg_ hnew_; clear hg_ hnew_; (first | rw [← Ny771.out] at ho6 | (simp only [Int.reduceToNat] at ho6; rw [← Ny771.out] at ho6)); have n0_ := zm (Kd.R_lower ho6 (below_size (zg_2 HB.out Zb.out))); have n1_ := zm (blk_below (g := gb770) (o := .cells #[.slice A0_0 l0_0.length c0_0, .slice A0_1 l0_1.length c0_1, .slice A0_2 l0_2.length c0_2, .slice A0_3 l0_3.length c0_3] 26 (0, 0)) (zg_3 Za.out) hb); have n2_ := zm (below_step (zg_2 HB.out Zb.out) hb); clear Za; clear HB; have Zl := n0_; have Za := n1_; have HB := n2_; clear n0_ n1_ n2_; clear hb ho6; have hcz7_0 : w5.cell? ⟨gb770, 0, none⟩ = some (.slice A0_0 l0_0.length c0_0) := (blk_cell Za.out 0).trans rfl; have hcz7_1 : w5.cell? ⟨gb770, 1, none⟩ = some (.slice A0_1 l0_1.length c0_1) := (blk_cell Za.out 1).trans rfl; have hcz7_2 : w5.cell? ⟨gb770, 2, none⟩ = some (.slice A0_2 l0_2.length c0_2) := (blk_cell Za.out 2).trans rfl; have hcz7_3 : w5.cell? ⟨gb770, 3, none⟩ = some (.slice A0_3 l0_3.length c0_3) := (blk_cell Za.out 3).trans rfl; have hfz7_0 := blk_frozen Za.out 0; have hfz7_1 := blk_frozen Za.out 1; have hfz7_2 := blk_frozen Za.out 2; have hfz7_3 := blk_frozen Za.out 3) | ((with_reducible refine gate_callee (f := 74) rfl ?_); refine goesL_ (some 16) rfl rfl Tryz.func74 (by kernel_rfl) rfl #[.agg #[.slice A0_0 l0_0.length c0_0, .slice A0_1 l0_1.length c0_1, .slice A0_2 l0_2.length c0_2, .slice A0_3 l0_3.length c0_3]] rfl zq ?_; (with_reducible refine (impl_Image_names.calls k _ _ l0_0 _ _ l0_1 _ _ l0_2 _ _ l0_3 t774 _ ?side1 ?side2 ?side3 ?side4 ?side5 ?side6 ?side7 ?side8 A2.out).mono ?_); (case side1 => exact zC (Kd.C_below Zk.out HB.out)); (case side2 => exact Zm.out); (case side3 => exact zC (Kd.C_below Zp.out HB.out)); (case side4 => exact Zq.out); (case side5 => exact zC (Kd.C_below Zr.out HB.out)); (case side6 => exact Zs.out); (case side7 => exact zC (Kd.C_below Zn.out HB.out)); (case side8 => exact Zt.out); rintro e w8 ⟨v775, rfl, ho0, hb⟩; refine ⟨_, rfl, ?_⟩; have n0_ := zm (Kd.R_below (zg_6 Zl.out) hb); have n1_ := zm (Kd.R_lower ho0 (below_size (zg_2 HB.out Zb.out))); have n2_ := zm (blk_below (g := gb770) (o := .cells #[.slice A0_0 l0_0.length c0_0, .slice A0_1 l0_1.length c0_1, .slice A0_2 l0_2.length c0_2, .slice A0_3 l0_3.length c0_3] 26 (0, 0)) (zg_3 Za.out) hb); have n3_ := zm (below_step (zg_2 HB.out Zb.out) hb); clear Zl; clear Za; clear HB; have Zl := n0_; have Zv := n1_; have Za := n2_; have HB := n3_; clear n0_ n1_ n2_ n3_; (try clear hb); (try clear hb2); (try clear hk); (try clear hi); (try clear ho0); obtain ⟨Ao9, co9, eo9⟩ := Kd.R_slice Zv.out; subst eo9))
 go_loopg [3, 18] k (fun kq v3 v18 w' => ∃ (x3_1 : List Int) (x18_1 : Int), v18 = .int .i64 x18_1 ∧ Aside0 (impl_Image_updates.l0 kq x3_1 t774 (t774.length : Int) x18_1 l0_0 l0_1 l0_2 l0_3 = some r) ∧ Aside0 (kq ≤ k) ∧ Aside0 (Kd.R (Kd.int .i64) 3 w' w.heap.size (fun _ => True) v3 x3_1) ∧ Aside0 (Kd.R Kd.string 9 w' w.heap.size (fun _ => True) (.slice Ao9 t774.length co9) t774) ∧ Aside0 (w'.heap[gb770]? = some (.cells #[(.slice A0_0 l0_0.length c0_0), (.slice A0_1 l0_1.length c0_1), (.slice A0_2 l0_2.length c0_2), (.slice A0_3 l0_3.length c0_3)] 26 (0, 0))) ∧ Aside0 (Below w.heap.size w w'))
 case atStart => exact ⟨(y771), (0), zr, H', ⟨Nat.le_refl _⟩, ⟨by (with_reducible repeat (first | apply Kd.R_alloc | apply Kd.R_drewN | apply Kd.R_drew)); exact Zl.out⟩, ⟨by (with_reducible repeat (first | apply Kd.R_alloc | apply Kd.R_drewN | apply Kd.R_drew)); exact Zv.out⟩, ⟨by (with_reducible repeat (first | refine blk_drewN ?_ _ | refine blk_drew ?_ | refine blk_alloc ?_ _)); exact Za.out⟩, ⟨zg_2 HB.out Zb.out⟩⟩
 case round =>
  clear H'
  try clear p2
  try clear c5
  try clear c7
  try clear hcz4_0
  try clear hcz4_1
  try clear hcz4_2
  try clear hcz4_3
  try clear hcz7_0
  try clear hcz7_1
  try clear hcz7_2
  try clear hcz7_3
  try clear hfz4_0
  try clear hfz4_1
  try clear hfz4_2
  try clear hfz4_3
  try clear hfz7_0
  try clear hfz7_1
  try clear hfz7_2
  try clear hfz7_3
  obtain ⟨x3_1, x18_1, rfl, HA, HK1, Zd, Zc, Za, HB⟩ := hrel
  cases gk with
  | zero => exact absurd HA.out (by simp [impl_Image_updates.l0])
  | succ k1 =>
   have H := HA.out
   clear HA
   simp only [impl_Image_updates.l0] at H
   by_cases c10 : x18_1 < (t774.length : Int)
   ·rw [if_pos c10] at H
    have c10b0 : decide (x18_1 < (t774.length : Int)) = true := decide_eq_true c10
    clear c10
    by_cases c11 : 0 ≤ x18_1
    ·rw [if_pos c11] at H
     have c11b0 : decide (0 ≤ x18_1) = true := decide_eq_true c11
     clear c11
     by_cases c12 : x18_1 < (t774.length : Int)
     ·rw [if_pos c12] at H
      have c12b0 : decide (x18_1 < (t774.length : Int)) = true := decide_eq_true c12
      clear c12
      replace H := Option.bind_eq_some_iff.mp H
      obtain ⟨t778, A130, H⟩ := H
      replace H : (if x3_1.length < 17592186044416 then (impl_Image_updates.l0 k1 (x3_1 ++ [t778]) t774 (t774.length : Int) (wrap64 (x18_1 + 1)) l0_0 l0_1 l0_2 l0_3) else (none)) = some r := H
      have A13 := zm A130
      clear A130
      by_cases c14 : x3_1.length < 17592186044416
      ·rw [if_pos c14] at H
       have LMc14 := zm c14
       clear c14
       obtain ⟨y779, hy779⟩ : ∃ y_ : List Int, y_ = (x3_1 ++ [t778]) := ⟨_, rfl⟩
       replace H : (impl_Image_updates.l0 k1 y779 t774 (t774.length : Int) (wrap64 (x18_1 + 1)) l0_0 l0_1 l0_2 l0_3) = some r := by first | (rw [hy779]; with_reducible exact H) | (have H2_ := (Option.bind_some _ _).symm.trans H; rw [hy779]; with_reducible exact H2_) | (have H2_ := (Option.bind_some _ _).symm.trans H; with_reducible exact H2_) | with_reducible exact H | (rw [hy779]; exact H) | exact H
       have Ny779 := zm hy779
       clear hy779
       have H' := zm H
       clear H
       have p777 : 0 ≤ (x18_1 : Int) := zd
       have q777 : x18_1 < (t774.length : Int) := zd
       obtain ⟨ad777, e777, hx777_0⟩ := Kd.at_string (Kd.R_reads' Zc.out).2.2 x18_1 p777 q777
       cases e777
       replace p777 := eq_true p777
       replace q777 := eq_true q777
       go_wp2_with (first | ((with_reducible refine gate_callee (f := 97) rfl ?_); refine goesL_ (some 24) rfl rfl Tryz.func97 (by kernel_rfl) rfl #[.string (rdOf ByteArray.empty t774 x18_1)] rfl zq ?_; (with_reducible refine (impl_packName.calls k1 (rdOf ByteArray.empty t774 x18_1) t778 _ A13.out).mono ?_); rintro e w' ⟨rfl, ⟨nd, rfl⟩⟩; refine ⟨_, rfl, ?_⟩) | ((with_reducible refine gate_builtin (b := .append) (xs := #[.tmp 22, .tmp 25]) rfl ?_); at_builtin; refine Kd.R_append (Kd.int .i64) (w0 := w) w.heap.size rfl (.tmp 22) (.tmp 25) 23 3 (.int .i64 0) 8 rfl Tryz.underlying23 info3 rfl (by decide) (by omega) u3 x3_1 t778 [.int .i64 t778] (fun _ => True) (fun _ => False) rfl rfl ?aP (fun _ hk => hk.elim) ?aF ?aO ?aB ?aS ?aL ?_; (case aP => exact rfl); (case aB => exact (zg_2 HB.out Zb.out)); (case aF => exact (fun _ _ => trivial)); (case aO => exact (zg_6 Zd.out)); (case aS => exact (below_size (zg_2 HB.out Zb.out))); (case aL => have := LMc14.out; omega); intro v780 w15 ho hb hg hat; rw [← Ny779.out] at ho; have n0_ := zm (Kd.R_over' (zg_6 Zc.out) (Kd.R_typed (zg_6 Zd.out)) (by decide) hg); have n1_ := zm (blk_grown (g := gb770) (o := .cells #[.slice A0_0 l0_0.length c0_0, .slice A0_1 l0_1.length c0_1, .slice A0_2 l0_2.length c0_2, .slice A0_3 l0_3.length c0_3] 26 (0, 0)) (zg_3 Za.out) hg (Kd.R_ne Zd.out Za.out (by decide))); have n2_ := zm (hb); have n3_ := zm (ho); clear Zc; clear Za; clear HB; clear Zd; have Zc := n0_; have Za := n1_; have HB := n2_; have Zx := n3_; clear n0_ n1_ n2_ n3_; clear ho hb hg hat))
       go_roundg k1
       case measure => have := HK1.out; omega
       case rel => exact ⟨(y779), (wrap64 (x18_1 + 1)), zr, H', ⟨by have := HK1.out; omega⟩, ⟨by (with_reducible repeat (first | apply Kd.R_alloc | apply Kd.R_drewN | apply Kd.R_drew)); exact Zx.out⟩, ⟨by (with_reducible repeat (first | apply Kd.R_alloc | apply Kd.R_drewN | apply Kd.R_drew)); exact Zc.out⟩, ⟨by (with_reducible repeat (first | refine blk_drewN ?_ _ | refine blk_drew ?_ | refine blk_alloc ?_ _)); exact Za.out⟩, ⟨zg_2 HB.out Zb.out⟩⟩
      ·rw [if_neg c14] at H
       exact absurd H (by simp)
     ·rw [if_neg c12] at H
      exact absurd H (by simp)
    ·rw [if_neg c11] at H
     exact absurd H (by simp)
   ·rw [if_neg c10] at H
    have c10b0 : decide (x18_1 < (t774.length : Int)) = false := decide_eq_false c10
    clear c10
    replace H := Option.bind_eq_some_iff.mp H
    obtain ⟨t782, A160, H⟩ := H
    replace H : ((impl_refsText.f k1 l0_0).bind fun t783 => ((impl_Image_tables.f k1 l0_0 l0_1 l0_2 l0_3).bind fun t787 => (impl_Image_updates.l1 k1 (([(⟨9, t782⟩ : S77), (⟨10, t783⟩ : S77)] : List (S77))) t787 (t787.length : Int) 0 l0_0 l0_1 l0_2 l0_3))) = some r := H
    have A16 := zm A160
    clear A160
    replace H := Option.bind_eq_some_iff.mp H
    obtain ⟨t783, A170, H⟩ := H
    replace H : ((impl_Image_tables.f k1 l0_0 l0_1 l0_2 l0_3).bind fun t787 => (impl_Image_updates.l1 k1 (([(⟨9, t782⟩ : S77), (⟨10, t783⟩ : S77)] : List (S77))) t787 (t787.length : Int) 0 l0_0 l0_1 l0_2 l0_3)) = some r := H
    have A17 := zm A170
    clear A170
    obtain ⟨y784, hy784⟩ : ∃ y_ : List (S77), y_ = (([(⟨9, t782⟩ : S77), (⟨10, t783⟩ : S77)] : List (S77))) := ⟨_, rfl⟩
    replace H : ((impl_Image_tables.f k1 l0_0 l0_1 l0_2 l0_3).bind fun t787 => (impl_Image_updates.l1 k1 y784 t787 (t787.length : Int) 0 l0_0 l0_1 l0_2 l0_3)) = some r := by first | (rw [hy784]; with_reducible exact H) | (have H2_ := (Option.bind_some _ _).symm.trans H; rw [hy784]; with_reducible exact H2_) | (have H2_ := (Option.bind_some _ _).symm.trans H; with_reducible exact H2_) | with_reducible exact H | (rw [hy784]; exact H) | exact H
    have Ny784 := zm hy784
    clear hy784
    replace H := Option.bind_eq_some_iff.mp H
    obtain ⟨t787, A180, H⟩ := H
    replace H : (impl_Image_updates.l1 k1 y784 t787 (t787.length : Int) 0 l0_0 l0_1 l0_2 l0_3) = some r := H
    have A18 := zm A180
    clear A180
    have H' := zm H
    clear H
    try go_wp2
    have n0_ := zm (Kd.R_drew Zd.out)
    have n1_ := zm (Kd.R_drew Zc.out)
    have n2_ := zm (blk_drew Za.out)
    have n3_ := zm (below_drew1 HB.out)
    clear Zd
    clear Zc
    clear Za
    clear HB
    have Zd := n0_
    have Zc := n1_
    have Za := n2_
    have HB := n3_
    clear n0_ n1_ n2_ n3_
    obtain ⟨Ao20, co20, eo20⟩ := Kd.R_slice Zd.out
    (first | subst eo20 | (injection eo20 with f1_ f2_ f3_; have f4_ := f1_.symm; have f5_ := f3_.symm; clear f1_ f2_ f3_; subst f4_; subst f5_))
    refine start_ (n := 9) (S := fun w' => w'.cell? ⟨gb770, 0, none⟩ = some (.slice A0_0 l0_0.length c0_0) ∧ w'.cell? ⟨gb770, 1, none⟩ = some (.slice A0_1 l0_1.length c0_1) ∧ w'.cell? ⟨gb770, 2, none⟩ = some (.slice A0_2 l0_2.length c0_2) ∧ w'.cell? ⟨gb770, 3, none⟩ = some (.slice A0_3 l0_3.length c0_3)) (ds := []) #[false, false, false, false, false, false, false, false, false] (by kernel_rfl) rfl rfl ⟨(blk_cell Za.out 0).trans rfl, (blk_cell Za.out 1).trans rfl, (blk_cell Za.out 2).trans rfl, (blk_cell Za.out 3).trans rfl⟩ (fun hHeld => ?_); refine with_tabW impl_Image_updates.tab7 impl_Image_updates.bits7 (fun HT_ HW_ => ?_)
    generalize wr.drew = w19 at Zd Zc Za HB hHeld ⊢
    refine pure_ (i := 0) (N := some 28) (v := ?_) (a' := ?_) #[true, false, false, false, false, false, false, false, false] rfl rfl (any_of HT_.out (by kernel_rfl)) (fun _ _ _ h => h) (Or.inl ⟨by rfl, ?_⟩) ?_ ?_
    rotate_left
    ·intro w'
     go_simp
     with_reducible rfl
    rotate_left
    ·simp only [Act.put, zs, zz, zt, i64_w, i32_w]
     rfl
    refine pure_ (i := 3) (N := some 31) (v := ?_) (a' := ?_) #[true, false, false, true, false, false, false, false, false] rfl rfl (any_of HT_.out (by kernel_rfl)) (fun _ _ _ h => h) (Or.inl ⟨by rfl, ?_⟩) ?_ ?_
    rotate_left
    ·intro w'
     go_simp
     with_reducible rfl
    rotate_left
    ·simp only [Act.put, zs, zz, zt, i64_w, i32_w]
     rfl
    refine take_ (i := 4) (N := some 32) (v := ?_) (a' := ?_) #[true, false, false, true, true, false, false, false, false] rfl rfl (take_ofW HT_.out HW_.out (by kernel_rfl)) (fun _ _ _ h => h) (Or.inl ⟨by rfl, ?_⟩) hHeld ?_ ?_
    rotate_left
    ·rintro w' ⟨s0, s1, s2, s3⟩
     go_simp
     with_reducible rfl
    rotate_left
    ·simp only [Act.put, zs, zz, zt, i64_w, i32_w]
     rfl
    refine one_ (i := 1) (N := some 29) #[true, true, false, true, true, false, false, false, false] rfl rfl (one_of HT_.out (by kernel_rfl)) (by decide) (fun K hK => ?_)
    refine goes_ Tryz.func98 (by kernel_rfl) rfl #[.int .i64 1, .slice Ao20 x3_1.length co20] (by rfl) rfl rfl zq ?_
    with_reducible refine (impl_seal.calls k1 1 _ _ x3_1 t782 _ ?side1 ?side2 A16.out).mono ?_
    (case side1 => exact zC ((Kd.R_reads' Zd.out).2.2))
    (case side2 => exact (Kd.R_reads' Zd.out).2.1)
    rintro e w21 ⟨rfl, hb⟩
    refine ⟨_, rfl, ?_⟩
    have n0_ := zm (Kd.R_below (zg_6 Zd.out) hb)
    have n1_ := zm (Kd.R_below (zg_6 Zc.out) hb)
    have n2_ := zm (blk_below (g := gb770) (o := .cells #[.slice A0_0 l0_0.length c0_0, .slice A0_1 l0_1.length c0_1, .slice A0_2 l0_2.length c0_2, .slice A0_3 l0_3.length c0_3] 26 (0, 0)) (zg_3 Za.out) hb)
    have n3_ := zm (below_step (zg_2 HB.out Zb.out) hb)
    clear Zd
    clear Zc
    clear Za
    clear HB
    have Zd := n0_
    have Zc := n1_
    have Za := n2_
    have HB := n3_
    clear n0_ n1_ n2_ n3_
    (try clear hb)
    (try clear hb2)
    (try clear hk)
    (try clear hi)
    refine hK.out _ _ ⟨(blk_cell Za.out 0).trans rfl, (blk_cell Za.out 1).trans rfl, (blk_cell Za.out 2).trans rfl, (blk_cell Za.out 3).trans rfl⟩ (fun hHeld => ?_)
    clear hK K
    refine norm_ (a' := ?_) ?_ ?_
    rotate_left
    ·show Act.put _ (some 29) _ = _
     simp only [Act.put, zs, zz, zt, i64_w, i32_w]
     rfl
    refine pure_ (i := 2) (N := some 30) (v := ?_) (a' := ?_) #[true, true, true, true, true, false, false, false, false] rfl rfl (any_of HT_.out (by kernel_rfl)) (fun _ _ _ h => h) (Or.inl ⟨by rfl, ?_⟩) ?_ ?_
    rotate_left
    ·intro w'
     go_simp
     with_reducible rfl
    rotate_left
    ·simp only [Act.put, zs, zz, zt, i64_w, i32_w]
     rfl
    refine one_ (i := 5) (N := some 33) #[true, true, true, true, true, true, false, false, false] rfl rfl (one_of HT_.out (by kernel_rfl)) (by decide) (fun K hK => ?_)
    refine goes_ Tryz.func99 (by kernel_rfl) rfl #[.slice A0_0 l0_0.length c0_0] (by rfl) rfl rfl zq ?_
    with_reducible refine (impl_refsText.calls k1 _ _ l0_0 t783 _ ?side1 ?side2 A17.out).mono ?_
    (case side1 => exact zC (Kd.C_below Zk.out HB.out))
    (case side2 => exact Zm.out)
    rintro e w22 ⟨rfl, hb⟩
    refine ⟨_, rfl, ?_⟩
    have n0_ := zm (Kd.R_below (zg_6 Zd.out) hb)
    have n1_ := zm (Kd.R_below (zg_6 Zc.out) hb)
    have n2_ := zm (blk_below (g := gb770) (o := .cells #[.slice A0_0 l0_0.length c0_0, .slice A0_1 l0_1.length c0_1, .slice A0_2 l0_2.length c0_2, .slice A0_3 l0_3.length c0_3] 26 (0, 0)) (zg_3 Za.out) hb)
    have n3_ := zm (below_step (zg_2 HB.out Zb.out) hb)
    clear Zd
    clear Zc
    clear Za
    clear HB
    have Zd := n0_
    have Zc := n1_
    have Za := n2_
    have HB := n3_
    clear n0_ n1_ n2_ n3_
    (try clear hb)
    (try clear hb2)
    (try clear hk)
    (try clear hi)
    refine hK.out _ _ ⟨(blk_cell Za.out 0).trans rfl, (blk_cell Za.out 1).trans rfl, (blk_cell Za.out 2).trans rfl, (blk_cell Za.out 3).trans rfl⟩ (fun hHeld => ?_)
    clear hK K
    refine norm_ (a' := ?_) ?_ ?_
    rotate_left
    ·show Act.put _ (some 33) _ = _
     simp only [Act.put, zs, zz, zt, i64_w, i32_w]
     rfl
    refine pure_ (i := 6) (N := some 34) (v := ?_) (a' := ?_) #[true, true, true, true, true, true, true, false, false] rfl rfl (any_of HT_.out (by kernel_rfl)) (fun _ _ _ h => h) (Or.inl ⟨by rfl, ?_⟩) ?_ ?_
    rotate_left
    ·intro w'
     go_simp
     with_reducible rfl
    rotate_left
    ·simp only [Act.put, zs, zz, zt, i64_w, i32_w]
     rfl
    refine one_ (i := 7) (N := some 35) #[true, true, true, true, true, true, true, true, false] rfl rfl (one_of HT_.out (by kernel_rfl)) (by decide) (fun K hK => ?_)
    refine Kd.R_lit_step k77 _ 77 ?hg (N := 35) ?hd (xs := ([(⟨9, t782⟩ : S77), (⟨10, t783⟩ : S77)] : List (S77))) (inner := [.int .i64 9, .string t782, .int .i64 10, .string t783]) (ok := fun _ => True) (okp := fun _ => True) ?hr ?hp (fun _ hk => hk) trivial (Below.refl _ _) (Nat.le_refl _) (by simp) ?_; (case hd => rfl); (case hg => rfl); (case hr => first | (go_simp; done) | (go_simp; rfl)); (case hp => exact (Reps.c2 (show Kd.M k77 _ _ _ (⟨9, t782⟩ : S77) [.int .i64 9, .string t782] from (k77_mkM _ _ _ (⟨9, t782⟩ : S77) )) (Reps.c2 (show Kd.M k77 _ _ _ (⟨10, t783⟩ : S77) [.int .i64 10, .string t783] from (k77_mkM _ _ _ (⟨10, t783⟩ : S77) )) (Reps.none _ _))))
    intro v785 w23 ho24 hb hg_ hnew_
    clear hg_ hnew_
    (first | rw [← Ny784.out] at ho24 | (simp only [Int.reduceToNat] at ho24; rw [← Ny784.out] at ho24))
    have n0_ := zm (Kd.R_below (zg_6 Zd.out) hb)
    have n1_ := zm (Kd.R_below (zg_6 Zc.out) hb)
    have n2_ := zm (Kd.R_lower ho24 (below_size (zg_2 HB.out Zb.out)))
    have n3_ := zm (blk_below (g := gb770) (o := .cells #[.slice A0_0 l0_0.length c0_0, .slice A0_1 l0_1.length c0_1, .slice A0_2 l0_2.length c0_2, .slice A0_3 l0_3.length c0_3] 26 (0, 0)) (zg_3 Za.out) hb)
    have n4_ := zm (below_step (zg_2 HB.out Zb.out) hb)
    clear Zd
    clear Zc
    clear Za
    clear HB
    have Zd := n0_
    have Zc := n1_
    have Zj := n2_
    have Za := n3_
    have HB := n4_
    clear n0_ n1_ n2_ n3_ n4_
    clear hb ho24
    refine hK.out _ _ ⟨(blk_cell Za.out 0).trans rfl, (blk_cell Za.out 1).trans rfl, (blk_cell Za.out 2).trans rfl, (blk_cell Za.out 3).trans rfl⟩ (fun hHeld => ?_)
    clear hK K
    refine norm_ (a' := ?_) ?_ ?_
    rotate_left
    ·show Act.put _ (some 35) _ = _
     simp only [Act.put, zs, zz, zt, i64_w, i32_w]
     rfl
    refine pure_ (i := 8) (N := some 6) (v := ?_) (a' := ?_) #[true, true, true, true, true, true, true, true, true] rfl rfl (any_of HT_.out (by kernel_rfl)) (fun _ _ _ h => h) (Or.inl ⟨by rfl, ?_⟩) ?_ ?_
    rotate_left
    ·intro w'
     go_simp
     with_reducible rfl
    rotate_left
    ·simp only [Act.put, zs, zz, zt, i64_w, i32_w]
     rfl
    refine done_ (done_of HT_.out (by kernel_rfl)) ?_
    have hcz25_0 : w23.cell? ⟨gb770, 0, none⟩ = some (.slice A0_0 l0_0.length c0_0) := (blk_cell Za.out 0).trans rfl
    have hcz25_1 : w23.cell? ⟨gb770, 1, none⟩ = some (.slice A0_1 l0_1.length c0_1) := (blk_cell Za.out 1).trans rfl
    have hcz25_2 : w23.cell? ⟨gb770, 2, none⟩ = some (.slice A0_2 l0_2.length c0_2) := (blk_cell Za.out 2).trans rfl
    have hcz25_3 : w23.cell? ⟨gb770, 3, none⟩ = some (.slice A0_3 l0_3.length c0_3) := (blk_cell Za.out 3).trans rfl
    have hfz25_0 := blk_frozen Za.out 0
    have hfz25_1 := blk_frozen Za.out 1
    have hfz25_2 := blk_frozen Za.out 2
    have hfz25_3 := blk_frozen Za.out 3
    try go_wp2_with (first | ((with_reducible refine gate_callee (f := 76) rfl ?_); refine goesL_ (some 37) rfl rfl Tryz.func76 (by kernel_rfl) rfl #[.agg #[.slice A0_0 l0_0.length c0_0, .slice A0_1 l0_1.length c0_1, .slice A0_2 l0_2.length c0_2, .slice A0_3 l0_3.length c0_3]] rfl zq ?_; (with_reducible refine (impl_Image_tables.calls k1 _ _ l0_0 (fun k_ => k_ < w.heap.size) _ _ l0_1 (fun k_ => k_ < w.heap.size) _ _ l0_2 _ _ l0_3 t787 _ ?side1 ?side2 ?side3 ?side4 ?side5 ?side6 A18.out).mono ?_); (case side1 => exact zC (Kd.C_below Zk.out HB.out)); (case side2 => exact Zm.out); (case side3 => exact Kd.V_mk Zq.out (Kd.F_below (Kd.C_F (Kd.heap_int .i64) Zp.out) (zg_2 HB.out Zb.out))); (case side4 => exact Kd.V_mk Zs.out (Kd.F_below (Kd.C_F k103_heap Zr.out) (zg_2 HB.out Zb.out))); (case side5 => exact zC (Kd.C_below Zn.out HB.out)); (case side6 => exact Zt.out); rintro e w26 ⟨v788, rfl, ho0, hb⟩; refine ⟨_, rfl, ?_⟩; have n0_ := zm (Kd.R_below (zg_6 Zd.out) hb); have n1_ := zm (Kd.R_below (zg_6 Zc.out) hb); have n2_ := zm (Kd.R_below (zg_6 Zj.out) hb); have n3_ := zm (Kd.N_lower (Kd.N_mono (ok' := fun k_ => some k_ ≠ (.slice Ao20 x3_1.length co20 : Value).ownBlock ∧ some k_ ≠ (.slice Ao9 t774.length co9 : Value).ownBlock ∧ some k_ ≠ (v785 : Value).ownBlock ∧ k_ ≠ gb770) ho0 (fun k_ hk_ => ⟨Or.elim hk_ (fun hs_ => Or.elim hs_ (fun hs_ => fun e_ => Nat.not_le.2 hs_ (Kd.R_base Zd.out k_ e_.symm)) (fun hs_ => fun e_ => Nat.not_le.2 hs_ (Kd.R_base Zd.out k_ e_.symm))) (fun hn_ => (Kd.fresh' (Kd.R_lt (zg_6 Zd.out)) k_ hn_)), Or.elim hk_ (fun hs_ => Or.elim hs_ (fun hs_ => fun e_ => Nat.not_le.2 hs_ (Kd.R_base Zc.out k_ e_.symm)) (fun hs_ => fun e_ => Nat.not_le.2 hs_ (Kd.R_base Zc.out k_ e_.symm))) (fun hn_ => (Kd.fresh' (Kd.R_lt (zg_6 Zc.out)) k_ hn_)), Or.elim hk_ (fun hs_ => Or.elim hs_ (fun hs_ => fun e_ => Nat.not_le.2 hs_ (Kd.R_base Zj.out k_ e_.symm)) (fun hs_ => fun e_ => Nat.not_le.2 hs_ (Kd.R_base Zj.out k_ e_.symm))) (fun hn_ => (Kd.fresh' (Kd.R_lt (zg_6 Zj.out)) k_ hn_)), Or.elim hk_ (fun hs_ => Or.elim hs_ (fun hs_ => fun e_ => Nat.not_le.2 hs_ (by rw [e_]; exact Zu.out)) (fun hs_ => fun e_ => Nat.not_le.2 hs_ (by rw [e_]; exact Zu.out))) (fun hn_ => (Kd.freshB (g := gb770) (o := .cells #[.slice A0_0 l0_0.length c0_0, .slice A0_1 l0_1.length c0_1, .slice A0_2 l0_2.length c0_2, .slice A0_3 l0_3.length c0_3] 26 (0, 0)) (zg_3 Za.out) k_ hn_))⟩)) (below_size (zg_2 HB.out Zb.out))); have n4_ := zm (blk_below (g := gb770) (o := .cells #[.slice A0_0 l0_0.length c0_0, .slice A0_1 l0_1.length c0_1, .slice A0_2 l0_2.length c0_2, .slice A0_3 l0_3.length c0_3] 26 (0, 0)) (zg_3 Za.out) hb); have n5_ := zm (below_step (zg_2 HB.out Zb.out) hb); clear Zd; clear Zc; clear Zj; clear Za; clear HB; have Zd := n0_; have Zc := n1_; have Zj := n2_; have Zw := n3_; have Za := n4_; have HB := n5_; clear n0_ n1_ n2_ n3_ n4_ n5_; (try clear hb); (try clear hb2); (try clear hk); (try clear hi); (try clear ho0); obtain ⟨Ao27, co27, eo27⟩ := Kd.N_slice Zw.out; subst eo27))
    go_loopg [6, 39] k1 (fun kq v6 v39 w' => ∃ (x6_2 : List (S77)) (x39_2 : Int), v39 = .int .i64 x39_2 ∧ Aside0 (impl_Image_updates.l1 kq x6_2 t787 (t787.length : Int) x39_2 l0_0 l0_1 l0_2 l0_3 = some r) ∧ Aside0 (kq ≤ k1) ∧ Aside0 (Kd.R k77 77 w' w.heap.size (fun _ => True) v6 x6_2) ∧ Aside0 (Kd.N (Kd.slice 3 (Kd.int .i64)) 23 w' w.heap.size (fun k_ => some k_ ≠ (v6 : Value).ownBlock ∧ k_ ≠ gb770) (.slice Ao27 t787.length co27) t787) ∧ Aside0 (w'.heap[gb770]? = some (.cells #[(.slice A0_0 l0_0.length c0_0), (.slice A0_1 l0_1.length c0_1), (.slice A0_2 l0_2.length c0_2), (.slice A0_3 l0_3.length c0_3)] 26 (0, 0))) ∧ Aside0 (Below w.heap.size w w'))
    case atStart => exact ⟨(y784), (0), zr, H', ⟨Nat.le_refl _⟩, ⟨by (with_reducible repeat (first | apply Kd.R_alloc | apply Kd.R_drewN | apply Kd.R_drew)); exact Zj.out⟩, ⟨by (with_reducible repeat (first | apply Kd.N_alloc | apply Kd.N_drewN | apply Kd.N_drew)); exact Kd.N_mono Zw.out (fun _ hk => ⟨hk.2.2.1, hk.2.2.2⟩)⟩, ⟨by (with_reducible repeat (first | refine blk_drewN ?_ _ | refine blk_drew ?_ | refine blk_alloc ?_ _)); exact Za.out⟩, ⟨zg_2 HB.out Zb.out⟩⟩
    case round =>
     clear H'
     try clear c1
     try clear c2
     try clear p2
     try clear c5
     try clear p6
     try clear c7
     try clear p7
     try clear q7
     try clear hx7
     try clear c9
     try clear c10
     try clear c10b0
     try clear c11
     try clear c11b0
     try clear c12
     try clear c12b0
     try clear c14
     try clear hcz25_0
     try clear hcz25_1
     try clear hcz25_2
     try clear hcz25_3
     try clear hcz4_0
     try clear hcz4_1
     try clear hcz4_2
     try clear hcz4_3
     try clear hcz7_0
     try clear hcz7_1
     try clear hcz7_2
     try clear hcz7_3
     try clear hfz25_0
     try clear hfz25_1
     try clear hfz25_2
     try clear hfz25_3
     try clear hfz4_0
     try clear hfz4_1
     try clear hfz4_2
     try clear hfz4_3
     try clear hfz7_0
     try clear hfz7_1
     try clear hfz7_2
     try clear hfz7_3
     try clear hx777_0
     try clear p2
     try clear p777
     try clear q777
     obtain ⟨x6_2, x39_2, rfl, HA, HK2, Ze, Zh, Za, HB⟩ := hrel
     cases gk with
     | zero => exact absurd HA.out (by simp [impl_Image_updates.l1])
     | succ k2 =>
      have H := HA.out
      clear HA
      simp only [impl_Image_updates.l1] at H
      by_cases c28 : x39_2 < (t787.length : Int)
      ·rw [if_pos c28] at H
       have c28b0 : decide (x39_2 < (t787.length : Int)) = true := decide_eq_true c28
       clear c28
       by_cases c29 : 0 ≤ x39_2
       ·rw [if_pos c29] at H
        have c29b0 : decide (0 ≤ x39_2) = true := decide_eq_true c29
        clear c29
        by_cases c30 : x39_2 < (t787.length : Int)
        ·rw [if_pos c30] at H
         have c30b0 : decide (x39_2 < (t787.length : Int)) = true := decide_eq_true c30
         clear c30
         replace H := Option.bind_eq_some_iff.mp H
         obtain ⟨t791, A310, H⟩ := H
         replace H : (if x6_2.length < 5864062014805 then (impl_Image_updates.l1 k2 (x6_2 ++ [(⟨wrap64 (11 + x39_2), t791⟩ : S77)]) t787 (t787.length : Int) (wrap64 (x39_2 + 1)) l0_0 l0_1 l0_2 l0_3) else (none)) = some r := H
         have A31 := zm A310
         clear A310
         by_cases c32 : x6_2.length < 5864062014805
         ·rw [if_pos c32] at H
          have LMc32 := zm c32
          clear c32
          obtain ⟨y792, hy792⟩ : ∃ y_ : List (S77), y_ = (x6_2 ++ [(⟨wrap64 (11 + x39_2), t791⟩ : S77)]) := ⟨_, rfl⟩
          replace H : (impl_Image_updates.l1 k2 y792 t787 (t787.length : Int) (wrap64 (x39_2 + 1)) l0_0 l0_1 l0_2 l0_3) = some r := by first | (rw [hy792]; with_reducible exact H) | (have H2_ := (Option.bind_some _ _).symm.trans H; rw [hy792]; with_reducible exact H2_) | (have H2_ := (Option.bind_some _ _).symm.trans H; with_reducible exact H2_) | with_reducible exact H | (rw [hy792]; exact H) | exact H
          have Ny792 := zm hy792
          clear hy792
          have H' := zm H
          clear H
          have p790 : 0 ≤ (x39_2 : Int) := zd
          have q790 : x39_2 < (t787.length : Int) := zd
          obtain ⟨ad790, A790_0, c790_0, e790, hx790_0, hl790_0, hi790_0⟩ := at_L3 (Kd.N_reads' Zh.out).2.2 x39_2 p790 q790
          cases e790
          obtain ⟨ce790, hce790, hMe790, hcc790⟩ := Kd.N_get Zh.out [] x39_2 p790 (by first | exact q790 | exact zd | (have e_ := (Kd.N_reads' Zh.out).1; omega))
          obtain ⟨ua790_0, uc790_0, rfl, ul790_0, ge790_0⟩ := Kd.FK_slice_open hMe790
          have hv790_0 := hcc790 0 _ rfl
          rw [Nat.add_zero, show ((Kd.slice 3 (Kd.int .i64))).sz = 1 from rfl, Nat.mul_one] at hv790_0
          replace hv790_0 := Option.some.inj (hv790_0.symm.trans hx790_0)
          injection hv790_0 with hva_ hvn_ hvc_
          rw [hva_] at ge790_0
          rw [hvc_] at ul790_0
          have Zf := zm (show Kd.V (Kd.int .i64) 3 _ w.heap.size _ _ (rd_L3 t787 x39_2) from Kd.V_mk ul790_0 ge790_0)
          clear hva_ hvn_ hvc_ ge790_0 ul790_0
          clear hcc790 hce790
          have Zg := zm hi790_0
          have Zo := zm hl790_0
          clear hi790_0 hl790_0
          replace p790 := eq_true p790
          replace q790 := eq_true q790
          go_wp2_with (first | ((with_reducible refine gate_callee (f := 98) rfl ?_); refine goesL_ (some 48) rfl rfl Tryz.func98 (by kernel_rfl) rfl #[.int .i64 3, .slice A790_0 (rd_L3 t787 x39_2).length c790_0] rfl zq ?_; (with_reducible refine (impl_seal.calls k2 3 _ _ (rd_L3 t787 x39_2) t791 _ ?side1 ?side2 A31.out).mono ?_); (case side1 => repeat (first | exact (by repeat (first | (with_reducible exact Zg.out) | (with_reducible refine Kd.C_alloc ?_ _) | (with_reducible refine Kd.C_drewN ?_ _) | (with_reducible refine Kd.C_drew ?_) | exact Zg.out)) | (with_reducible refine Kd.C_alloc ?_ _) | (with_reducible refine Kd.C_drewN ?_ _) | (with_reducible refine Kd.C_drew ?_))); (case side2 => exact Zo.out); rintro e w33 ⟨rfl, hb⟩; refine ⟨_, rfl, ?_⟩; have n0_ := zm (Kd.R_below (zg_6 Ze.out) hb); have n1_ := zm (Kd.N_below (zg_4 Zh.out) hb); have n2_ := zm (Kd.V_below (zg_0 Zf.out) hb); have n3_ := zm (blk_below (g := gb770) (o := .cells #[.slice A0_0 l0_0.length c0_0, .slice A0_1 l0_1.length c0_1, .slice A0_2 l0_2.length c0_2, .slice A0_3 l0_3.length c0_3] 26 (0, 0)) (zg_3 Za.out) hb); have n4_ := zm (Kd.C_below (by repeat (first | (with_reducible exact Zg.out) | (with_reducible refine Kd.C_alloc ?_ _) | (with_reducible refine Kd.C_drewN ?_ _) | (with_reducible refine Kd.C_drew ?_) | exact Zg.out)) hb); have n5_ := zm (below_step (zg_2 HB.out Zb.out) hb); clear Ze; clear Zh; clear Zf; clear Za; clear Zg; clear HB; have Ze := n0_; have Zh := n1_; have Zf := n2_; have Za := n3_; have Zg := n4_; have HB := n5_; clear n0_ n1_ n2_ n3_ n4_ n5_; (try clear hb); (try clear hb2); (try clear hk); (try clear hi)) | ((with_reducible refine gate_builtin (b := .append) (xs := #[.tmp 44, .tmp 50]) rfl ?_); at_builtin; refine Kd.R_append k77 (w0 := w) w.heap.size rfl (.tmp 44) (.tmp 50) 49 77 (.agg #[(.int .i64 0), (.string ⟨#[]⟩)]) 24 rfl Tryz.underlying49 info77 rfl (by decide) (by omega) u6 x6_2 (⟨wrap64 (11 + x39_2), t791⟩ : S77) [.int .i64 (wrap64 (11 + x39_2)), .string t791] (fun _ => True) (fun _ => False) rfl rfl ?aP (fun _ hk => hk.elim) ?aF ?aO ?aB ?aS ?aL ?_; (case aP => exact k77_mkM _ _ _ (⟨wrap64 (11 + x39_2), t791⟩ : S77)); (case aB => exact (zg_2 HB.out Zb.out)); (case aF => exact (fun _ _ => trivial)); (case aO => exact (zg_6 Ze.out)); (case aS => exact (below_size (zg_2 HB.out Zb.out))); (case aL => have := LMc32.out; omega); intro v793 w34 ho hb hg hat; rw [← Ny792.out] at ho; have n0_ := zm (Kd.N_afterv (ok := (fun k_ => k_ ≠ gb770)) (by (with_reducible repeat (first | apply Kd.N_alloc | apply Kd.N_drewN | apply Kd.N_drew)); exact Kd.N_mono Zh.out (fun _ hk => ⟨hk.2, hk.1⟩)) hg hat); have n1_ := zm (blk_grown (g := gb770) (o := .cells #[.slice A0_0 l0_0.length c0_0, .slice A0_1 l0_1.length c0_1, .slice A0_2 l0_2.length c0_2, .slice A0_3 l0_3.length c0_3] 26 (0, 0)) (zg_3 Za.out) hg (Kd.R_ne Ze.out Za.out (by decide))); have n2_ := zm (Kd.V_afterv (ok := (fun k_ => some k_ ≠ (.slice (some ad790) t787.length co27 : Value).ownBlock ∧ k_ ≠ gb770)) (by (with_reducible repeat (first | apply Kd.V_alloc | apply Kd.V_drewN | apply Kd.V_drew)); exact Kd.V_mono Zf.out (fun _ hk => ⟨⟨hk.2, hk.1.2⟩, hk.1.1⟩)) hg hat); have n3_ := zm (hb); have n4_ := zm (ho); clear Zh; clear Za; clear Zf; clear HB; clear Ze; have Zh := n0_; have Za := n1_; have Zf := n2_; have HB := n3_; have Zy := n4_; clear n0_ n1_ n2_ n3_ n4_; clear ho hb hg hat))
          go_roundg k2
          case measure => have := HK1.out; have := HK2.out; omega
          case rel => exact ⟨(y792), (wrap64 (x39_2 + 1)), zr, H', ⟨by have := HK1.out; have := HK2.out; omega⟩, ⟨by (with_reducible repeat (first | apply Kd.R_alloc | apply Kd.R_drewN | apply Kd.R_drew)); exact Zy.out⟩, ⟨by (with_reducible repeat (first | apply Kd.N_alloc | apply Kd.N_drewN | apply Kd.N_drew)); exact Kd.N_mono Zh.out (fun _ hk => ⟨hk.2, hk.1⟩)⟩, ⟨by (with_reducible repeat (first | refine blk_drewN ?_ _ | refine blk_drew ?_ | refine blk_alloc ?_ _)); exact Za.out⟩, ⟨zg_2 HB.out Zb.out⟩⟩
         ·rw [if_neg c32] at H
          exact absurd H (by simp)
        ·rw [if_neg c30] at H
         exact absurd H (by simp)
       ·rw [if_neg c29] at H
        exact absurd H (by simp)
      ·rw [if_neg c28] at H
       have c28b0 : decide (x39_2 < (t787.length : Int)) = false := decide_eq_false c28
       clear c28
       have H' := zm H
       clear H
       have hcz35_0 : wr.cell? ⟨gb770, 0, none⟩ = some (.slice A0_0 l0_0.length c0_0) := (blk_cell Za.out 0).trans rfl
       have hcz35_1 : wr.cell? ⟨gb770, 1, none⟩ = some (.slice A0_1 l0_1.length c0_1) := (blk_cell Za.out 1).trans rfl
       have hcz35_2 : wr.cell? ⟨gb770, 2, none⟩ = some (.slice A0_2 l0_2.length c0_2) := (blk_cell Za.out 2).trans rfl
       have hcz35_3 : wr.cell? ⟨gb770, 3, none⟩ = some (.slice A0_3 l0_3.length c0_3) := (blk_cell Za.out 3).trans rfl
       have hfz35_0 := blk_frozen Za.out 0
       have hfz35_1 := blk_frozen Za.out 1
       have hfz35_2 := blk_frozen Za.out 2
       have hfz35_3 := blk_frozen Za.out 3
       go_wp2
       go_loopg [6, 56] k2 (fun kq v6 v56 w' => ∃ (x6_3 : List (S77)) (x56_3 : Int), v56 = .int .i64 x56_3 ∧ Aside0 (impl_Image_updates.l2 kq x6_3 l0_0 (l0_0.length : Int) x56_3 l0_0 l0_1 l0_2 l0_3 = some r) ∧ Aside0 (kq ≤ k2) ∧ Aside0 (Kd.R k77 77 w' w.heap.size (fun _ => True) v6 x6_3) ∧ Aside0 (w'.heap[gb770]? = some (.cells #[(.slice A0_0 l0_0.length c0_0), (.slice A0_1 l0_1.length c0_1), (.slice A0_2 l0_2.length c0_2), (.slice A0_3 l0_3.length c0_3)] 26 (0, 0))) ∧ Aside0 (Below w.heap.size w w'))
       case atStart => exact ⟨(x6_2), (0), zr, H', ⟨Nat.le_refl _⟩, ⟨by (with_reducible repeat (first | apply Kd.R_alloc | apply Kd.R_drewN | apply Kd.R_drew)); exact Ze.out⟩, ⟨by (with_reducible repeat (first | refine blk_drewN ?_ _ | refine blk_drew ?_ | refine blk_alloc ?_ _)); exact Za.out⟩, ⟨zg_2 HB.out Zb.out⟩⟩
       case round =>
        clear H'
        try clear c1
        try clear c2
        try clear p2
        try clear c3
        try clear c5
        try clear p6
        try clear c7
        try clear p7
        try clear q7
        try clear hx7
        try clear c9
        try clear c10
        try clear c10b0
        try clear c11
        try clear c11b0
        try clear c12
        try clear c12b0
        try clear c14
        try clear c28
        try clear c28b0
        try clear c29
        try clear c29b0
        try clear c30
        try clear c30b0
        try clear c32
        try clear hcz25_0
        try clear hcz25_1
        try clear hcz25_2
        try clear hcz25_3
        try clear hcz35_0
        try clear hcz35_1
        try clear hcz35_2
        try clear hcz35_3
        try clear hcz4_0
        try clear hcz4_1
        try clear hcz4_2
        try clear hcz4_3
        try clear hcz7_0
        try clear hcz7_1
        try clear hcz7_2
        try clear hcz7_3
        try clear hfz25_0
        try clear hfz25_1
        try clear hfz25_2
        try clear hfz25_3
        try clear hfz35_0
        try clear hfz35_1
        try clear hfz35_2
        try clear hfz35_3
        try clear hfz4_0
        try clear hfz4_1
        try clear hfz4_2
        try clear hfz4_3
        try clear hfz7_0
        try clear hfz7_1
        try clear hfz7_2
        try clear hfz7_3
        try clear hx777_0
        try clear hx790_0
        try clear p2
        try clear p6
        try clear p7
        try clear p777
        try clear p790
        try clear q7
        try clear q777
        try clear q790
        obtain ⟨x6_3, x56_3, rfl, HA, HK3, Ze, Za, HB⟩ := hrel
        cases gk with
        | zero => exact absurd HA.out (by simp [impl_Image_updates.l2])
        | succ k3 =>
         have H := HA.out
         clear HA
         simp only [impl_Image_updates.l2] at H
         by_cases c36 : x56_3 < (l0_0.length : Int)
         ·rw [if_pos c36] at H
          have c36b0 : decide (x56_3 < (l0_0.length : Int)) = true := decide_eq_true c36
          clear c36
          by_cases c37 : 0 ≤ x56_3
          ·rw [if_pos c37] at H
           have c37b0 : decide (0 ≤ x56_3) = true := decide_eq_true c37
           clear c37
           by_cases c38 : x56_3 < (l0_0.length : Int)
           ·rw [if_pos c38] at H
            have c38b0 : decide (x56_3 < (l0_0.length : Int)) = true := decide_eq_true c38
            clear c38
            by_cases c39 : (rd l0_0 x56_3) > 0
            ·rw [if_pos c39] at H
             have c39b0 : decide (0 < (rd l0_0 x56_3)) = true := decide_eq_true c39
             clear c39
             by_cases c40 : x56_3 < (l0_3.length : Int)
             ·rw [if_pos c40] at H
              have c40b0 : decide (x56_3 < (l0_3.length : Int)) = true := decide_eq_true c40
              clear c40
              obtain ⟨y797, hy797⟩ : ∃ y_ : List Int, y_ = (([rd l0_3 x56_3] : List Int)) := ⟨_, rfl⟩
              replace H : ((impl_seal.f k3 4 y797).bind fun t800 => (if x6_3.length < 5864062014805 then (impl_Image_updates.l2 k3 (x6_3 ++ [(⟨wrap64 (15 + x56_3), t800⟩ : S77)]) l0_0 (l0_0.length : Int) (wrap64 (x56_3 + 1)) l0_0 l0_1 l0_2 l0_3) else (none))) = some r := by first | (rw [hy797]; with_reducible exact H) | (have H2_ := (Option.bind_some _ _).symm.trans H; rw [hy797]; with_reducible exact H2_) | (have H2_ := (Option.bind_some _ _).symm.trans H; with_reducible exact H2_) | with_reducible exact H | (rw [hy797]; exact H) | exact H
              have Ny797 := zm hy797
              clear hy797
              replace H := Option.bind_eq_some_iff.mp H
              obtain ⟨t800, A410, H⟩ := H
              replace H : (if x6_3.length < 5864062014805 then (impl_Image_updates.l2 k3 (x6_3 ++ [(⟨wrap64 (15 + x56_3), t800⟩ : S77)]) l0_0 (l0_0.length : Int) (wrap64 (x56_3 + 1)) l0_0 l0_1 l0_2 l0_3) else (none)) = some r := H
              have A41 := zm A410
              clear A410
              by_cases c42 : x6_3.length < 5864062014805
              ·rw [if_pos c42] at H
               have LMc42 := zm c42
               clear c42
               obtain ⟨y801, hy801⟩ : ∃ y_ : List (S77), y_ = (x6_3 ++ [(⟨wrap64 (15 + x56_3), t800⟩ : S77)]) := ⟨_, rfl⟩
               replace H : (impl_Image_updates.l2 k3 y801 l0_0 (l0_0.length : Int) (wrap64 (x56_3 + 1)) l0_0 l0_1 l0_2 l0_3) = some r := by first | (rw [hy801]; with_reducible exact H) | (have H2_ := (Option.bind_some _ _).symm.trans H; rw [hy801]; with_reducible exact H2_) | (have H2_ := (Option.bind_some _ _).symm.trans H; with_reducible exact H2_) | with_reducible exact H | (rw [hy801]; exact H) | exact H
               have Ny801 := zm hy801
               clear hy801
               have H' := zm H
               clear H
               have p795 : 0 ≤ (x56_3 : Int) := zd
               have q795 : x56_3 < (l0_0.length : Int) := zd
               obtain ⟨ad795, e795, hx795_0⟩ := Kd.at_int Zk.out x56_3 p795 q795
               cases e795
               replace hx795_0 := (HB.out.cell (World.block_lt_of_cell? w _ hx795_0)).trans hx795_0
               replace p795 := eq_true p795
               replace q795 := eq_true q795
               have hcz43_0 : wr.cell? ⟨gb770, 0, none⟩ = some (.slice (some ad795) l0_0.length c0_0) := (blk_cell Za.out 0).trans rfl
               have hcz43_1 : wr.cell? ⟨gb770, 1, none⟩ = some (.slice A0_1 l0_1.length c0_1) := (blk_cell Za.out 1).trans rfl
               have hcz43_2 : wr.cell? ⟨gb770, 2, none⟩ = some (.slice A0_2 l0_2.length c0_2) := (blk_cell Za.out 2).trans rfl
               have hcz43_3 : wr.cell? ⟨gb770, 3, none⟩ = some (.slice A0_3 l0_3.length c0_3) := (blk_cell Za.out 3).trans rfl
               have hfz43_0 := blk_frozen Za.out 0
               have hfz43_1 := blk_frozen Za.out 1
               have hfz43_2 := blk_frozen Za.out 2
               have hfz43_3 := blk_frozen Za.out 3
               have p796 : 0 ≤ (x56_3 : Int) := zd
               have q796 : x56_3 < (l0_3.length : Int) := zd
               obtain ⟨ad796, e796, hx796_0⟩ := Kd.at_int Zn.out x56_3 p796 q796
               cases e796
               replace hx796_0 := (HB.out.cell (World.block_lt_of_cell? w _ hx796_0)).trans hx796_0
               replace p796 := eq_true p796
               replace q796 := eq_true q796
               go_wp2_with (first | ((with_reducible refine gate_dst (N := 71) rfl ?_); refine Kd.R_lit (Kd.int .i64) _ 3 ?hg (N := 71) ?hd (xs := ([rd l0_3 x56_3] : List Int)) (inner := [.int .i64 (rd l0_3 x56_3)]) (ok := fun _ => True) (okp := fun _ => True) ?hr ?hp (fun _ hk => hk) trivial (Below.refl _ _) (Nat.le_refl _) (by simp) ?_; (case hd => rfl); (case hg => rfl); (case hr => first | (go_simp; done) | (go_simp; rfl)); (case hp => exact (Reps.one (show Kd.M (Kd.int .i64) _ _ _ (rd l0_3 x56_3) [.int .i64 (rd l0_3 x56_3)] from rfl) (Reps.none _ _))); intro v798 w44 ho45 hb hg_ hnew_; clear hg_ hnew_; (first | rw [← Ny797.out] at ho45 | (simp only [Int.reduceToNat] at ho45; rw [← Ny797.out] at ho45)); have n0_ := zm (Kd.R_below (zg_6 Ze.out) hb); have n1_ := zm (Kd.R_lower ho45 (below_size (zg_2 HB.out Zb.out))); have n2_ := zm (blk_below (g := gb770) (o := .cells #[.slice (some ad795) l0_0.length c0_0, .slice A0_1 l0_1.length c0_1, .slice A0_2 l0_2.length c0_2, .slice (some ad796) l0_3.length c0_3] 26 (0, 0)) (zg_3 Za.out) hb); have n3_ := zm (below_step (zg_2 HB.out Zb.out) hb); clear Ze; clear Za; clear HB; have Ze := n0_; have Zi := n1_; have Za := n2_; have HB := n3_; clear n0_ n1_ n2_ n3_; clear hb ho45; obtain ⟨Ao46, co46, eo46⟩ := Kd.R_slice Zi.out; subst eo46) | ((with_reducible refine gate_callee (f := 98) rfl ?_); refine goesL_ (some 72) rfl rfl Tryz.func98 (by kernel_rfl) rfl #[.int .i64 4, .slice Ao46 y797.length co46] rfl zq ?_; (with_reducible refine (impl_seal.calls k3 4 _ _ y797 t800 _ ?side1 ?side2 A41.out).mono ?_); (case side1 => exact zC ((Kd.R_reads' Zi.out).2.2)); (case side2 => exact (Kd.R_reads' Zi.out).2.1); rintro e w47 ⟨rfl, hb⟩; refine ⟨_, rfl, ?_⟩; have n0_ := zm (Kd.R_below (zg_6 Ze.out) hb); have n1_ := zm (Kd.R_below (zg_6 Zi.out) hb); have n2_ := zm (blk_below (g := gb770) (o := .cells #[.slice (some ad795) l0_0.length c0_0, .slice A0_1 l0_1.length c0_1, .slice A0_2 l0_2.length c0_2, .slice (some ad796) l0_3.length c0_3] 26 (0, 0)) (zg_3 Za.out) hb); have n3_ := zm (below_step (zg_2 HB.out Zb.out) hb); clear Ze; clear Zi; clear Za; clear HB; have Ze := n0_; have Zi := n1_; have Za := n2_; have HB := n3_; clear n0_ n1_ n2_ n3_; (try clear hb); (try clear hb2); (try clear hk); (try clear hi)) | ((with_reducible refine gate_builtin (b := .append) (xs := #[.tmp 63, .tmp 74]) rfl ?_); at_builtin; refine Kd.R_append k77 (w0 := w) w.heap.size rfl (.tmp 63) (.tmp 74) 49 77 (.agg #[(.int .i64 0), (.string ⟨#[]⟩)]) 24 rfl Tryz.underlying49 info77 rfl (by decide) (by omega) u6 x6_3 (⟨wrap64 (15 + x56_3), t800⟩ : S77) [.int .i64 (wrap64 (15 + x56_3)), .string t800] (fun _ => True) (fun _ => False) rfl rfl ?aP (fun _ hk => hk.elim) ?aF ?aO ?aB ?aS ?aL ?_; (case aP => exact k77_mkM _ _ _ (⟨wrap64 (15 + x56_3), t800⟩ : S77)); (case aB => exact (zg_2 HB.out Zb.out)); (case aF => exact (fun _ _ => trivial)); (case aO => exact (zg_6 Ze.out)); (case aS => exact (below_size (zg_2 HB.out Zb.out))); (case aL => have := LMc42.out; omega); intro v802 w48 ho hb hg hat; rw [← Ny801.out] at ho; have n0_ := zm (blk_grown (g := gb770) (o := .cells #[.slice (some ad795) l0_0.length c0_0, .slice A0_1 l0_1.length c0_1, .slice A0_2 l0_2.length c0_2, .slice (some ad796) l0_3.length c0_3] 26 (0, 0)) (zg_3 Za.out) hg (Kd.R_ne Ze.out Za.out (by decide))); have n1_ := zm (Kd.R_over' (zg_6 Zi.out) (Kd.R_typed (zg_6 Ze.out)) (by decide) hg); have n2_ := zm (hb); have n3_ := zm (ho); clear Za; clear Zi; clear HB; clear Ze; have Za := n0_; have Zi := n1_; have HB := n2_; have Zz := n3_; clear n0_ n1_ n2_ n3_; clear ho hb hg hat))
               go_roundg k3
               case measure => have := HK1.out; have := HK2.out; have := HK3.out; omega
               case rel => exact ⟨(y801), (wrap64 (x56_3 + 1)), zr, H', ⟨by have := HK1.out; have := HK2.out; have := HK3.out; omega⟩, ⟨by (with_reducible repeat (first | apply Kd.R_alloc | apply Kd.R_drewN | apply Kd.R_drew)); exact Zz.out⟩, ⟨by (with_reducible repeat (first | refine blk_drewN ?_ _ | refine blk_drew ?_ | refine blk_alloc ?_ _)); exact Za.out⟩, ⟨zg_2 HB.out Zb.out⟩⟩
              ·rw [if_neg c42] at H
               exact absurd H (by simp)
             ·rw [if_neg c40] at H
              exact absurd H (by simp)
            ·rw [if_neg c39] at H
             have c39b0 : decide (0 < (rd l0_0 x56_3)) = false := decide_eq_false c39
             clear c39
             have H' := zm H
             clear H
             have p795 : 0 ≤ (x56_3 : Int) := zd
             have q795 : x56_3 < (l0_0.length : Int) := zd
             obtain ⟨ad795, e795, hx795_0⟩ := Kd.at_int Zk.out x56_3 p795 q795
             cases e795
             replace hx795_0 := (HB.out.cell (World.block_lt_of_cell? w _ hx795_0)).trans hx795_0
             replace p795 := eq_true p795
             replace q795 := eq_true q795
             go_wp2
             go_roundg k3
             case measure => have := HK1.out; have := HK2.out; have := HK3.out; omega
             case rel => exact ⟨(x6_3), (wrap64 (x56_3 + 1)), zr, H', ⟨by have := HK1.out; have := HK2.out; have := HK3.out; omega⟩, ⟨by (with_reducible repeat (first | apply Kd.R_alloc | apply Kd.R_drewN | apply Kd.R_drew)); exact Ze.out⟩, ⟨by (with_reducible repeat (first | refine blk_drewN ?_ _ | refine blk_drew ?_ | refine blk_alloc ?_ _)); exact Za.out⟩, ⟨zg_2 HB.out Zb.out⟩⟩
           ·rw [if_neg c38] at H
            exact absurd H (by simp)
          ·rw [if_neg c37] at H
           exact absurd H (by simp)
         ·rw [if_neg c36] at H
          have c36b0 : decide (x56_3 < (l0_0.length : Int)) = false := decide_eq_false c36
          clear c36
          obtain rfl := Option.some.inj H
          go_wp2
          go_ret
          exact ⟨_, by first | rfl | (simp [errW_none, errW_some] <;> rfl) | (simp [*, errW_none, errW_some] <;> rfl), by (with_reducible repeat (first | apply Kd.R_alloc | apply Kd.R_drewN | apply Kd.R_drew)); exact Ze.out, zg_2 HB.out Zb.out⟩
/-! ### impl_ImageUpdates: function 24 -/
def impl_ImageUpdates.f (k : Nat) (l0_0 : List Int) (l0_1 : List Int) (l0_2 : List (S103)) (l0_3 : List Int) : Option ((List (S77)) × Int) := (impl_ImageOK.f k l0_0 l0_1 l0_2 l0_3).bind fun t805 => (if t805 = true then ((impl_Image_updates.f k l0_0 l0_1 l0_2 l0_3).bind fun t806 => (some (t806, 0))) else (some (([] : List (S77)), 1)))
theorem impl_ImageUpdates.mono : ∀ a0 a1 a2 a3 k, LeO (impl_ImageUpdates.f k a0 a1 a2 a3) (impl_ImageUpdates.f (k + 1) a0 a1 a2 a3) := by
  intro a0 a1 a2 a3 k
  unfold impl_ImageUpdates.f
  repeat' first
      | (with_reducible exact impl_ImageOK.mono _ _ _ _ _)
      | (with_reducible exact impl_Image_updates.mono _ _ _ _ _)
      | (with_reducible exact LeO.refl _)
      | (with_reducible exact LeO.none _)
      | (with_reducible refine LeO.ite ?_ ?_)
      | (with_reducible refine LeO.bind ?_ (fun _ => ?_))
      | exact impl_ImageOK.mono _ _ _ _ _
      | exact impl_Image_updates.mono _ _ _ _ _
      | exact LeO.none _
      | refine LeO.ite ?_ ?_
      | refine LeO.bind ?_ (fun _ => ?_)
set_option maxHeartbeats 8000000 in
set_option maxRecDepth 100000 in
theorem impl_ImageUpdates.calls (k : Nat) (A0_0 : Option Addr) (c0_0 : Nat) (l0_0 : List Int) (A0_1 : Option Addr) (c0_1 : Nat) (l0_1 : List Int) (A0_2 : Option Addr) (c0_2 : Nat) (l0_2 : List (S103)) (A0_3 : Option Addr) (c0_3 : Nat) (l0_3 : List Int) (r1 : List (S77)) (r2 : Int) (w : World) (hr0_0 : Kd.C (Kd.int .i64) w A0_0 l0_0.length l0_0) (hc0_0 : l0_0.length ≤ c0_0) (hr0_1 : Kd.C (Kd.int .i64) w A0_1 l0_1.length l0_1) (hc0_1 : l0_1.length ≤ c0_1) (hr0_2 : Kd.C k103 w A0_2 l0_2.length l0_2) (hc0_2 : l0_2.length ≤ c0_2) (hr0_3 : Kd.C (Kd.int .i64) w A0_3 l0_3.length l0_3) (hc0_3 : l0_3.length ≤ c0_3) (h : impl_ImageUpdates.f k l0_0 l0_1 l0_2 l0_3 = some (r1, r2)) :
    Calls Tryz.prog 24 #[.agg #[.slice A0_0 l0_0.length c0_0, .slice A0_1 l0_1.length c0_1, .slice A0_2 l0_2.length c0_2, .slice A0_3 l0_3.length c0_3]] w fun e w' => ∃ v0_ : Value, e = .returned (.tuple #[v0_, .int .i64 r2]) ∧ Kd.R k77 77 w' w.heap.size (fun _ => True) v0_ r1 ∧ Below w.heap.size w w' := by
 have hu26 := Tryz.underlying26
 have Zc := zm hr0_0
 have Zd := zm hc0_0
 clear hr0_0 hc0_0
 have Ze := zm hr0_1
 have Zf := zm hc0_1
 clear hr0_1 hc0_1
 have Zg := zm hr0_2
 have Zh := zm hc0_2
 clear hr0_2 hc0_2
 have Zi := zm hr0_3
 have Zj := zm hc0_3
 clear hr0_3 hc0_3
 have HB := zm (Below.refl w.heap.size w)
 have H : ((impl_ImageOK.f k l0_0 l0_1 l0_2 l0_3).bind fun t805 => (if t805 = true then ((impl_Image_updates.f k l0_0 l0_1 l0_2 l0_3).bind fun t806 => (some (t806, 0))) else (some (([] : List (S77)), 1)))) = some (r1, r2) := h
 clear h
 replace H := Option.bind_eq_some_iff.mp H
 obtain ⟨t805, A20, H⟩ := H
 replace H : (if t805 = true then ((impl_Image_updates.f k l0_0 l0_1 l0_2 l0_3).bind fun t806 => (some (t806, 0))) else (some (([] : List (S77)), 1))) = some (r1, r2) := H
 have A2 := zm A20
 clear A20
 by_cases c3 : t805 = true
 ·subst c3
  have H1 : ((impl_Image_updates.f k l0_0 l0_1 l0_2 l0_3).bind fun t806 => (some (t806, 0))) = some (r1, r2) := by rw [if_pos rfl] at H; exact H
  clear H
  have H := H1
  clear H1
  replace H := Option.bind_eq_some_iff.mp H
  obtain ⟨t806, A40, H⟩ := H
  replace H : (some (t806, 0)) = some (r1, r2) := H
  have A4 := zm A40
  clear A40
  simp only [Option.some.injEq, Prod.mk.injEq] at H
  obtain ⟨rfl, rfl⟩ := H
  go_enter Tryz.func24, Tryz.ntmps24
  go_wp2_with (first | ((with_reducible refine gate_dst (N := 1) rfl ?_); refine box_event ?hg (N := 1) ?hd (cs := #[.slice A0_0 l0_0.length c0_0, .slice A0_1 l0_1.length c0_1, .slice A0_2 l0_2.length c0_2, .slice A0_3 l0_3.length c0_3]) (t := 26) ?hr ?_; (case hd => rfl); (case hg => rfl); (case hr => first | (go_simp; done) | (go_simp; rfl)); intro gb804 hg w5 hbox hb; have n0_ := zm (below_step (zg_1 HB.out) hb); have n1_ := zm (hbox); have n2_ := zm ((by rw [hg]; exact (below_size (zg_1 HB.out)) : w.heap.size ≤ gb804)); have n3_ := zm ((by rw [hg]; exact (below_size (zg_1 HB.out)) : w.heap.size ≤ gb804)); clear HB; have HB := n0_; have Za := n1_; have Zk := n2_; have Zb := n3_; clear n0_ n1_ n2_ n3_; clear hb hbox hg; have hcz6_0 : w5.cell? ⟨gb804, 0, none⟩ = some (.slice A0_0 l0_0.length c0_0) := (blk_cell Za.out 0).trans rfl; have hcz6_1 : w5.cell? ⟨gb804, 1, none⟩ = some (.slice A0_1 l0_1.length c0_1) := (blk_cell Za.out 1).trans rfl; have hcz6_2 : w5.cell? ⟨gb804, 2, none⟩ = some (.slice A0_2 l0_2.length c0_2) := (blk_cell Za.out 2).trans rfl; have hcz6_3 : w5.cell? ⟨gb804, 3, none⟩ = some (.slice A0_3 l0_3.length c0_3) := (blk_cell Za.out 3).trans rfl; have hfz6_0 := blk_frozen Za.out 0; have hfz6_1 := blk_frozen Za.out 1; have hfz6_2 := blk_frozen Za.out 2; have hfz6_3 := blk_frozen Za.out 3) | ((with_reducible refine gate_callee (f := 13) rfl ?_); refine goesL_ (some 5) rfl rfl Tryz.func13 (by kernel_rfl) rfl #[.agg #[.slice A0_0 l0_0.length c0_0, .slice A0_1 l0_1.length c0_1, .slice A0_2 l0_2.length c0_2, .slice A0_3 l0_3.length c0_3]] rfl zq ?_; (with_reducible refine (impl_ImageOK.calls k _ _ l0_0 _ _ l0_1 _ _ l0_2 _ _ l0_3 true _ ?side1 ?side2 ?side3 ?side4 ?side5 ?side6 ?side7 ?side8 A2.out).mono ?_); (case side1 => exact zC (Kd.C_below Zc.out HB.out)); (case side2 => exact Zd.out); (case side3 => exact zC (Kd.C_below Ze.out HB.out)); (case side4 => exact Zf.out); (case side5 => exact zC (Kd.C_below Zg.out HB.out)); (case side6 => exact Zh.out); (case side7 => exact zC (Kd.C_below Zi.out HB.out)); (case side8 => exact Zj.out); rintro e w7 ⟨rfl, hb⟩; refine ⟨_, rfl, ?_⟩; have n0_ := zm (blk_below (g := gb804) (o := .cells #[.slice A0_0 l0_0.length c0_0, .slice A0_1 l0_1.length c0_1, .slice A0_2 l0_2.length c0_2, .slice A0_3 l0_3.length c0_3] 26 (0, 0)) (zg_3 Za.out) hb); have n1_ := zm (below_step (zg_2 HB.out Zb.out) hb); clear Za; clear HB; have Za := n0_; have HB := n1_; clear n0_ n1_; (try clear hb); (try clear hb2); (try clear hk); (try clear hi); have hcz8_0 : w7.cell? ⟨gb804, 0, none⟩ = some (.slice A0_0 l0_0.length c0_0) := (blk_cell Za.out 0).trans rfl; have hcz8_1 : w7.cell? ⟨gb804, 1, none⟩ = some (.slice A0_1 l0_1.length c0_1) := (blk_cell Za.out 1).trans rfl; have hcz8_2 : w7.cell? ⟨gb804, 2, none⟩ = some (.slice A0_2 l0_2.length c0_2) := (blk_cell Za.out 2).trans rfl; have hcz8_3 : w7.cell? ⟨gb804, 3, none⟩ = some (.slice A0_3 l0_3.length c0_3) := (blk_cell Za.out 3).trans rfl; have hfz8_0 := blk_frozen Za.out 0; have hfz8_1 := blk_frozen Za.out 1; have hfz8_2 := blk_frozen Za.out 2; have hfz8_3 := blk_frozen Za.out 3) | ((with_reducible refine gate_callee (f := 54) rfl ?_); refine goesL_ (some 8) rfl rfl Tryz.func54 (by kernel_rfl) rfl #[.agg #[.slice A0_0 l0_0.length c0_0, .slice A0_1 l0_1.length c0_1, .slice A0_2 l0_2.length c0_2, .slice A0_3 l0_3.length c0_3]] rfl zq ?_; (with_reducible refine (impl_Image_updates.calls k _ _ l0_0 _ _ l0_1 _ _ l0_2 _ _ l0_3 t806 _ ?side1 ?side2 ?side3 ?side4 ?side5 ?side6 ?side7 ?side8 A4.out).mono ?_); (case side1 => exact zC (Kd.C_below Zc.out HB.out)); (case side2 => exact Zd.out); (case side3 => exact zC (Kd.C_below Ze.out HB.out)); (case side4 => exact Zf.out); (case side5 => exact zC (Kd.C_below Zg.out HB.out)); (case side6 => exact Zh.out); (case side7 => exact zC (Kd.C_below Zi.out HB.out)); (case side8 => exact Zj.out); rintro e w9 ⟨v807, rfl, ho0, hb⟩; refine ⟨_, rfl, ?_⟩; have n0_ := zm (Kd.R_lower ho0 (below_size (zg_2 HB.out Zb.out))); have n1_ := zm (blk_below (g := gb804) (o := .cells #[.slice A0_0 l0_0.length c0_0, .slice A0_1 l0_1.length c0_1, .slice A0_2 l0_2.length c0_2, .slice A0_3 l0_3.length c0_3] 26 (0, 0)) (zg_3 Za.out) hb); have n2_ := zm (below_step (zg_2 HB.out Zb.out) hb); clear Za; clear HB; have Zl := n0_; have Za := n1_; have HB := n2_; clear n0_ n1_ n2_; (try clear hb); (try clear hb2); (try clear hk); (try clear hi); (try clear ho0)))
  go_ret2
  exact ⟨_, by first | rfl | (simp [errW_none, errW_some] <;> rfl) | (simp [*, errW_none, errW_some] <;> rfl), by (with_reducible repeat (first | apply Kd.R_alloc | apply Kd.R_drewN | apply Kd.R_drew)); exact Zl.out, zg_2 HB.out Zb.out⟩
 ·replace c3 := Bool.eq_false_iff.mpr c3
  subst c3
  have H1 : (some (([] : List (S77)), 1)) = some (r1, r2) := by rw [if_neg (show ¬ (false = true) by decide)] at H; exact H
  clear H
  have H := H1
  clear H1
  simp only [Option.some.injEq, Prod.mk.injEq] at H
  obtain ⟨rfl, rfl⟩ := H
  go_enter Tryz.func24, Tryz.ntmps24
  go_wp2_with (first | ((with_reducible refine gate_dst (N := 1) rfl ?_); refine box_event ?hg (N := 1) ?hd (cs := #[.slice A0_0 l0_0.length c0_0, .slice A0_1 l0_1.length c0_1, .slice A0_2 l0_2.length c0_2, .slice A0_3 l0_3.length c0_3]) (t := 26) ?hr ?_; (case hd => rfl); (case hg => rfl); (case hr => first | (go_simp; done) | (go_simp; rfl)); intro gb804 hg w10 hbox hb; have n0_ := zm (below_step (zg_1 HB.out) hb); have n1_ := zm (hbox); have n2_ := zm ((by rw [hg]; exact (below_size (zg_1 HB.out)) : w.heap.size ≤ gb804)); have n3_ := zm ((by rw [hg]; exact (below_size (zg_1 HB.out)) : w.heap.size ≤ gb804)); clear HB; have HB := n0_; have Za := n1_; have Zk := n2_; have Zb := n3_; clear n0_ n1_ n2_ n3_; clear hb hbox hg; have hcz11_0 : w10.cell? ⟨gb804, 0, none⟩ = some (.slice A0_0 l0_0.length c0_0) := (blk_cell Za.out 0).trans rfl; have hcz11_1 : w10.cell? ⟨gb804, 1, none⟩ = some (.slice A0_1 l0_1.length c0_1) := (blk_cell Za.out 1).trans rfl; have hcz11_2 : w10.cell? ⟨gb804, 2, none⟩ = some (.slice A0_2 l0_2.length c0_2) := (blk_cell Za.out 2).trans rfl; have hcz11_3 : w10.cell? ⟨gb804, 3, none⟩ = some (.slice A0_3 l0_3.length c0_3) := (blk_cell Za.out 3).trans rfl; have hfz11_0 := blk_frozen Za.out 0; have hfz11_1 := blk_frozen Za.out 1; have hfz11_2 := blk_frozen Za.out 2; have hfz11_3 := blk_frozen Za.out 3) | ((with_reducible refine gate_callee (f := 13) rfl ?_); refine goesL_ (some 5) rfl rfl Tryz.func13 (by kernel_rfl) rfl #[.agg #[.slice A0_0 l0_0.length c0_0, .slice A0_1 l0_1.length c0_1, .slice A0_2 l0_2.length c0_2, .slice A0_3 l0_3.length c0_3]] rfl zq ?_; (with_reducible refine (impl_ImageOK.calls k _ _ l0_0 _ _ l0_1 _ _ l0_2 _ _ l0_3 false _ ?side1 ?side2 ?side3 ?side4 ?side5 ?side6 ?side7 ?side8 A2.out).mono ?_); (case side1 => exact zC (Kd.C_below Zc.out HB.out)); (case side2 => exact Zd.out); (case side3 => exact zC (Kd.C_below Ze.out HB.out)); (case side4 => exact Zf.out); (case side5 => exact zC (Kd.C_below Zg.out HB.out)); (case side6 => exact Zh.out); (case side7 => exact zC (Kd.C_below Zi.out HB.out)); (case side8 => exact Zj.out); rintro e w12 ⟨rfl, hb⟩; refine ⟨_, rfl, ?_⟩; have n0_ := zm (blk_below (g := gb804) (o := .cells #[.slice A0_0 l0_0.length c0_0, .slice A0_1 l0_1.length c0_1, .slice A0_2 l0_2.length c0_2, .slice A0_3 l0_3.length c0_3] 26 (0, 0)) (zg_3 Za.out) hb); have n1_ := zm (below_step (zg_2 HB.out Zb.out) hb); clear Za; clear HB; have Za := n0_; have HB := n1_; clear n0_ n1_; (try clear hb); (try clear hb2); (try clear hk); (try clear hi)))
  go_ret2
  exact ⟨_, by first | rfl | (simp [errW_none, errW_some] <;> rfl) | (simp [*, errW_none, errW_some] <;> rfl), by first | exact Kd.R_nil _ _ _ _ _ | exact Kd.N_nil _ _ _ _ _ | exact Kd.V_nil _ _ _ _ _ | exact Kd.Q_nil _ _ _ _ _ | exact Kd.S_nil _ _ _ _ _, zg_2 HB.out Zb.out⟩
/-! ### laws_eqIntS: function 45 -/
def laws_eqIntS.l0 : Nat → List Int → List Int → Int → Option (Bool)
  | 0, _, _, _ => none
  | k + 1, x0, x1, x5 => if x5 < (x0.length : Int) then (if 0 ≤ x5 then (if x5 < (x1.length : Int) then (if (rd x0 x5) = (rd x1 x5) then (laws_eqIntS.l0 k x0 x1 (wrap64 (x5 + 1))) else (some false)) else (none)) else (none)) else (some true)
def laws_eqIntS.f (k : Nat) (l0 : List Int) (l1 : List Int) : Option (Bool) := if (l0.length : Int) = (l1.length : Int) then (laws_eqIntS.l0 k l0 l1 0) else (some false)
theorem laws_eqIntS.mono_l : ∀ k, (∀ y0 y1 y2, LeO (laws_eqIntS.l0 k y0 y1 y2) (laws_eqIntS.l0 (k + 1) y0 y1 y2))
  | 0 => fun _ _ _ r h => by simp [laws_eqIntS.l0] at h
  | k + 1 => by
    have ih0 := laws_eqIntS.mono_l k
    · intro y0 y1 y2
      unfold laws_eqIntS.l0
      repeat' first
      | (with_reducible exact ih0 _ _ _)
      | (with_reducible exact LeO.refl _)
      | (with_reducible exact LeO.none _)
      | (with_reducible refine LeO.ite ?_ ?_)
      | (with_reducible refine LeO.bind ?_ (fun _ => ?_))
      | exact ih0 _ _ _
      | exact LeO.none _
      | refine LeO.ite ?_ ?_
      | refine LeO.bind ?_ (fun _ => ?_)
theorem laws_eqIntS.mono : ∀ a0 a1 k, LeO (laws_eqIntS.f k a0 a1) (laws_eqIntS.f (k + 1) a0 a1) := by
  intro a0 a1 k
  have ih0 := laws_eqIntS.mono_l k
  unfold laws_eqIntS.f
  repeat' first
      | (with_reducible exact ih0 _ _ _)
      | (with_reducible exact LeO.refl _)
      | (with_reducible exact LeO.none _)
      | (with_reducible refine LeO.ite ?_ ?_)
      | (with_reducible refine LeO.bind ?_ (fun _ => ?_))
      | exact ih0 _ _ _
      | exact LeO.none _
      | refine LeO.ite ?_ ?_
      | refine LeO.bind ?_ (fun _ => ?_)
set_option maxHeartbeats 8000000 in
set_option maxRecDepth 100000 in
theorem laws_eqIntS.calls (k : Nat) (A0 : Option Addr) (c0 : Nat) (l0 : List Int) (A1 : Option Addr) (c1 : Nat) (l1 : List Int) (r : Bool) (w : World) (hr0 : Kd.C (Kd.int .i64) w A0 l0.length l0) (hc0 : l0.length ≤ c0) (hr1 : Kd.C (Kd.int .i64) w A1 l1.length l1) (hc1 : l1.length ≤ c1) (h : laws_eqIntS.f k l0 l1 = some r) :
    Calls Tryz.prog 45 #[.slice A0 l0.length c0, .slice A1 l1.length c1] w fun e w' => e = .returned (.bool r) ∧ Drawn0 w w' := by
 have HR0 := zm hr0
 have HC0 := zm hc0
 clear hr0 hc0
 have HR1 := zm hr1
 have HC1 := zm hc1
 clear hr1 hc1
 have H : (if (l0.length : Int) = (l1.length : Int) then (laws_eqIntS.l0 k l0 l1 0) else (some false)) = some r := h
 clear h
 by_cases c3 : (l0.length : Int) = (l1.length : Int)
 ·rw [if_pos c3] at H
  have c3b0 : ((l0.length : Int) == (l1.length : Int)) = true := beq_iff_eq.mpr c3
  have c3b1 : ((l0.length : Int) != (l1.length : Int)) = false := bne_eq_false_iff_eq.mpr c3
  have c3b2 : (l0.length == l1.length) = true := by first | simpa using c3 | (simp at c3 ⊢; omega)
  clear c3
  have H' := zm H
  clear H
  go_enter Tryz.func45, Tryz.ntmps45
  go_wp2
  repeat (go_quiet (fail); try go_wp2)
  go_loopg [5] k (fun kq v5 w' => ∃ (x5_1 : Int), v5 = .int .i64 x5_1 ∧ Aside0 (laws_eqIntS.l0 kq l0 l1 x5_1 = some r) ∧ Aside0 (kq ≤ k) ∧ Drawn0 w w')
  case atStart => exact ⟨(0), zr, H', ⟨Nat.le_refl _⟩, by repeat (first | exact Drawn0.refl _ | apply Drawn0.step)⟩
  case round =>
   clear H'
   try clear c1
   try clear p2
   try clear c3
   try clear c3b0
   try clear c3b1
   try clear c3b2
   obtain ⟨x5_1, rfl, HA, HK1, ⟨m1, rfl⟩⟩ := hrel
   cases gk with
   | zero => exact absurd HA.out (by simp [laws_eqIntS.l0])
   | succ k1 =>
    have H := HA.out
    clear HA
    simp only [laws_eqIntS.l0] at H
    by_cases c4 : x5_1 < (l0.length : Int)
    ·rw [if_pos c4] at H
     have c4b0 : decide (x5_1 < (l0.length : Int)) = true := decide_eq_true c4
     clear c4
     by_cases c5 : 0 ≤ x5_1
     ·rw [if_pos c5] at H
      have c5b0 : decide (0 ≤ x5_1) = true := decide_eq_true c5
      clear c5
      by_cases c6 : x5_1 < (l1.length : Int)
      ·rw [if_pos c6] at H
       have c6b0 : decide (x5_1 < (l1.length : Int)) = true := decide_eq_true c6
       clear c6
       by_cases c7 : (rd l0 x5_1) = (rd l1 x5_1)
       ·rw [if_pos c7] at H
        have c7b0 : ((rd l0 x5_1) == (rd l1 x5_1)) = true := beq_iff_eq.mpr c7
        have c7b1 : ((rd l0 x5_1) != (rd l1 x5_1)) = false := bne_eq_false_iff_eq.mpr c7
        clear c7
        have H' := zm H
        clear H
        have p568 : 0 ≤ (x5_1 : Int) := zd
        have q568 : x5_1 < (l0.length : Int) := zd
        obtain ⟨ad568, e568, hx568_0⟩ := Kd.at_int HR0.out x5_1 p568 q568
        cases e568
        replace p568 := eq_true p568
        replace q568 := eq_true q568
        have p569 : 0 ≤ (x5_1 : Int) := zd
        have q569 : x5_1 < (l1.length : Int) := zd
        obtain ⟨ad569, e569, hx569_0⟩ := Kd.at_int HR1.out x5_1 p569 q569
        cases e569
        replace p569 := eq_true p569
        replace q569 := eq_true q569
        go_wp2
        repeat (go_quiet (fail); try go_wp2)
        go_roundg k1
        case measure => have := HK1.out; omega
        case rel => exact ⟨(wrap64 (x5_1 + 1)), zr, H', ⟨by have := HK1.out; omega⟩, by repeat (first | exact Drawn0.refl _ | apply Drawn0.step)⟩
       ·rw [if_neg c7] at H
        have c7b0 : ((rd l0 x5_1) == (rd l1 x5_1)) = false := beq_eq_false_iff_ne.mpr c7
        have c7b1 : ((rd l0 x5_1) != (rd l1 x5_1)) = true := bne_iff_ne.mpr c7
        obtain rfl := Option.some.inj H
        have p568 : 0 ≤ (x5_1 : Int) := zd
        have q568 : x5_1 < (l0.length : Int) := zd
        obtain ⟨ad568, e568, hx568_0⟩ := Kd.at_int HR0.out x5_1 p568 q568
        cases e568
        replace p568 := eq_true p568
        replace q568 := eq_true q568
        have p569 : 0 ≤ (x5_1 : Int) := zd
        have q569 : x5_1 < (l1.length : Int) := zd
        obtain ⟨ad569, e569, hx569_0⟩ := Kd.at_int HR1.out x5_1 p569 q569
        cases e569
        replace p569 := eq_true p569
        replace q569 := eq_true q569
        go_wp2
        repeat (go_quiet (fail); try go_wp2)
        go_ret
        exact ⟨zr, by repeat (first | exact Drawn0.refl _ | apply Drawn0.step)⟩
      ·rw [if_neg c6] at H
       exact absurd H (by simp)
     ·rw [if_neg c5] at H
      exact absurd H (by simp)
    ·rw [if_neg c4] at H
     have c4b0 : decide (x5_1 < (l0.length : Int)) = false := decide_eq_false c4
     clear c4
     obtain rfl := Option.some.inj H
     go_wp2
     repeat (go_quiet (fail); try go_wp2)
     go_ret
     exact ⟨zr, by repeat (first | exact Drawn0.refl _ | apply Drawn0.step)⟩
 ·rw [if_neg c3] at H
  have c3b0 : ((l0.length : Int) == (l1.length : Int)) = false := beq_eq_false_iff_ne.mpr c3
  have c3b1 : ((l0.length : Int) != (l1.length : Int)) = true := bne_iff_ne.mpr c3
  have c3b2 : (l0.length == l1.length) = false := by first | simpa using c3 | (simp at c3 ⊢; omega)
  obtain rfl := Option.some.inj H
  go_enter Tryz.func45, Tryz.ntmps45
  go_wp2
  repeat (go_quiet (fail); try go_wp2)
  go_ret
  exact ⟨zr, by repeat (first | exact Drawn0.refl _ | apply Drawn0.step)⟩
/-! ### laws_eqSnap: function 92 -/
def laws_eqSnap.f (k : Nat) (a0_0 : ByteArray) (l0_1 : List Int) (a1_0 : ByteArray) (l1_1 : List Int) : Option (Bool) := if a0_0.toList = a1_0.toList then ((laws_eqIntS.f k l0_1 l1_1).bind fun t582 => (if t582 = true then (some true) else (some false))) else (some false)
theorem laws_eqSnap.mono : ∀ a0 a1 a2 a3 k, LeO (laws_eqSnap.f k a0 a1 a2 a3) (laws_eqSnap.f (k + 1) a0 a1 a2 a3) := by
  intro a0 a1 a2 a3 k
  unfold laws_eqSnap.f
  repeat' first
      | (with_reducible exact laws_eqIntS.mono _ _ _)
      | (with_reducible exact LeO.refl _)
      | (with_reducible exact LeO.none _)
      | (with_reducible refine LeO.ite ?_ ?_)
      | (with_reducible refine LeO.bind ?_ (fun _ => ?_))
      | exact laws_eqIntS.mono _ _ _
      | exact LeO.none _
      | refine LeO.ite ?_ ?_
      | refine LeO.bind ?_ (fun _ => ?_)
set_option maxHeartbeats 8000000 in
set_option maxRecDepth 100000 in
theorem laws_eqSnap.calls (k : Nat) (a0_0 : ByteArray) (A0_1 : Option Addr) (c0_1 : Nat) (l0_1 : List Int) (a1_0 : ByteArray) (A1_1 : Option Addr) (c1_1 : Nat) (l1_1 : List Int) (r : Bool) (w : World) (hr0_1 : Kd.C (Kd.int .i64) w A0_1 l0_1.length l0_1) (hc0_1 : l0_1.length ≤ c0_1) (hr1_1 : Kd.C (Kd.int .i64) w A1_1 l1_1.length l1_1) (hc1_1 : l1_1.length ≤ c1_1) (h : laws_eqSnap.f k a0_0 l0_1 a1_0 l1_1 = some r) :
    Calls Tryz.prog 92 #[.agg #[.string a0_0, .slice A0_1 l0_1.length c0_1], .agg #[.string a1_0, .slice A1_1 l1_1.length c1_1]] w fun e w' => e = .returned (.bool r) ∧ Below w.heap.size w w' := by
 have hu103 := Tryz.underlying103
 have Zg := zm hr0_1
 have Zh := zm hc0_1
 clear hr0_1 hc0_1
 have Zi := zm hr1_1
 have Zj := zm hc1_1
 clear hr1_1 hc1_1
 have HB := zm (Below.refl w.heap.size w)
 have H : (if a0_0.toList = a1_0.toList then ((laws_eqIntS.f k l0_1 l1_1).bind fun t582 => (if t582 = true then (some true) else (some false))) else (some false)) = some r := h
 clear h
 by_cases c3 : a0_0.toList = a1_0.toList
 ·rw [if_pos c3] at H
  have c3b0 : (a0_0.toList == a1_0.toList) = true := beq_iff_eq.mpr c3
  have c3b1 : (a0_0.toList != a1_0.toList) = false := bne_eq_false_iff_eq.mpr c3
  clear c3
  replace H := Option.bind_eq_some_iff.mp H
  obtain ⟨t582, A40, H⟩ := H
  replace H : (if t582 = true then (some true) else (some false)) = some r := H
  have A4 := zm A40
  clear A40
  by_cases c5 : t582 = true
  ·subst c5
   have H1 : (some true) = some r := by rw [if_pos rfl] at H; exact H
   clear H
   have H := H1
   clear H1
   obtain rfl := Option.some.inj H
   go_enter Tryz.func92, Tryz.ntmps92
   go_wp2_with (first | ((with_reducible refine gate_dst (N := 2) rfl ?_); refine box_event ?hg (N := 2) ?hd (cs := #[.string a0_0, .slice A0_1 l0_1.length c0_1]) (t := 103) ?hr ?_; (case hd => rfl); (case hg => rfl); (case hr => first | (go_simp; done) | (go_simp; rfl)); intro gb580 hg w6 hbox hb; have n0_ := zm (below_step (zg_1 HB.out) hb); have n1_ := zm (hbox); have n2_ := zm ((by rw [hg]; exact (below_size (zg_1 HB.out)) : w.heap.size ≤ gb580)); have n3_ := zm ((by rw [hg]; exact (below_size (zg_1 HB.out)) : w.heap.size ≤ gb580)); clear HB; have HB := n0_; have Za := n1_; have Zk := n2_; have Zb := n3_; clear n0_ n1_ n2_ n3_; clear hb hbox hg) | ((with_reducible refine gate_dst (N := 3) rfl ?_); refine box_event ?hg (N := 3) ?hd (cs := #[.string a1_0, .slice A1_1 l1_1.length c1_1]) (t := 103) ?hr ?_; (case hd => rfl); (case hg => rfl); (case hr => first | (go_simp; done) | (go_simp; rfl)); intro gb581 hg w7 hbox hb; have n0_ := zm (blk_below (g := gb580) (o := .cells #[.string a0_0, .slice A0_1 l0_1.length c0_1] 103 (0, 0)) (zg_3 Za.out) hb); have n1_ := zm (below_step (zg_2 HB.out Zb.out) hb); have n2_ := zm (hbox); have n3_ := zm ((by rw [hg]; exact (below_size (zg_2 HB.out Zb.out)) : w.heap.size ≤ gb581)); have n4_ := zm ((by rw [hg]; exact (below_size (zg_2 HB.out Zb.out)) : w.heap.size ≤ gb581)); have n5_ := zm ((by rw [hg]; exact Nat.ne_of_lt (blk_lt (g := gb580) (o := .cells #[.string a0_0, .slice A0_1 l0_1.length c0_1] 103 (0, 0)) (zg_3 Za.out)) : gb580 ≠ gb581)); have n6_ := zm ((by rw [hg]; exact Nat.ne_of_gt (blk_lt (g := gb580) (o := .cells #[.string a0_0, .slice A0_1 l0_1.length c0_1] 103 (0, 0)) (zg_3 Za.out)) : gb581 ≠ gb580)); clear Za; clear HB; have Za := n0_; have HB := n1_; have Zc := n2_; have Zl := n3_; have Zf := n4_; have Zd := n5_; have Ze := n6_; clear n0_ n1_ n2_ n3_ n4_ n5_ n6_; clear hb hbox hg; have hnb8 := Zd.out; have hnc8 := Ze.out; have hcz9_0 : w7.cell? ⟨gb580, 0, none⟩ = some (.string a0_0) := (blk_cell Za.out 0).trans rfl; have hcz9_1 : w7.cell? ⟨gb580, 1, none⟩ = some (.slice A0_1 l0_1.length c0_1) := (blk_cell Za.out 1).trans rfl; have hfz9_0 := blk_frozen Za.out 0; have hfz9_1 := blk_frozen Za.out 1; have hcz10_0 : w7.cell? ⟨gb581, 0, none⟩ = some (.string a1_0) := (blk_cell Zc.out 0).trans rfl; have hcz10_1 : w7.cell? ⟨gb581, 1, none⟩ = some (.slice A1_1 l1_1.length c1_1) := (blk_cell Zc.out 1).trans rfl; have hfz10_0 := blk_frozen Zc.out 0; have hfz10_1 := blk_frozen Zc.out 1) | ((with_reducible refine gate_callee (f := 45) rfl ?_); refine goesL_ (some 14) rfl rfl Tryz.func45 (by kernel_rfl) rfl #[.slice A0_1 l0_1.length c0_1, .slice A1_1 l1_1.length c1_1] rfl zq ?_; (with_reducible refine (laws_eqIntS.calls k _ _ l0_1 _ _ l1_1 true _ ?side1 ?side2 ?side3 ?side4 A4.out).mono ?_); (case side1 => exact zC (Kd.C_below Zg.out HB.out)); (case side2 => exact Zh.out); (case side3 => exact zC (Kd.C_below Zi.out HB.out)); (case side4 => exact Zj.out); rintro e w' ⟨rfl, ⟨nd, rfl⟩⟩; refine ⟨_, rfl, ?_⟩))
   go_ret
   exact ⟨by first | rfl | (simp [errW_none, errW_some] <;> rfl) | (simp [*, errW_none, errW_some] <;> rfl), zg_5 HB.out Zb.out Zf.out⟩
  ·replace c5 := Bool.eq_false_iff.mpr c5
   subst c5
   have H1 : (some false) = some r := by rw [if_neg (show ¬ (false = true) by decide)] at H; exact H
   clear H
   have H := H1
   clear H1
   obtain rfl := Option.some.inj H
   go_enter Tryz.func92, Tryz.ntmps92
   go_wp2_with (first | ((with_reducible refine gate_dst (N := 2) rfl ?_); refine box_event ?hg (N := 2) ?hd (cs := #[.string a0_0, .slice A0_1 l0_1.length c0_1]) (t := 103) ?hr ?_; (case hd => rfl); (case hg => rfl); (case hr => first | (go_simp; done) | (go_simp; rfl)); intro gb580 hg w11 hbox hb; have n0_ := zm (below_step (zg_1 HB.out) hb); have n1_ := zm (hbox); have n2_ := zm ((by rw [hg]; exact (below_size (zg_1 HB.out)) : w.heap.size ≤ gb580)); have n3_ := zm ((by rw [hg]; exact (below_size (zg_1 HB.out)) : w.heap.size ≤ gb580)); clear HB; have HB := n0_; have Za := n1_; have Zk := n2_; have Zb := n3_; clear n0_ n1_ n2_ n3_; clear hb hbox hg) | ((with_reducible refine gate_dst (N := 3) rfl ?_); refine box_event ?hg (N := 3) ?hd (cs := #[.string a1_0, .slice A1_1 l1_1.length c1_1]) (t := 103) ?hr ?_; (case hd => rfl); (case hg => rfl); (case hr => first | (go_simp; done) | (go_simp; rfl)); intro gb581 hg w12 hbox hb; have n0_ := zm (blk_below (g := gb580) (o := .cells #[.string a0_0, .slice A0_1 l0_1.length c0_1] 103 (0, 0)) (zg_3 Za.out) hb); have n1_ := zm (below_step (zg_2 HB.out Zb.out) hb); have n2_ := zm (hbox); have n3_ := zm ((by rw [hg]; exact (below_size (zg_2 HB.out Zb.out)) : w.heap.size ≤ gb581)); have n4_ := zm ((by rw [hg]; exact (below_size (zg_2 HB.out Zb.out)) : w.heap.size ≤ gb581)); have n5_ := zm ((by rw [hg]; exact Nat.ne_of_lt (blk_lt (g := gb580) (o := .cells #[.string a0_0, .slice A0_1 l0_1.length c0_1] 103 (0, 0)) (zg_3 Za.out)) : gb580 ≠ gb581)); have n6_ := zm ((by rw [hg]; exact Nat.ne_of_gt (blk_lt (g := gb580) (o := .cells #[.string a0_0, .slice A0_1 l0_1.length c0_1] 103 (0, 0)) (zg_3 Za.out)) : gb581 ≠ gb580)); clear Za; clear HB; have Za := n0_; have HB := n1_; have Zc := n2_; have Zl := n3_; have Zf := n4_; have Zd := n5_; have Ze := n6_; clear n0_ n1_ n2_ n3_ n4_ n5_ n6_; clear hb hbox hg; have hnb13 := Zd.out; have hnc13 := Ze.out; have hcz14_0 : w12.cell? ⟨gb580, 0, none⟩ = some (.string a0_0) := (blk_cell Za.out 0).trans rfl; have hcz14_1 : w12.cell? ⟨gb580, 1, none⟩ = some (.slice A0_1 l0_1.length c0_1) := (blk_cell Za.out 1).trans rfl; have hfz14_0 := blk_frozen Za.out 0; have hfz14_1 := blk_frozen Za.out 1; have hcz15_0 : w12.cell? ⟨gb581, 0, none⟩ = some (.string a1_0) := (blk_cell Zc.out 0).trans rfl; have hcz15_1 : w12.cell? ⟨gb581, 1, none⟩ = some (.slice A1_1 l1_1.length c1_1) := (blk_cell Zc.out 1).trans rfl; have hfz15_0 := blk_frozen Zc.out 0; have hfz15_1 := blk_frozen Zc.out 1) | ((with_reducible refine gate_callee (f := 45) rfl ?_); refine goesL_ (some 14) rfl rfl Tryz.func45 (by kernel_rfl) rfl #[.slice A0_1 l0_1.length c0_1, .slice A1_1 l1_1.length c1_1] rfl zq ?_; (with_reducible refine (laws_eqIntS.calls k _ _ l0_1 _ _ l1_1 false _ ?side1 ?side2 ?side3 ?side4 A4.out).mono ?_); (case side1 => exact zC (Kd.C_below Zg.out HB.out)); (case side2 => exact Zh.out); (case side3 => exact zC (Kd.C_below Zi.out HB.out)); (case side4 => exact Zj.out); rintro e w' ⟨rfl, ⟨nd, rfl⟩⟩; refine ⟨_, rfl, ?_⟩))
   go_ret
   exact ⟨by first | rfl | (simp [errW_none, errW_some] <;> rfl) | (simp [*, errW_none, errW_some] <;> rfl), zg_5 HB.out Zb.out Zf.out⟩
 ·rw [if_neg c3] at H
  have c3b0 : (a0_0.toList == a1_0.toList) = false := beq_eq_false_iff_ne.mpr c3
  have c3b1 : (a0_0.toList != a1_0.toList) = true := bne_iff_ne.mpr c3
  obtain rfl := Option.some.inj H
  go_enter Tryz.func92, Tryz.ntmps92
  go_wp2_with (first | ((with_reducible refine gate_dst (N := 2) rfl ?_); refine box_event ?hg (N := 2) ?hd (cs := #[.string a0_0, .slice A0_1 l0_1.length c0_1]) (t := 103) ?hr ?_; (case hd => rfl); (case hg => rfl); (case hr => first | (go_simp; done) | (go_simp; rfl)); intro gb580 hg w16 hbox hb; have n0_ := zm (below_step (zg_1 HB.out) hb); have n1_ := zm (hbox); have n2_ := zm ((by rw [hg]; exact (below_size (zg_1 HB.out)) : w.heap.size ≤ gb580)); have n3_ := zm ((by rw [hg]; exact (below_size (zg_1 HB.out)) : w.heap.size ≤ gb580)); clear HB; have HB := n0_; have Za := n1_; have Zk := n2_; have Zb := n3_; clear n0_ n1_ n2_ n3_; clear hb hbox hg) | ((with_reducible refine gate_dst (N := 3) rfl ?_); refine box_event ?hg (N := 3) ?hd (cs := #[.string a1_0, .slice A1_1 l1_1.length c1_1]) (t := 103) ?hr ?_; (case hd => rfl); (case hg => rfl); (case hr => first | (go_simp; done) | (go_simp; rfl)); intro gb581 hg w17 hbox hb; have n0_ := zm (blk_below (g := gb580) (o := .cells #[.string a0_0, .slice A0_1 l0_1.length c0_1] 103 (0, 0)) (zg_3 Za.out) hb); have n1_ := zm (below_step (zg_2 HB.out Zb.out) hb); have n2_ := zm (hbox); have n3_ := zm ((by rw [hg]; exact (below_size (zg_2 HB.out Zb.out)) : w.heap.size ≤ gb581)); have n4_ := zm ((by rw [hg]; exact (below_size (zg_2 HB.out Zb.out)) : w.heap.size ≤ gb581)); have n5_ := zm ((by rw [hg]; exact Nat.ne_of_lt (blk_lt (g := gb580) (o := .cells #[.string a0_0, .slice A0_1 l0_1.length c0_1] 103 (0, 0)) (zg_3 Za.out)) : gb580 ≠ gb581)); have n6_ := zm ((by rw [hg]; exact Nat.ne_of_gt (blk_lt (g := gb580) (o := .cells #[.string a0_0, .slice A0_1 l0_1.length c0_1] 103 (0, 0)) (zg_3 Za.out)) : gb581 ≠ gb580)); clear Za; clear HB; have Za := n0_; have HB := n1_; have Zc := n2_; have Zl := n3_; have Zf := n4_; have Zd := n5_; have Ze := n6_; clear n0_ n1_ n2_ n3_ n4_ n5_ n6_; clear hb hbox hg; have hnb18 := Zd.out; have hnc18 := Ze.out; have hcz19_0 : w17.cell? ⟨gb580, 0, none⟩ = some (.string a0_0) := (blk_cell Za.out 0).trans rfl; have hcz19_1 : w17.cell? ⟨gb580, 1, none⟩ = some (.slice A0_1 l0_1.length c0_1) := (blk_cell Za.out 1).trans rfl; have hfz19_0 := blk_frozen Za.out 0; have hfz19_1 := blk_frozen Za.out 1; have hcz20_0 : w17.cell? ⟨gb581, 0, none⟩ = some (.string a1_0) := (blk_cell Zc.out 0).trans rfl; have hcz20_1 : w17.cell? ⟨gb581, 1, none⟩ = some (.slice A1_1 l1_1.length c1_1) := (blk_cell Zc.out 1).trans rfl; have hfz20_0 := blk_frozen Zc.out 0; have hfz20_1 := blk_frozen Zc.out 1))
  go_ret
  exact ⟨by first | rfl | (simp [errW_none, errW_some] <;> rfl) | (simp [*, errW_none, errW_some] <;> rfl), zg_5 HB.out Zb.out Zf.out⟩
/-! ### laws_eqSnapS: function 47 -/
def laws_eqSnapS.l0 : Nat → List (S103) → List (S103) → Int → Option (Bool)
  | 0, _, _, _ => none
  | k + 1, x0, x1, x5 => if x5 < (x0.length : Int) then (if 0 ≤ x5 then (if x5 < (x1.length : Int) then ((laws_eqSnap.f k ((rd_T103 x0 x5).f0) ((rd_T103 x0 x5).f1) ((rd_T103 x1 x5).f0) ((rd_T103 x1 x5).f1)).bind fun t585 => (if t585 = true then (laws_eqSnapS.l0 k x0 x1 (wrap64 (x5 + 1))) else (some false))) else (none)) else (none)) else (some true)
def laws_eqSnapS.f (k : Nat) (l0 : List (S103)) (l1 : List (S103)) : Option (Bool) := if (l0.length : Int) = (l1.length : Int) then (laws_eqSnapS.l0 k l0 l1 0) else (some false)
theorem laws_eqSnapS.mono_l : ∀ k, (∀ y0 y1 y2, LeO (laws_eqSnapS.l0 k y0 y1 y2) (laws_eqSnapS.l0 (k + 1) y0 y1 y2))
  | 0 => fun _ _ _ r h => by simp [laws_eqSnapS.l0] at h
  | k + 1 => by
    have ih0 := laws_eqSnapS.mono_l k
    · intro y0 y1 y2
      unfold laws_eqSnapS.l0
      repeat' first
      | (with_reducible exact ih0 _ _ _)
      | (with_reducible exact laws_eqSnap.mono _ _ _ _ _)
      | (with_reducible exact LeO.refl _)
      | (with_reducible exact LeO.none _)
      | (with_reducible refine LeO.ite ?_ ?_)
      | (with_reducible refine LeO.bind ?_ (fun _ => ?_))
      | exact ih0 _ _ _
      | exact laws_eqSnap.mono _ _ _ _ _
      | exact LeO.none _
      | refine LeO.ite ?_ ?_
      | refine LeO.bind ?_ (fun _ => ?_)
theorem laws_eqSnapS.mono : ∀ a0 a1 k, LeO (laws_eqSnapS.f k a0 a1) (laws_eqSnapS.f (k + 1) a0 a1) := by
  intro a0 a1 k
  have ih0 := laws_eqSnapS.mono_l k
  unfold laws_eqSnapS.f
  repeat' first
      | (with_reducible exact ih0 _ _ _)
      | (with_reducible exact laws_eqSnap.mono _ _ _ _ _)
      | (with_reducible exact LeO.refl _)
      | (with_reducible exact LeO.none _)
      | (with_reducible refine LeO.ite ?_ ?_)
      | (with_reducible refine LeO.bind ?_ (fun _ => ?_))
      | exact ih0 _ _ _
      | exact laws_eqSnap.mono _ _ _ _ _
      | exact LeO.none _
      | refine LeO.ite ?_ ?_
      | refine LeO.bind ?_ (fun _ => ?_)
def laws_eqSnapS.T6 : Bool × List (List Nat × List Nat) := (true, [([], []), ([], []), ([0, 1], [0, 1]), ([2], [2]), ([], []), ([], []), ([4, 5], [4, 5]), ([6], [6]), ([3, 7], [3, 7]), ([8], [8])])
def laws_eqSnapS.B6 : List Nat := [0, 0, 3, 7, 0, 0, 48, 112, 255, 511]
theorem laws_eqSnapS.tab6 : rtab .any (opsOf Tryz.f47 6) = laws_eqSnapS.T6 := by kernel_rfl
theorem laws_eqSnapS.bits6 : waitsOk laws_eqSnapS.T6.2 laws_eqSnapS.B6 = true := by kernel_rfl
set_option maxHeartbeats 8000000 in
set_option maxRecDepth 100000 in
theorem laws_eqSnapS.calls (k : Nat) (A0 : Option Addr) (c0 : Nat) (l0 : List (S103)) (A1 : Option Addr) (c1 : Nat) (l1 : List (S103)) (r : Bool) (w : World) (hr0 : Kd.C k103 w A0 l0.length l0) (hc0 : l0.length ≤ c0) (hr1 : Kd.C k103 w A1 l1.length l1) (hc1 : l1.length ≤ c1) (h : laws_eqSnapS.f k l0 l1 = some r) :
    Calls Tryz.prog 47 #[.slice A0 l0.length c0, .slice A1 l1.length c1] w fun e w' => e = .returned (.bool r) ∧ Below w.heap.size w w' := by
 have hu103 := Tryz.underlying103
 have HR0 := zm hr0
 have HC0 := zm hc0
 clear hr0 hc0
 have HR1 := zm hr1
 have HC1 := zm hc1
 clear hr1 hc1
 have HB := zm (Below.refl w.heap.size w)
 have H : (if (l0.length : Int) = (l1.length : Int) then (laws_eqSnapS.l0 k l0 l1 0) else (some false)) = some r := h
 clear h
 by_cases c3 : (l0.length : Int) = (l1.length : Int)
 ·rw [if_pos c3] at H
  have c3b0 : ((l0.length : Int) == (l1.length : Int)) = true := beq_iff_eq.mpr c3
  have c3b1 : ((l0.length : Int) != (l1.length : Int)) = false := bne_eq_false_iff_eq.mpr c3
  have c3b2 : (l0.length == l1.length) = true := by first | simpa using c3 | (simp at c3 ⊢; omega)
  clear c3
  have H' := zm H
  clear H
  go_enter Tryz.func47, Tryz.ntmps47
  go_wp2
  go_loopg [5] k (fun kq v5 w' => ∃ (x5_1 : Int), v5 = .int .i64 x5_1 ∧ Aside0 (laws_eqSnapS.l0 kq l0 l1 x5_1 = some r) ∧ Aside0 (kq ≤ k) ∧ Aside0 (Below w.heap.size w w'))
  case atStart => exact ⟨(0), zr, H', ⟨Nat.le_refl _⟩, ⟨zg_1 HB.out⟩⟩
  case round =>
   clear H'
   try clear c1
   try clear p2
   try clear c3
   try clear c3b0
   try clear c3b1
   try clear c3b2
   obtain ⟨x5_1, rfl, HA, HK1, HB⟩ := hrel
   cases gk with
   | zero => exact absurd HA.out (by simp [laws_eqSnapS.l0])
   | succ k1 =>
    have H := HA.out
    clear HA
    simp only [laws_eqSnapS.l0] at H
    by_cases c4 : x5_1 < (l0.length : Int)
    ·rw [if_pos c4] at H
     have c4b0 : decide (x5_1 < (l0.length : Int)) = true := decide_eq_true c4
     clear c4
     by_cases c5 : 0 ≤ x5_1
     ·rw [if_pos c5] at H
      have c5b0 : decide (0 ≤ x5_1) = true := decide_eq_true c5
      clear c5
      by_cases c6 : x5_1 < (l1.length : Int)
      ·rw [if_pos c6] at H
       have c6b0 : decide (x5_1 < (l1.length : Int)) = true := decide_eq_true c6
       clear c6
       replace H := Option.bind_eq_some_iff.mp H
       obtain ⟨t585, A70, H⟩ := H
       replace H : (if t585 = true then (laws_eqSnapS.l0 k1 l0 l1 (wrap64 (x5_1 + 1))) else (some false)) = some r := H
       have A7 := zm A70
       clear A70
       by_cases c8 : t585 = true
       ·subst c8
        have H1 : (laws_eqSnapS.l0 k1 l0 l1 (wrap64 (x5_1 + 1))) = some r := by rw [if_pos rfl] at H; exact H
        clear H
        have H := H1
        clear H1
        have H' := zm H
        clear H
        try go_wp2
        have n0_ := zm (below_drew1 HB.out)
        clear HB
        have HB := n0_
        clear n0_
        have p583 : 0 ≤ (x5_1 : Int) := zd
        have q583 : x5_1 < (l0.length : Int) := zd
        obtain ⟨ad583, A583_1, c583_1, e583, hx583_0, hx583_1, hl583_1, hi583_1⟩ := at_T103 HR0.out x5_1 p583 q583
        have hw583_1 := hx583_1
        have hw583_0 := hx583_0
        cases e583
        replace hx583_0 := (HB.out.cell (World.block_lt_of_cell? w _ hx583_0)).trans hx583_0
        replace hx583_1 := (HB.out.cell (World.block_lt_of_cell? w _ hx583_1)).trans hx583_1
        have Za := zm hi583_1
        have Zc := zm hl583_1
        clear hi583_1 hl583_1
        replace p583 := eq_true p583
        replace q583 := eq_true q583
        have p584 : 0 ≤ (x5_1 : Int) := zd
        have q584 : x5_1 < (l1.length : Int) := zd
        obtain ⟨ad584, A584_1, c584_1, e584, hx584_0, hx584_1, hl584_1, hi584_1⟩ := at_T103 HR1.out x5_1 p584 q584
        have hw584_1 := hx584_1
        have hw584_0 := hx584_0
        cases e584
        replace hx584_0 := (HB.out.cell (World.block_lt_of_cell? w _ hx584_0)).trans hx584_0
        replace hx584_1 := (HB.out.cell (World.block_lt_of_cell? w _ hx584_1)).trans hx584_1
        have Zb := zm hi584_1
        have Zd := zm hl584_1
        clear hi584_1 hl584_1
        replace p584 := eq_true p584
        replace q584 := eq_true q584
        refine start_ (n := 10) (S := fun w' => w'.cell? (ad583.add ((x5_1).toNat * 2)) = some (.string ((rd_T103 l0 x5_1).f0)) ∧ w'.cell? ⟨(ad583.add ((x5_1).toNat * 2)).block, (ad583.add ((x5_1).toNat * 2)).off + 1, none⟩ = some (.slice A583_1 ((rd_T103 l0 x5_1).f1).length c583_1) ∧ w'.cell? (ad584.add ((x5_1).toNat * 2)) = some (.string ((rd_T103 l1 x5_1).f0)) ∧ w'.cell? ⟨(ad584.add ((x5_1).toNat * 2)).block, (ad584.add ((x5_1).toNat * 2)).off + 1, none⟩ = some (.slice A584_1 ((rd_T103 l1 x5_1).f1).length c584_1)) (ds := []) #[false, false, false, false, false, false, false, false, false, false] (by kernel_rfl) rfl rfl ⟨((HB.out.cell (World.block_lt_of_cell? w _ hw583_0)).trans hw583_0), ((HB.out.cell (World.block_lt_of_cell? w _ hw583_1)).trans hw583_1), ((HB.out.cell (World.block_lt_of_cell? w _ hw584_0)).trans hw584_0), ((HB.out.cell (World.block_lt_of_cell? w _ hw584_1)).trans hw584_1)⟩ (fun hHeld => ?_); refine with_tabW laws_eqSnapS.tab6 laws_eqSnapS.bits6 (fun HT_ HW_ => ?_)
        generalize wr.drew = w9 at HB Za Zb hx583_0 hx583_1 hx584_0 hx584_1 hHeld ⊢
        refine pure_ (i := 0) (N := some 17) (v := ?_) (a' := ?_) #[true, false, false, false, false, false, false, false, false, false] rfl rfl (any_of HT_.out (by kernel_rfl)) (fun _ _ _ h => h) (Or.inl ⟨by rfl, ?_⟩) ?_ ?_
        rotate_left
        ·intro w'
         go_simp
         with_reducible rfl
        rotate_left
        ·simp only [Act.put, zs, zz, zt, i64_w, i32_w]
         rfl
        refine pure_ (i := 1) (N := some 18) (v := ?_) (a' := ?_) #[true, true, false, false, false, false, false, false, false, false] rfl rfl (any_of HT_.out (by kernel_rfl)) (fun _ _ _ h => h) (Or.inl ⟨by rfl, ?_⟩) ?_ ?_
        rotate_left
        ·intro w'
         go_simp
         with_reducible rfl
        rotate_left
        ·simp only [Act.put, zs, zz, zt, i64_w, i32_w]
         rfl
        refine pure_ (i := 2) (N := some 19) (v := ?_) (a' := ?_) #[true, true, true, false, false, false, false, false, false, false] rfl rfl (any_of HT_.out (by kernel_rfl)) (fun _ _ _ h => h) (Or.inl ⟨by rfl, ?_⟩) ?_ ?_
        rotate_left
        ·intro w'
         go_simp
         with_reducible rfl
        rotate_left
        ·simp only [Act.put, zs, zz, zt, i64_w, i32_w]
         rfl
        refine pure_ (i := 4) (N := some 21) (v := ?_) (a' := ?_) #[true, true, true, false, true, false, false, false, false, false] rfl rfl (any_of HT_.out (by kernel_rfl)) (fun _ _ _ h => h) (Or.inl ⟨by rfl, ?_⟩) ?_ ?_
        rotate_left
        ·intro w'
         go_simp
         with_reducible rfl
        rotate_left
        ·simp only [Act.put, zs, zz, zt, i64_w, i32_w]
         rfl
        refine pure_ (i := 5) (N := some 22) (v := ?_) (a' := ?_) #[true, true, true, false, true, true, false, false, false, false] rfl rfl (any_of HT_.out (by kernel_rfl)) (fun _ _ _ h => h) (Or.inl ⟨by rfl, ?_⟩) ?_ ?_
        rotate_left
        ·intro w'
         go_simp
         with_reducible rfl
        rotate_left
        ·simp only [Act.put, zs, zz, zt, i64_w, i32_w]
         rfl
        refine pure_ (i := 6) (N := some 23) (v := ?_) (a' := ?_) #[true, true, true, false, true, true, true, false, false, false] rfl rfl (any_of HT_.out (by kernel_rfl)) (fun _ _ _ h => h) (Or.inl ⟨by rfl, ?_⟩) ?_ ?_
        rotate_left
        ·intro w'
         go_simp
         with_reducible rfl
        rotate_left
        ·simp only [Act.put, zs, zz, zt, i64_w, i32_w]
         rfl
        refine take_ (i := 3) (N := some 20) (v := ?_) (a' := ?_) #[true, true, true, true, true, true, true, false, false, false] rfl rfl (take_ofW HT_.out HW_.out (by kernel_rfl)) (fun _ _ _ h => h) (Or.inl ⟨by rfl, ?_⟩) hHeld ?_ ?_
        rotate_left
        ·rintro w' ⟨s0, s1, s2, s3⟩
         go_simp
         with_reducible rfl
        rotate_left
        ·simp only [Act.put, zs, zz, zt, i64_w, i32_w]
         rfl
        refine take_ (i := 7) (N := some 24) (v := ?_) (a' := ?_) #[true, true, true, true, true, true, true, true, false, false] rfl rfl (take_ofW HT_.out HW_.out (by kernel_rfl)) (fun _ _ _ h => h) (Or.inl ⟨by rfl, ?_⟩) hHeld ?_ ?_
        rotate_left
        ·rintro w' ⟨s0, s1, s2, s3⟩
         go_simp
         with_reducible rfl
        rotate_left
        ·simp only [Act.put, zs, zz, zt, i64_w, i32_w]
         rfl
        refine one_ (i := 8) (N := some 25) #[true, true, true, true, true, true, true, true, true, false] rfl rfl (one_of HT_.out (by kernel_rfl)) (by decide) (fun K hK => ?_)
        refine goes_ Tryz.func92 (by kernel_rfl) rfl #[.agg #[.string ((rd_T103 l0 x5_1).f0), .slice A583_1 ((rd_T103 l0 x5_1).f1).length c583_1], .agg #[.string ((rd_T103 l1 x5_1).f0), .slice A584_1 ((rd_T103 l1 x5_1).f1).length c584_1]] (by rfl) rfl rfl zq ?_
        with_reducible refine (laws_eqSnap.calls k1 ((rd_T103 l0 x5_1).f0) _ _ ((rd_T103 l0 x5_1).f1) ((rd_T103 l1 x5_1).f0) _ _ ((rd_T103 l1 x5_1).f1) true _ ?side1 ?side2 ?side3 ?side4 A7.out).mono ?_
        (case side1 => exact zC (Kd.C_below Za.out HB.out))
        (case side2 => exact Zc.out)
        (case side3 => exact zC (Kd.C_below Zb.out HB.out))
        (case side4 => exact Zd.out)
        rintro e w10 ⟨rfl, hb⟩
        refine ⟨_, rfl, ?_⟩
        have n0_ := zm (below_step (zg_1 HB.out) hb)
        clear HB
        have HB := n0_
        clear n0_
        (try clear hb)
        (try clear hb2)
        (try clear hk)
        (try clear hi)
        refine hK.out _ _ ⟨((HB.out.cell (World.block_lt_of_cell? w _ hw583_0)).trans hw583_0), ((HB.out.cell (World.block_lt_of_cell? w _ hw583_1)).trans hw583_1), ((HB.out.cell (World.block_lt_of_cell? w _ hw584_0)).trans hw584_0), ((HB.out.cell (World.block_lt_of_cell? w _ hw584_1)).trans hw584_1)⟩ (fun hHeld => ?_)
        clear hK K
        refine norm_ (a' := ?_) ?_ ?_
        rotate_left
        ·show Act.put _ (some 25) _ = _
         simp only [Act.put, zs, zz, zt, i64_w, i32_w]
         rfl
        refine pure_ (i := 9) (N := some 26) (v := ?_) (a' := ?_) #[true, true, true, true, true, true, true, true, true, true] rfl rfl (any_of HT_.out (by kernel_rfl)) (fun _ _ _ h => h) (Or.inl ⟨by rfl, ?_⟩) ?_ ?_
        rotate_left
        ·intro w'
         go_simp
         with_reducible rfl
        rotate_left
        ·simp only [Act.put, zs, zz, zt, i64_w, i32_w]
         rfl
        refine done_ (done_of HT_.out (by kernel_rfl)) ?_
        try go_wp2
        go_roundg k1
        case measure => have := HK1.out; omega
        case rel => exact ⟨(wrap64 (x5_1 + 1)), zr, H', ⟨by have := HK1.out; omega⟩, ⟨zg_1 HB.out⟩⟩
       ·replace c8 := Bool.eq_false_iff.mpr c8
        subst c8
        have H1 : (some false) = some r := by rw [if_neg (show ¬ (false = true) by decide)] at H; exact H
        clear H
        have H := H1
        clear H1
        obtain rfl := Option.some.inj H
        try go_wp2
        have n0_ := zm (below_drew1 HB.out)
        clear HB
        have HB := n0_
        clear n0_
        have p583 : 0 ≤ (x5_1 : Int) := zd
        have q583 : x5_1 < (l0.length : Int) := zd
        obtain ⟨ad583, A583_1, c583_1, e583, hx583_0, hx583_1, hl583_1, hi583_1⟩ := at_T103 HR0.out x5_1 p583 q583
        have hw583_1 := hx583_1
        have hw583_0 := hx583_0
        cases e583
        replace hx583_0 := (HB.out.cell (World.block_lt_of_cell? w _ hx583_0)).trans hx583_0
        replace hx583_1 := (HB.out.cell (World.block_lt_of_cell? w _ hx583_1)).trans hx583_1
        have Za := zm hi583_1
        have Zc := zm hl583_1
        clear hi583_1 hl583_1
        replace p583 := eq_true p583
        replace q583 := eq_true q583
        have p584 : 0 ≤ (x5_1 : Int) := zd
        have q584 : x5_1 < (l1.length : Int) := zd
        obtain ⟨ad584, A584_1, c584_1, e584, hx584_0, hx584_1, hl584_1, hi584_1⟩ := at_T103 HR1.out x5_1 p584 q584
        have hw584_1 := hx584_1
        have hw584_0 := hx584_0
        cases e584
        replace hx584_0 := (HB.out.cell (World.block_lt_of_cell? w _ hx584_0)).trans hx584_0
        replace hx584_1 := (HB.out.cell (World.block_lt_of_cell? w _ hx584_1)).trans hx584_1
        have Zb := zm hi584_1
        have Zd := zm hl584_1
        clear hi584_1 hl584_1
        replace p584 := eq_true p584
        replace q584 := eq_true q584
        refine start_ (n := 10) (S := fun w' => w'.cell? (ad583.add ((x5_1).toNat * 2)) = some (.string ((rd_T103 l0 x5_1).f0)) ∧ w'.cell? ⟨(ad583.add ((x5_1).toNat * 2)).block, (ad583.add ((x5_1).toNat * 2)).off + 1, none⟩ = some (.slice A583_1 ((rd_T103 l0 x5_1).f1).length c583_1) ∧ w'.cell? (ad584.add ((x5_1).toNat * 2)) = some (.string ((rd_T103 l1 x5_1).f0)) ∧ w'.cell? ⟨(ad584.add ((x5_1).toNat * 2)).block, (ad584.add ((x5_1).toNat * 2)).off + 1, none⟩ = some (.slice A584_1 ((rd_T103 l1 x5_1).f1).length c584_1)) (ds := []) #[false, false, false, false, false, false, false, false, false, false] (by kernel_rfl) rfl rfl ⟨((HB.out.cell (World.block_lt_of_cell? w _ hw583_0)).trans hw583_0), ((HB.out.cell (World.block_lt_of_cell? w _ hw583_1)).trans hw583_1), ((HB.out.cell (World.block_lt_of_cell? w _ hw584_0)).trans hw584_0), ((HB.out.cell (World.block_lt_of_cell? w _ hw584_1)).trans hw584_1)⟩ (fun hHeld => ?_); refine with_tabW laws_eqSnapS.tab6 laws_eqSnapS.bits6 (fun HT_ HW_ => ?_)
        generalize wr.drew = w11 at HB Za Zb hx583_0 hx583_1 hx584_0 hx584_1 hHeld ⊢
        refine pure_ (i := 0) (N := some 17) (v := ?_) (a' := ?_) #[true, false, false, false, false, false, false, false, false, false] rfl rfl (any_of HT_.out (by kernel_rfl)) (fun _ _ _ h => h) (Or.inl ⟨by rfl, ?_⟩) ?_ ?_
        rotate_left
        ·intro w'
         go_simp
         with_reducible rfl
        rotate_left
        ·simp only [Act.put, zs, zz, zt, i64_w, i32_w]
         rfl
        refine pure_ (i := 1) (N := some 18) (v := ?_) (a' := ?_) #[true, true, false, false, false, false, false, false, false, false] rfl rfl (any_of HT_.out (by kernel_rfl)) (fun _ _ _ h => h) (Or.inl ⟨by rfl, ?_⟩) ?_ ?_
        rotate_left
        ·intro w'
         go_simp
         with_reducible rfl
        rotate_left
        ·simp only [Act.put, zs, zz, zt, i64_w, i32_w]
         rfl
        refine pure_ (i := 2) (N := some 19) (v := ?_) (a' := ?_) #[true, true, true, false, false, false, false, false, false, false] rfl rfl (any_of HT_.out (by kernel_rfl)) (fun _ _ _ h => h) (Or.inl ⟨by rfl, ?_⟩) ?_ ?_
        rotate_left
        ·intro w'
         go_simp
         with_reducible rfl
        rotate_left
        ·simp only [Act.put, zs, zz, zt, i64_w, i32_w]
         rfl
        refine pure_ (i := 4) (N := some 21) (v := ?_) (a' := ?_) #[true, true, true, false, true, false, false, false, false, false] rfl rfl (any_of HT_.out (by kernel_rfl)) (fun _ _ _ h => h) (Or.inl ⟨by rfl, ?_⟩) ?_ ?_
        rotate_left
        ·intro w'
         go_simp
         with_reducible rfl
        rotate_left
        ·simp only [Act.put, zs, zz, zt, i64_w, i32_w]
         rfl
        refine pure_ (i := 5) (N := some 22) (v := ?_) (a' := ?_) #[true, true, true, false, true, true, false, false, false, false] rfl rfl (any_of HT_.out (by kernel_rfl)) (fun _ _ _ h => h) (Or.inl ⟨by rfl, ?_⟩) ?_ ?_
        rotate_left
        ·intro w'
         go_simp
         with_reducible rfl
        rotate_left
        ·simp only [Act.put, zs, zz, zt, i64_w, i32_w]
         rfl
        refine pure_ (i := 6) (N := some 23) (v := ?_) (a' := ?_) #[true, true, true, false, true, true, true, false, false, false] rfl rfl (any_of HT_.out (by kernel_rfl)) (fun _ _ _ h => h) (Or.inl ⟨by rfl, ?_⟩) ?_ ?_
        rotate_left
        ·intro w'
         go_simp
         with_reducible rfl
        rotate_left
        ·simp only [Act.put, zs, zz, zt, i64_w, i32_w]
         rfl
        refine take_ (i := 3) (N := some 20) (v := ?_) (a' := ?_) #[true, true, true, true, true, true, true, false, false, false] rfl rfl (take_ofW HT_.out HW_.out (by kernel_rfl)) (fun _ _ _ h => h) (Or.inl ⟨by rfl, ?_⟩) hHeld ?_ ?_
        rotate_left
        ·rintro w' ⟨s0, s1, s2, s3⟩
         go_simp
         with_reducible rfl
        rotate_left
        ·simp only [Act.put, zs, zz, zt, i64_w, i32_w]
         rfl
        refine take_ (i := 7) (N := some 24) (v := ?_) (a' := ?_) #[true, true, true, true, true, true, true, true, false, false] rfl rfl (take_ofW HT_.out HW_.out (by kernel_rfl)) (fun _ _ _ h => h) (Or.inl ⟨by rfl, ?_⟩) hHeld ?_ ?_
        rotate_left
        ·rintro w' ⟨s0, s1, s2, s3⟩
         go_simp
         with_reducible rfl
        rotate_left
        ·simp only [Act.put, zs, zz, zt, i64_w, i32_w]
         rfl
        refine one_ (i := 8) (N := some 25) #[true, true, true, true, true, true, true, true, true, false] rfl rfl (one_of HT_.out (by kernel_rfl)) (by decide) (fun K hK => ?_)
        refine goes_ Tryz.func92 (by kernel_rfl) rfl #[.agg #[.string ((rd_T103 l0 x5_1).f0), .slice A583_1 ((rd_T103 l0 x5_1).f1).length c583_1], .agg #[.string ((rd_T103 l1 x5_1).f0), .slice A584_1 ((rd_T103 l1 x5_1).f1).length c584_1]] (by rfl) rfl rfl zq ?_
        with_reducible refine (laws_eqSnap.calls k1 ((rd_T103 l0 x5_1).f0) _ _ ((rd_T103 l0 x5_1).f1) ((rd_T103 l1 x5_1).f0) _ _ ((rd_T103 l1 x5_1).f1) false _ ?side1 ?side2 ?side3 ?side4 A7.out).mono ?_
        (case side1 => exact zC (Kd.C_below Za.out HB.out))
        (case side2 => exact Zc.out)
        (case side3 => exact zC (Kd.C_below Zb.out HB.out))
        (case side4 => exact Zd.out)
        rintro e w12 ⟨rfl, hb⟩
        refine ⟨_, rfl, ?_⟩
        have n0_ := zm (below_step (zg_1 HB.out) hb)
        clear HB
        have HB := n0_
        clear n0_
        (try clear hb)
        (try clear hb2)
        (try clear hk)
        (try clear hi)
        refine hK.out _ _ ⟨((HB.out.cell (World.block_lt_of_cell? w _ hw583_0)).trans hw583_0), ((HB.out.cell (World.block_lt_of_cell? w _ hw583_1)).trans hw583_1), ((HB.out.cell (World.block_lt_of_cell? w _ hw584_0)).trans hw584_0), ((HB.out.cell (World.block_lt_of_cell? w _ hw584_1)).trans hw584_1)⟩ (fun hHeld => ?_)
        clear hK K
        refine norm_ (a' := ?_) ?_ ?_
        rotate_left
        ·show Act.put _ (some 25) _ = _
         simp only [Act.put, zs, zz, zt, i64_w, i32_w]
         rfl
        refine pure_ (i := 9) (N := some 26) (v := ?_) (a' := ?_) #[true, true, true, true, true, true, true, true, true, true] rfl rfl (any_of HT_.out (by kernel_rfl)) (fun _ _ _ h => h) (Or.inl ⟨by rfl, ?_⟩) ?_ ?_
        rotate_left
        ·intro w'
         go_simp
         with_reducible rfl
        rotate_left
        ·simp only [Act.put, zs, zz, zt, i64_w, i32_w]
         rfl
        refine done_ (done_of HT_.out (by kernel_rfl)) ?_
        try go_wp2
        go_ret
        exact ⟨by first | rfl | (simp [errW_none, errW_some] <;> rfl) | (simp [*, errW_none, errW_some] <;> rfl), zg_1 HB.out⟩
      ·rw [if_neg c6] at H
       exact absurd H (by simp)
     ·rw [if_neg c5] at H
      exact absurd H (by simp)
    ·rw [if_neg c4] at H
     have c4b0 : decide (x5_1 < (l0.length : Int)) = false := decide_eq_false c4
     clear c4
     obtain rfl := Option.some.inj H
     go_wp2
     go_ret
     exact ⟨by first | rfl | (simp [errW_none, errW_some] <;> rfl) | (simp [*, errW_none, errW_some] <;> rfl), zg_1 HB.out⟩
 ·rw [if_neg c3] at H
  have c3b0 : ((l0.length : Int) == (l1.length : Int)) = false := beq_eq_false_iff_ne.mpr c3
  have c3b1 : ((l0.length : Int) != (l1.length : Int)) = true := bne_iff_ne.mpr c3
  have c3b2 : (l0.length == l1.length) = false := by first | simpa using c3 | (simp at c3 ⊢; omega)
  obtain rfl := Option.some.inj H
  go_enter Tryz.func47, Tryz.ntmps47
  go_wp2
  go_ret
  exact ⟨by first | rfl | (simp [errW_none, errW_some] <;> rfl) | (simp [*, errW_none, errW_some] <;> rfl), zg_1 HB.out⟩
end Go.Proofs.YtglcnnmobkocmaaGreat.Q
