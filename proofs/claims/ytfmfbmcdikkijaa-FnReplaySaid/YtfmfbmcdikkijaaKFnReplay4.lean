/- What laws.FnReplay reaches, part 4: the functions as Lean functions, the proofs that the program's functions answer so, and plain laws about them. -/
import Derived.Test.YtfmfbmcdikkijaaKFnReplay1
namespace Go.Proofs.Ytfmfbmcdikkijaa.Q
open Go.RowKit Go.Proofs.Ytfmfbmcdikkijaa.Ext Go.Proofs.YtfmfbmcdikkijaaW.PrintWords Go.Proofs.YtfmfbmcdikkijaaW.PrintLast Go.Proofs.YtfmfbmcdikkijaaW.PrintMore
attribute [local go_sem] max2_int min2_int max_two min_two max_three min_three max_four min_four   -- for this text's walks alone
set_option linter.unusedVariables false
set_option linter.unusedSimpArgs false

set_option linter.unusedVariables false
set_option linter.unusedSimpArgs false
section
attribute [local go_sem] Oper.semAt_some
def impl_Disk_read_upto {α : Type} (f : Nat → α) (k : Nat) : List α := (List.range k).map f
theorem impl_Disk_read_upto_succ {α : Type} (f : Nat → α) (k : Nat) : impl_Disk_read_upto f (k + 1) = impl_Disk_read_upto f k ++ [f k] := by simp [impl_Disk_read_upto, List.range_succ]
theorem impl_Disk_read_upto_length {α : Type} (f : Nat → α) (k : Nat) : (impl_Disk_read_upto f k).length = k := by simp [impl_Disk_read_upto]
/-- What comes k-th: the elements from behind. -/
def impl_Disk_read_f (xs : List S75) (k : Nat) : Int × S75 := ((xs.length : Int) - 1 - (k : Int), rd_T75 xs ((xs.length : Int) - 1 - (k : Int)))
def impl_Disk_read_encs (x : Int × S75) : Array Value := #[.int .i64 x.1, .agg #[.int .i64 x.2.f0, .int .i64 x.2.f1, .string x.2.f2]]
set_option maxRecDepth 100000 in
set_option maxHeartbeats 4000000 in
theorem impl_Disk_read_back1 (F : Fence) (n : Nat) (h7 : F.fn 67) (hro : F.round = none) (hn : 1 ≤ n) (l Bs n₀ : Nat) (A : Option Addr) (cap : Nat) (xs : List S75) (w0 : World) (hw : w0.heap.size = n₀) (hC : Kd.C k75 w0 A xs.length xs) (hreach : xs.length ≤ 1000000000) (hBs0 : Bs < n₀) (J Jx : List (Int × S75) → World → Prop)
    (hY : ∀ pre x W, J pre W → pre.length < xs.length → YieldAt F (n - 1) Try.prog l (impl_Disk_read_encs x) W fun e W' =>
      (e = .returned (.bool true) ∧ J (pre ++ [x]) W' ∧ Below n₀ W W') ∨ (e = .returned (.bool false) ∧ Jx (pre ++ [x]) W'))
    (W : World) (hWw : Below n₀ w0 W) (hBs : w0.cell? ⟨Bs, 0, none⟩ = some (.slice A xs.length cap)) (h0 : J [] W) :
    CallsIn F n Try.prog 67 #[.func (.yield l) #[] #[], .pointer (some ⟨Bs, 0, none⟩)] W fun e W' => (∃ v, e = .returned v) ∧
      ((∃ ys, ys = impl_Disk_read_upto (impl_Disk_read_f xs) xs.length ∧ J ys W') ∨ (∃ pre, (∃ k, k ≤ xs.length ∧ pre = impl_Disk_read_upto (impl_Disk_read_f xs) k) ∧ Jx pre W')) := by
  have hb0 := (hWw.cell (p := ⟨Bs, 0, none⟩) hBs0).trans hBs
  have hwr : wrap64 ((xs.length : Int) - 1) = (xs.length : Int) - 1 := by unfold wrap64; omega
  refine callsIn_of_wp Try.func67 rfl h7 ?_ hro
  simp only [Try.ntmps67, List.size_toArray, List.length_cons, List.length_nil, Nat.reduceAdd, Nat.reduceSub, Array.replicate_succ, Array.replicate_zero, List.push_toArray, List.append_toArray, List.nil_append, List.cons_append]
  gi_wp2
  gi_loopw [3] (fun i wr => ∃ k : Nat, k ≤ xs.length ∧ i = .int .i64 ((xs.length : Int) - 1 - (k : Int)) ∧ J (impl_Disk_read_upto (impl_Disk_read_f xs) k) wr ∧ Below n₀ w0 wr)
    (fun i _ => (intOf i + 1).toNat)
  case atStart => exact ⟨0, Nat.zero_le _, by simp, h0, hWw⟩
  case round =>
    obtain ⟨k, hk, rfl, hJs, hnx⟩ := hrel
    have hbr := (hnx.cell (p := ⟨Bs, 0, none⟩) hBs0).trans hBs
    by_cases hlt : k < xs.length
    · have h0i : 0 ≤ (xs.length : Int) - 1 - (k : Int) := by omega
      have h1i : (xs.length : Int) - 1 - (k : Int) < (xs.length : Int) := by omega
      obtain ⟨i, hi⟩ : ∃ i : Int, i = (xs.length : Int) - 1 - (k : Int) := ⟨_, rfl⟩
      rw [← hi] at h0i h1i
      obtain ⟨ad, rfl, hx0, hx1, hx2⟩ := at_T75 (Kd.C_below hC (hw.symm ▸ hnx)) i h0i h1i
      obtain ⟨fn, tmps, assign, body, hy, hR⟩ := hY _ (impl_Disk_read_f xs k) wr hJs (by rw [impl_Disk_read_upto_length]; exact hlt)
      have hf : impl_Disk_read_f xs k = (i, rd_T75 xs i) := by rw [hi]; rfl
      rw [hf] at hy hR
      dsimp only [impl_Disk_read_encs] at hy
      have hwi : wrap64 (i - 1) = i - 1 := by unfold wrap64; omega
      rw [← hi]
      have HI := zm hi; have HF := zm hf; have HL := zm hlt
      have d0 : decide (0 ≤ i) = true := decide_eq_true h0i
      have p0 := eq_true h0i; have p1 := eq_true h1i; clear hi hf hlt h0i h1i hk
      gi_wp2
      refine hR.mono ?_
      rintro e W3 (⟨rfl, hJ3, hk3⟩ | ⟨rfl, hJx3⟩)
      · gi_wp2
        go_roundw
        case rel => exact ⟨k + 1, by have := HL.out; omega, by have := HI.out; first | (rw [hwi, this]; congr 1; omega) | (rw [this]; congr 1; omega), by rw [impl_Disk_read_upto_succ, HF.out]; exact hJ3, hnx.trans hk3⟩
        case measure => have := HI.out; have := HL.out; first | (simp only [intOf, hwi]; omega) | (simp only [intOf]; omega)
      · gi_wp2
        refine bodyPost_ret (results_none rfl _ _ _) rfl ?_
        exact ⟨⟨_, rfl⟩, .inr ⟨_, ⟨k + 1, by have := HL.out; omega, by rw [impl_Disk_read_upto_succ, HF.out]⟩, hJx3⟩⟩
    · obtain rfl : k = xs.length := by omega
      have e1 : ((xs.length : Int) - 1 - (xs.length : Int)) = -1 := by omega
      rw [e1]
      gi_wp2
      go_end0
      exact ⟨⟨_, rfl⟩, .inl ⟨_, rfl, hJs⟩⟩
set_option maxHeartbeats 1000000 in
theorem impl_Disk_read_back (F : Fence) (n : Nat) (h5 : F.fn 65) (hro : F.round = none) (a : Option Addr) (len cap : Nat) (w : World) :
    CallsIn F n Try.prog 65 #[.slice a len cap] w fun e w' => e = .returned (.func (.func 67) #[] #[.pointer (some ⟨w.heap.size, 0, none⟩)]) ∧ w' = w.alloc (.cells #[.slice a len cap] 30) := by
  refine callsIn_of_wp Try.func65 rfl h5 ?_ hro
  simp only [Try.ntmps65, List.size_toArray, List.length_cons, List.length_nil, Nat.reduceAdd, Nat.reduceSub, Array.replicate_succ, Array.replicate_zero, List.push_toArray, List.append_toArray, List.nil_append, List.cons_append]
  gi_wp2
  go_ret
  exact ⟨rfl, rfl⟩
theorem impl_Disk_read_stops (F : Fence) (n : Nat) (h7 : F.fn 67) (hro : F.round = none) (hn : 1 ≤ n) (Bs : Nat) (A : Option Addr) (cap : Nat) (xs : List S75) (hreach : xs.length ≤ 1000000000) (w : World) (hBs : Bs < w.heap.size)
    (hc : w.cell? ⟨Bs, 0, none⟩ = some (.slice A xs.length cap)) (hC : Kd.C k75 w A xs.length xs) :
    SeqStopsK F n Try.prog 67 #[.pointer (some ⟨Bs, 0, none⟩)] impl_Disk_read_encs (Below w.heap.size) (fun ys => ys = impl_Disk_read_upto (impl_Disk_read_f xs) xs.length) (fun pre => ∃ k, k ≤ xs.length ∧ pre = impl_Disk_read_upto (impl_Disk_read_f xs) k) xs.length w := fun l J Jx W hW _ _ hY h0 =>
  impl_Disk_read_back1 F n h7 hro hn l Bs w.heap.size A cap xs w rfl hC hreach hBs J Jx hY W hW hc h0
def impl_Disk_read.f (l0_0 : List ByteArray) (l0_1 : List (S75)) (a1 : Int) (a2 : Int) : Option ByteArray := if l0_1.length ≤ 1000000000 then (match l0_1.reverse.find? (fun x => x.f0 == a1 && x.f1 == a2) with | some x => some x.f2 | none => if 0 ≤ a2 then (if a2 < (l0_0.length : Int) then some (rdOf ByteArray.empty l0_0 a2) else none) else none) else none
theorem impl_Disk_read_seq (xs : List S75) (k : Nat) (hk : k ≤ xs.length) : (impl_Disk_read_upto (impl_Disk_read_f xs) k).map (·.2) = xs.reverse.take k := by
  apply List.ext_getElem
  · simp [impl_Disk_read_upto, hk]
  · intro i h1 h2
    have hi : i < k := by simpa [impl_Disk_read_upto] using h1
    have e : ((xs.length : Int) - 1 - (i : Int)).toNat = xs.length - 1 - i := by omega
    have hx : xs.length - 1 - i < xs.length := by omega
    simp [impl_Disk_read_upto, impl_Disk_read_f, rd_T75, e, hx]
theorem impl_Disk_read_chain (w : World) (o0 o1 o2 o3 o4 : Obj) : ∃ W0, ((((w.alloc o0).alloc o1).alloc o2).alloc o3).alloc o4 = W0 ∧ W0.heap.size = w.heap.size + 5 ∧ W0.heap[w.heap.size]? = some o0 ∧ W0.heap[w.heap.size + 1]? = some o1 ∧ W0.heap[w.heap.size + 1 + 1]? = some o2 ∧ W0.heap[w.heap.size + 1 + 1 + 1]? = some o3 ∧ W0.heap[w.heap.size + 1 + 1 + 1 + 1]? = some o4 ∧ Below w.heap.size w W0 := by
  refine ⟨_, rfl, by simp, blk_alloc (blk_alloc (blk_alloc (blk_alloc (blk_new w _) _) _) _) _, ?_, ?_, ?_, ?_, ?_⟩
  · have := blk_new (w.alloc o0) o1
    rw [World.size_alloc] at this
    exact blk_alloc (blk_alloc (blk_alloc this _) _) _
  · have := blk_new ((w.alloc o0).alloc o1) o2
    rw [World.size_alloc, World.size_alloc] at this
    exact blk_alloc (blk_alloc this _) _
  · have := blk_new (((w.alloc o0).alloc o1).alloc o2) o3
    rw [World.size_alloc, World.size_alloc, World.size_alloc] at this
    exact blk_alloc this _
  · have := blk_new ((((w.alloc o0).alloc o1).alloc o2).alloc o3) o4
    rw [World.size_alloc, World.size_alloc, World.size_alloc, World.size_alloc] at this
    exact this
  · exact below_alloc (below_alloc (below_alloc (below_alloc (below_alloc (Below.refl _ _) _) _) _) _) _
set_option maxRecDepth 100000 in
set_option maxHeartbeats 8000000 in
theorem impl_Disk_read_in (F : Fence) (n : Nat) (hK : F.fn 61) (h6 : F.fn 65) (h8 : F.fn 67) (hro : F.round = none) (hn : 3 ≤ n) (A0 : Option Addr) (c0 : Nat) (l0 : List ByteArray) (A1 : Option Addr) (c1 : Nat) (l1 : List (S75)) (a1 a2 : Int) (hl : l1.length ≤ 1000000000) (w : World) (hr0 : Kd.C Kd.string w A0 l0.length l0) (hr1 : Kd.C k75 w A1 l1.length l1) (r : ByteArray) (h : impl_Disk_read.f l0 l1 a1 a2 = some r) :
    CallsIn F n Try.prog 61 #[.agg #[.slice A0 l0.length c0, .slice A1 l1.length c1], .int .i64 a1, .int .i64 a2] w fun e W' => e = .returned (.string r) ∧ Below w.heap.size w W' := by
 have h1 : 1 ≤ n := by omega
 have hu32 := Try.underlying32; have hu75 := Try.underlying75
 refine callsIn_of_wp_marks Try.func61 rfl hK ?_ hro
 simp only [Try.ntmps61, List.size_toArray, List.length_cons, List.length_nil, Nat.reduceAdd, Nat.reduceSub, Array.replicate_succ, Array.replicate_zero, List.push_toArray, List.append_toArray, List.nil_append, List.cons_append]
 gi_wp2_with (gi_at_call 65; refine (impl_Disk_read_back F (n - 1) h6 hro _ _ _ _).mono ?_; rintro e w' ⟨rfl, rfl⟩)
 obtain ⟨W0, hW0, hsz, b0, b1, b2, b3, b4, hB0⟩ := impl_Disk_read_chain w (.cells #[.slice A0 l0.length c0, .slice A1 l1.length c1] 32 (0, 0)) (.cells #[.int .i64 a1] 3 (0, 0)) (.cells #[.int .i64 a2] 3 (0, 0)) (.cells #[.string ⟨#[]⟩] 9 (0, 0)) (.cells #[.slice A1 l1.length c1] 30 (0, 0))
 rw [hW0]
 clear hW0
 refine wpIn_rangeFunc_ownH hro h1 (gf := 67) (lb := #[.pointer (some ⟨w.heap.size + 1 + 1 + 1 + 1, 0, none⟩)]) rfl h8 (enters_of Try.func67 (by kernel_rfl) rfl)
  (impl_Disk_read_stops F (n - 1) h8 hro (by omega) (w.heap.size + 1 + 1 + 1 + 1) A1 c1 l1 hl W0 (by omega) ((blk_cell b4 0).trans rfl) (Kd.C_below hr1 hB0)) belowK_t (belowK_b (Nat.le_refl _)) (Below.refl _ _) (fun _ => rfl)
  (fun pre W => (∀ p ∈ pre, (p.2.f0 == a1 && p.2.f1 == a2) = false) ∧ Below W0.heap.size W0 W)
  (fun c pre W => (c = .ret ∧ ∃ ini p, pre = ini ++ [p] ∧ (∀ p ∈ ini, (p.2.f0 == a1 && p.2.f1 == a2) = false) ∧ (p.2.f0 == a1 && p.2.f1 == a2) = true ∧ W.cell? ⟨w.heap.size + 1 + 1 + 1, 0, none⟩ = some (.string p.2.f2)) ∧ Below w.heap.size w W)
  (OwnFrom.and (ownFrom_pure _ _) (ownFrom_below (Nat.le_refl _) (Nat.le_refl _)))
  (fun c => OwnFrom.and (Own.from (fun s A B row hs hg hr => by obtain ⟨hc, ini, last, e1, e2, e3, e4⟩ := hs; exact ⟨hc, ini, last, e1, e2, e3, cell_kept e4 hg hr⟩) _) (ownFrom_below (Nat.le_refl _) (by omega)))
  ⟨by simp, Below.refl _ _⟩
  (fun x a' W => ∃ Bx, W0.heap.size ≤ Bx ∧ W.heap[Bx]? = some (.cells #[.int .i64 x.2.f0, .int .i64 x.2.f1, .string x.2.f2] 75 (0, 0)) ∧ a' = { tmps := #[.agg #[.slice A0 l0.length c0, .slice A1 l1.length c1], .int .i64 a1, .int .i64 a2, .pointer (some ⟨w.heap.size, 0, none⟩), .pointer (some ⟨w.heap.size + 1, 0, none⟩), .pointer (some ⟨w.heap.size + 1 + 1, 0, none⟩), .pointer (some ⟨w.heap.size + 1 + 1 + 1, 0, none⟩), undef, .pointer (some ⟨Bx, 0, none⟩), .pointer (some ⟨w.heap.size, 1, none⟩), .slice A1 l1.length c1, .func (.func 67) #[] #[.pointer (some ⟨w.heap.size + 1 + 1 + 1 + 1, 0, none⟩)], .int .i64 x.1, .agg #[.int .i64 x.2.f0, .int .i64 x.2.f1, .string x.2.f2], undef, undef, undef, undef, undef, undef, undef, undef, undef, undef, undef, undef, undef, undef, undef, undef, undef], defers := [] })
  (fun x a' _ X Y row hs hg hr => by obtain ⟨Bx, e1, e2, e3⟩ := hs; exact ⟨Bx, e1, (grownBy_keeps_cells hg (fun r e => (hr r e).2) e2 rfl).trans e2, e3⟩)
  ?assign ?body ?done ?stop
 case assign =>
  rintro l pre x W K ⟨hp, hB⟩ hK
  have hz := hB.size
  dsimp only [impl_Disk_read_encs]
  gi_wp2
  exact hK _ _ ((KeepsOthers.alloc _ _).from _) ((Below.refl _ W).alloc hz _) ⟨hp, hB.alloc hz _⟩ ⟨W.heap.size, hz, blk_new W _, rfl⟩
 case body =>
  rintro l pre x a' W hl2 ⟨r2, hr2⟩ ⟨hp, hB⟩ ⟨Bx, hBx, bX, rfl⟩ hlt
  have cx0 : W.cell? ⟨Bx, 0, none⟩ = some (.int .i64 x.2.f0) := (blk_cell bX 0).trans rfl
  have cx1 : W.cell? ⟨Bx, 1, none⟩ = some (.int .i64 x.2.f1) := (blk_cell bX 1).trans rfl
  have cx2 : W.cell? ⟨Bx, 2, none⟩ = some (.string x.2.f2) := (blk_cell bX 2).trans rfl
  have cH : W.cell? ⟨w.heap.size + 1, 0, none⟩ = some (.int .i64 a1) := (hB.cell (p := ⟨w.heap.size + 1, 0, none⟩) (by simp; omega)).trans ((blk_cell b1 0).trans rfl)
  have cA : W.cell? ⟨w.heap.size + 1 + 1, 0, none⟩ = some (.int .i64 a2) := (hB.cell (p := ⟨w.heap.size + 1 + 1, 0, none⟩) (by simp; omega)).trans ((blk_cell b2 0).trans rfl)
  have bR := (hB.block (w.heap.size + 1 + 1 + 1) (by omega)).trans b3
  have cR : W.cell? ⟨w.heap.size + 1 + 1 + 1, 0, none⟩ = some (.string ⟨#[]⟩) := (blk_cell bR 0).trans rfl
  have fR := blk_frozen bR 0
  have hBw : Below w.heap.size w W := hB0.trans (hB.mono (by omega))
  by_cases e1 : x.2.f0 = a1
  ·have e1b : (x.2.f0 == a1) = true := beq_iff_eq.2 e1
   by_cases e2 : x.2.f1 = a2
   ·have e2b : (x.2.f1 == a2) = true := beq_iff_eq.2 e2
    clear e1 e2
    gi_wp2
    exact ⟨(KeepsOthers.setCell _ _ _).from _, ⟨rfl, pre, x, rfl, hp, by rw [e1b, e2b]; rfl, World.cell?_setCell_same' _ _ _ (by rw [cR]; rfl)⟩, hBw.setCell (p := ⟨w.heap.size + 1 + 1 + 1, 0, none⟩) (by simp; omega) _⟩
   ·have e2b : (x.2.f1 == a2) = false := beq_eq_false_iff_ne.2 e2
    clear e1 e2
    gi_wp2
    exact ⟨KeepsFrom.refl _ _, Below.refl _ _, ⟨fun p hp' => (List.mem_append.1 hp').elim (hp p) (fun e => by simp at e; subst e; rw [e2b, Bool.and_false]), hB⟩⟩
  ·have e1b : (x.2.f0 == a1) = false := beq_eq_false_iff_ne.2 e1
   clear e1
   gi_wp2
   exact ⟨KeepsFrom.refl _ _, Below.refl _ _, ⟨fun p hp' => (List.mem_append.1 hp').elim (hp p) (fun e => by simp at e; subst e; rw [e1b, Bool.false_and]), hB⟩⟩
 case done =>
  rintro D ys W hD rfl ⟨hp, hB⟩ hK
  have hnone : l1.reverse.find? (fun x => x.f0 == a1 && x.f1 == a2) = none := by
   rw [List.find?_eq_none]
   intro x hx
   have e := impl_Disk_read_seq l1 l1.length (Nat.le_refl _)
   rw [List.take_of_length_le (by simp)] at e
   rw [← e] at hx
   obtain ⟨p, hp1, rfl⟩ := List.mem_map.1 hx
   simp only [hp p hp1]; decide
  unfold impl_Disk_read.f at h
  rw [if_pos hl, hnone] at h
  have h0a : 0 ≤ a2 := by
   by_cases c : 0 ≤ a2
   ·exact c
   ·simp only [if_neg c] at h; cases h
  have h1a : a2 < (l0.length : Int) := by
   by_cases c : a2 < (l0.length : Int)
   ·exact c
   ·simp only [if_pos h0a, if_neg c] at h; cases h
  simp only [if_pos h0a, if_pos h1a, Option.some.injEq] at h
  have hBw : Below w.heap.size w W := hB0.trans (hB.mono (by omega))
  obtain ⟨ad, rfl, hx⟩ := Kd.at_string (Kd.C_below hr0 hBw) a2 h0a h1a
  have cA : W.cell? ⟨w.heap.size + 1 + 1, 0, none⟩ = some (.int .i64 a2) := (hB.cell (p := ⟨w.heap.size + 1 + 1, 0, none⟩) (by simp; omega)).trans ((blk_cell b2 0).trans rfl)
  have cD : W.cell? ⟨w.heap.size, 0, none⟩ = some (.slice (some ad) l0.length c0) := (hB.cell (p := ⟨w.heap.size, 0, none⟩) (by simp; omega)).trans ((blk_cell b0 0).trans rfl)
  have bR := (hB.block (w.heap.size + 1 + 1 + 1) (by omega)).trans b3
  have cR : W.cell? ⟨w.heap.size + 1 + 1 + 1, 0, none⟩ = some (.string ⟨#[]⟩) := (blk_cell bR 0).trans rfl
  have fR := blk_frozen bR 0
  rw [h] at hx
  gi_wp2
  have hK' := (KeepsOthers.setCell W ⟨w.heap.size + 1 + 1 + 1, 0, none⟩ (.string r)).same D _ hK rfl
  refine ⟨by simp, .inl ⟨_, _, rfl, run_takeDeferred hK', ?_⟩⟩
  have hc5 := cell_kept (World.cell?_setCell_same' W ⟨w.heap.size + 1 + 1 + 1, 0, none⟩ (.string r) (by rw [cR]; rfl)) (grownBy_putObj' _ D (.deferred none)) (fun r e => by cases e; exact ⟨_, hK', rfl⟩)
  refine ⟨.string r, ?_, rfl, (hBw.setCell (p := ⟨w.heap.size + 1 + 1 + 1, 0, none⟩) (by simp; omega) _).trans (belowK_b (w := w) (Nat.le_refl _) _ D _ _ (by omega) hK' rfl rfl)⟩
  simp [results, Try.f61, go_sem, hc5]
 case stop =>
  rintro D c pre W hD ⟨k, hk, rfl⟩ ⟨⟨rfl, ini, last, e1, e2, e3, hcr⟩, hB⟩ hK
  have hr5 : r = last.2.f2 := by
   have e := impl_Disk_read_seq l1 k hk
   rw [e1, List.map_append] at e
   have e4 : l1.reverse = (ini.map (·.2) ++ [last.2]) ++ l1.reverse.drop k := by
    rw [show ini.map (·.2) ++ [last.2] = l1.reverse.take k from e, List.take_append_drop]
   unfold impl_Disk_read.f at h
   rw [if_pos hl, e4, List.find?_append, List.find?_append, List.find?_eq_none.2 (fun x hx => by
    obtain ⟨p, hp1, rfl⟩ := List.mem_map.1 hx
    simp only [e2 p hp1]; decide)] at h
   simp only [List.find?_cons, e3, Option.none_or, Option.some_or, Option.some.injEq] at h
   exact h.symm
  gi_wp2
  refine ⟨by simp, .inl ⟨_, _, rfl, run_takeDeferred hK, ?_⟩⟩
  have hc5 := cell_kept hcr (grownBy_putObj' _ D (.deferred none)) (fun r e => by cases e; exact ⟨_, hK, rfl⟩)
  refine ⟨.string last.2.f2, ?_, by rw [hr5], hB.trans (belowK_b (w := w) (Nat.le_refl _) W D _ _ (by omega) hK rfl rfl)⟩
  simp [results, Try.f61, go_sem, hc5]
theorem impl_Disk_read.calls (A0_0 : Option Addr) (c0_0 : Nat) (l0_0 : List ByteArray) (A0_1 : Option Addr) (c0_1 : Nat) (l0_1 : List (S75)) (a1 : Int) (a2 : Int) (r : ByteArray) (w : World) (hr0_0 : Kd.C Kd.string w A0_0 l0_0.length l0_0) (hc0_0 : l0_0.length ≤ c0_0) (hr0_1 : Kd.C k75 w A0_1 l0_1.length l0_1) (hc0_1 : l0_1.length ≤ c0_1) (h : impl_Disk_read.f l0_0 l0_1 a1 a2 = some r) :
 Calls Try.prog 61 #[.agg #[.slice A0_0 l0_0.length c0_0, .slice A0_1 l0_1.length c0_1], .int .i64 a1, .int .i64 a2] w fun e w' => e = .returned (.string r) ∧ Below w.heap.size w w' := by
 have hl : l0_1.length ≤ 1000000000 := by
  by_cases c : l0_1.length ≤ 1000000000
  ·exact c
  ·unfold impl_Disk_read.f at h; rw [if_neg c] at h; cases h
 exact (callsIn_wide (n := 6)).1 (impl_Disk_read_in Fence.wide 6 trivial trivial trivial rfl (by omega) A0_0 c0_0 l0_0 A0_1 c0_1 l0_1 a1 a2 hl w hr0_0 hr0_1 r h)
end
def impl_isKind.f (a0 : Int) : Option (Bool) := (impl_within.f a0 1 9).bind fun t332 => (some t332)
set_option maxHeartbeats 8000000 in
set_option maxRecDepth 100000 in
theorem impl_isKind.calls (a0 : Int) (r : Bool) (w : World) (h : impl_isKind.f a0 = some r) :
    Calls Try.prog 68 #[.int .i64 a0] w fun e w' => e = .returned (.bool r) ∧ Drawn0 w w' := by
  have H : ((impl_within.f a0 1 9).bind fun t332 => (some t332)) = some r := h
  clear h; replace H := Option.bind_eq_some_iff.mp H
  obtain ⟨t332, A20, H⟩ := H
  replace H : (some t332) = some r := H
  have A2 := zm A20; clear A20; obtain rfl := Option.some.inj H
  go_enter Try.func68, Try.ntmps68
  go_wp2_with (first | ((with_reducible refine gate_callee (f := 27) rfl ?_); refine goesL_ (some 4) rfl rfl Try.func27 (by kernel_rfl) rfl #[.int .i64 a0, .int .i64 1, .int .i64 9] rfl zq ?_; (with_reducible refine (impl_within.calls a0 1 9 t332 _ A2.out).mono ?_); rintro e w' ⟨rfl, ⟨nd, rfl⟩⟩; refine ⟨_, rfl, ?_⟩))
  go_ret
  exact ⟨zr, by repeat (first | exact Drawn0.refl _ | apply Drawn0.step)⟩
theorem clos71 {α : Type} {d : Kd α} {val : List Value → Value} {F : FuncId} {p : α → Option Bool} (hF : Asks1 F d val p) (a : Addr) (x : α) (cs : List Value) (v : Value) (hv : val cs = v) (r : Bool) (w : World) (hK : d.K w x cs) (hc : w.cell? a = some (.func (.func F) #[] #[])) (h : p x = some r) :
    Calls Try.prog 73 #[v, .pointer (some a)] w fun e w' => e = .returned (.bool !r) ∧ Below w.heap.size w w' := by
  obtain ⟨⟨fn, h1, h2, h3⟩, hF⟩ := hF
  have h0 := hF x cs r w hK h
  rw [hv] at h0
  have H := zm h0; have H1 := zm h1; have H2 := zm h2; have H3 := zm h3; clear hF h h1 h2 h3 hK h0 hv
  go_enter Try.func73, Try.ntmps73
  go_wp2_with (first | ((with_reducible refine gate_dst (N := 6) rfl ?_); refine Stop.out ?_))
  refine ⟨?_⟩
  refine goesV (some 6) rfl rfl H1.out H2.out H3.out #[v] rfl (cap := #[]) ?hx ?hargs ?_
  case hx => rfl
  case hargs => simp [Act.eval]
  refine H.out.mono ?_
  rintro e w1 ⟨rfl, hb⟩
  refine ⟨_, rfl, ?_⟩
  have HB := zm hb; clear hb
  go_wp2
  go_ret
  exact ⟨rfl, HB.out⟩
set_option maxHeartbeats 1000000 in
set_option maxRecDepth 100000 in
theorem idx71 {F : FuncId} {p : Int → Option Bool} (hF : Asks1 F (Kd.int .i64) (fun cs => cs.headD undef) p) (A0 : Option Addr) (c0 : Nat) (l0 : List Int) (a : Addr) (r : Bool) (w : World) (hr0 : Kd.C (Kd.int .i64) w A0 l0.length l0) (hc0 : l0.length ≤ c0)
    (hcl : w.cell? a = some (.func (.func F) #[] #[])) (h : allO p l0 = some r) :
    Calls Try.prog 74 #[.slice A0 l0.length c0, .func (.func 73) #[] #[.pointer (some a)]] w (IdxPost r w) := by
 have hlen : l0.length ≤ 9223372036854775807 := hr0.2.1
 have HR0 := zm hr0; have HCL := zm hcl; have HF := zm hF
 have H' := zm h
 have HB := zm (Below.refl w.heap.size w); clear hr0 hcl hF h
 go_enter Try.func74, Try.ntmps74
 go_wp2
 go_loopg [8] (l0.length + 1) (fun kq v8 w' => ∃ k : Nat, v8 = .int .i64 (k : Int) ∧ Aside0 (kq + k = l0.length + 1 ∧ k ≤ l0.length) ∧ Aside0 (allO p (l0.drop k) = some r) ∧ Aside0 (Below w.heap.size w w'))
 case atStart => exact ⟨0, rfl, ⟨by omega, by omega⟩, H', HB⟩
 case round =>
  clear H' HB
  obtain ⟨k, rfl, HK, HA, HB⟩ := hrel
  cases gk with
  | zero =>
   have hk := HK.out
   omega
  | succ k1 =>
   by_cases hlt : k < l0.length
   ·have q1 : (k : Int) < (l0.length : Int) := by omega
    have p1 : 0 ≤ (k : Int) := by omega
    obtain ⟨ad, ea, hx⟩ := Kd.at_int HR0.out (k : Int) p1 q1
    cases ea
    rw [Int.toNat_natCast] at hx
    replace hx := (HB.out.cell (World.block_lt_of_cell? w _ hx)).trans hx; have HKK := zm (show (Kd.int .i64).K w (rd l0 k) [.int .i64 (rd l0 k)] from rfl)
    have HX := zm (show ∃ b, p (rd l0 k) = some b ∧ (if b = true then allO p (l0.drop (k+1)) else some false) = some r from by
     have := HA.out
     rw [List.drop_eq_getElem_cons hlt] at this
     simp only [allO] at this
     obtain ⟨b, hb, h2⟩ := Option.bind_eq_some_iff.1 this
     refine ⟨b, ?_, h2⟩
     rw [← hb]; congr 1; simp [rd, rdOf, hlt])
    obtain ⟨b, hb, h2⟩ := HX.out
    have HPB := zm hb; have H2 := zm h2; have HCL2 := zm ((HB.out.cell (World.block_lt_of_cell? w _ HCL.out)).trans HCL.out); clear HX hb h2 q1 p1 HA
    cases b with
    | true =>
     go_wp2_with (first | ((with_reducible refine gate_dst (N := 16) rfl ?_); refine goesV (some 16) rfl rfl Try.func73 (by kernel_rfl) rfl #[.int .i64 (rd l0 k), .pointer (some a)] rfl (cap := #[.pointer (some a)]) ?hx ?hargs ?_; (case hx => rfl); (case hargs => simp [Act.eval]); refine (clos71 HF.out a _ [.int .i64 (rd l0 k)] _ rfl _ _ (Kd.K_below _ HB.out HKK.out) HCL2.out HPB.out).mono ?_; rintro e w2 ⟨rfl, hb⟩; refine ⟨_, rfl, ?_⟩; have HB2 := zm (HB.out.trans (hb.mono HB.out.size)); clear hb))
     go_roundg k1
     case measure => omega
     case rel => exact ⟨k + 1, by simp, ⟨by have := HK.out; omega, by have := HK.out; omega⟩, ⟨by simpa using H2.out⟩, HB2⟩
    | false =>
     go_wp2_with (first | ((with_reducible refine gate_dst (N := 16) rfl ?_); refine goesV (some 16) rfl rfl Try.func73 (by kernel_rfl) rfl #[.int .i64 (rd l0 k), .pointer (some a)] rfl (cap := #[.pointer (some a)]) ?hx ?hargs ?_; (case hx => rfl); (case hargs => simp [Act.eval]); refine (clos71 HF.out a _ [.int .i64 (rd l0 k)] _ rfl _ _ (Kd.K_below _ HB.out HKK.out) HCL2.out HPB.out).mono ?_; rintro e w2 ⟨rfl, hb⟩; refine ⟨_, rfl, ?_⟩; have HB2 := zm (HB.out.trans (hb.mono HB.out.size)); clear hb))
     go_ret
     have hr : r = false := by have := H2.out; simpa using this.symm
     exact ⟨k, rfl, by rw [hr]; simp, HB2.out⟩
   ·have hge : l0.length ≤ k := by omega
    go_wp2
    go_ret
    have hr : r = true := by
     have := HA.out
     rw [List.drop_of_length_le hge] at this
     simpa [allO] using this.symm
    exact ⟨-1, rfl, by rw [hr]; decide, HB.out⟩
theorem cont71 {F : FuncId} {p : Int → Option Bool} (hF : Asks1 F (Kd.int .i64) (fun cs => cs.headD undef) p) (A0 : Option Addr) (c0 : Nat) (l0 : List Int) (a : Addr) (r : Bool) (w : World) (hr0 : Kd.C (Kd.int .i64) w A0 l0.length l0) (hc0 : l0.length ≤ c0)
 (hcl : w.cell? a = some (.func (.func F) #[] #[])) (h : allO p l0 = some r) :
 Calls Try.prog 72 #[.slice A0 l0.length c0, .func (.func 73) #[] #[.pointer (some a)]] w fun e w' => e = .returned (.bool !r) ∧ Below w.heap.size w w' := by
 have H := zm (idx71 hF A0 c0 l0 a r w hr0 hc0 hcl h); clear hr0 hcl hF h
 go_enter Try.func72, Try.ntmps72
 go_wp2_with (go_at_call 74; (with_reducible refine H.out.mono ?_); rintro e w2 ⟨j, rfl, hj, hb⟩; have HJ := zm hj; have HB := zm hb; clear hj hb)
 go_ret
 exact ⟨by rw [← HJ.out]; rfl, HB.out⟩
theorem all71 {F : FuncId} {p : Int → Option Bool} (hF : Asks1 F (Kd.int .i64) (fun cs => cs.headD undef) p) (A0 : Option Addr) (c0 : Nat) (l0 : List Int) (r : Bool) (w : World) (hr0 : Kd.C (Kd.int .i64) w A0 l0.length l0) (hc0 : l0.length ≤ c0)
 (h : allO p l0 = some r) :
 Calls Try.prog 71 #[.slice A0 l0.length c0, .func (.func F) #[] #[]] w fun e w' => e = .returned (.bool r) ∧ Below w.heap.size w w' := by
 have hb1 : ∀ o, Below w.heap.size w (w.alloc o) := fun o => (Below.refl _ _).alloc (Nat.le_refl _) o
 have H := zm (cont71 hF A0 c0 l0 ⟨w.heap.size, 0, none⟩ r (w.alloc (.cells #[.func (.func F) #[] #[]] 46 (0, 0))) (Kd.C_below hr0 (hb1 _)) hc0 (by go_simp) h); have HB0 := zm (hb1 (.cells #[.func (.func F) #[] #[]] 46 (0, 0))); clear hr0 hF h hb1
 go_enter Try.func71, Try.ntmps71
 go_wp2_with (go_at_call 72; (with_reducible refine H.out.mono ?_); rintro e w2 ⟨rfl, hb⟩; have HB := zm (HB0.out.trans (hb.mono HB0.out.size)); clear hb)
 go_ret
 exact ⟨by simp, HB.out⟩
def all71_impl_isNumber.f (l0 : List Int) (_ : Unit) : Option Bool := allO (fun x => impl_isNumber.f x) l0
theorem all71_impl_isNumber.asks : Asks1 16 (Kd.int .i64) (fun cs => cs.headD undef) (fun x => impl_isNumber.f x) := ⟨⟨_, Try.func16, by kernel_rfl, rfl⟩, fun x cs r w hK h => by
  cases hK
  exact (impl_isNumber.calls x r w h).mono fun e w' hh => ⟨hh.1, hh.2.below⟩⟩
theorem all71_impl_isNumber.calls (A0 : Option Addr) (c0 : Nat) (l0 : List Int) (_u : Unit) (r : Bool) (w : World) (hr0 : Kd.C (Kd.int .i64) w A0 l0.length l0) (hc0 : l0.length ≤ c0) (h : all71_impl_isNumber.f l0 () = some r) :
    Calls Try.prog 71 #[.slice A0 l0.length c0, .func (.func 16) #[] #[]] w fun e w' => e = .returned (.bool r) ∧ Below w.heap.size w w' :=
  all71 (all71_impl_isNumber.asks) A0 c0 l0 r w hr0 hc0 h
def impl_areInts.f (l0 : List Int) : Option (Bool) := if (l0.length : Int) ≤ 16 then ((all71_impl_isNumber.f l0 ()).bind fun t333 => (some t333)) else (some false)
set_option maxHeartbeats 8000000 in
set_option maxRecDepth 100000 in
theorem impl_areInts.calls (A0 : Option Addr) (c0 : Nat) (l0 : List Int) (r : Bool) (w : World) (hr0 : Kd.C (Kd.int .i64) w A0 l0.length l0) (hc0 : l0.length ≤ c0) (h : impl_areInts.f l0 = some r) :
    Calls Try.prog 70 #[.slice A0 l0.length c0] w fun e w' => e = .returned (.bool r) ∧ Below w.heap.size w w' := by
  have HR0 := zm hr0; have HC0 := zm hc0; clear hr0 hc0; have HB := zm (Below.refl w.heap.size w); have H := h
  unfold impl_areInts.f at H
  clear h
  by_cases c2 : (l0.length : Int) ≤ 16
  · rw [if_pos c2] at H
    have c2b0 := decide_eq_true c2
    have c2b1 : decide (l0.length ≤ 16) = true := decide_eq_true (by omega)
    clear c2; replace H := Option.bind_eq_some_iff.mp H
    obtain ⟨t333, A30, H⟩ := H
    replace H : (some t333) = some r := H
    have A3 := zm A30; clear A30; obtain rfl := Option.some.inj H
    go_enter Try.func70, Try.ntmps70
    go_wp2_with (first | (go_at_call 71; (with_reducible refine (all71_impl_isNumber.calls _ _ l0 () t333 _ ?side1 ?side2 A3.out).mono ?_); (case side1 => exact zC HR0.out); (case side2 => exact HC0.out); rintro e w4 ⟨rfl, hb⟩; have n0_ := zm (below_step (by repeat (first | (with_reducible first | exact HB.out | apply below_alloc | apply pw_below_drewN | apply below_drew1) | exact HB.out)) hb); replace HB := n0_; clear n0_; (try clear hb); (try clear hb2); (try clear hk); (try clear hi)))
    go_ret
    exact ⟨ze, by repeat (first | (with_reducible first | exact HB.out | apply below_alloc | apply pw_below_drewN | apply below_drew1) | exact HB.out)⟩
  · rw [if_neg c2] at H
    have c2b0 := decide_eq_false c2
    have c2b1 : decide (l0.length ≤ 16) = false := decide_eq_false (by omega)
    clear c2; obtain rfl := Option.some.inj H
    go_enter Try.func70, Try.ntmps70
    go_wp2
    go_ret
    exact ⟨ze, by repeat (first | (with_reducible first | exact HB.out | apply below_alloc | apply pw_below_drewN | apply below_drew1) | exact HB.out)⟩
def impl_unpack.l0 : Nat → ByteArray → List Int → Int → Option (List Int × Bool)
  | 0, _, _, _ => none
  | k + 1, x0, x4, x5 => if (wrap64 (x5 + 4)) ≤ (x0.size : Int) then (if x5 < 68 then (if 0 ≤ x5 then (if x5 < (x0.size : Int) then (if 0 ≤ (wrap64 (x5 + 1)) then (if (wrap64 (x5 + 1)) < (x0.size : Int) then (if 0 ≤ (wrap64 (x5 + 2)) then (if (wrap64 (x5 + 2)) < (x0.size : Int) then (if 0 ≤ (wrap64 (x5 + 3)) then (if (wrap64 (x5 + 3)) < (x0.size : Int) then (if x4.length < 17592186044416 then (impl_unpack.l0 k x0 (x4 ++ [Go.bits .or .i64 (Go.bits .or .i64 (Go.bits .or .i64 (wrap64 (bt x0 x5)) (wrap64 ((wrap64 (bt x0 (wrap64 (x5 + 1)))) * 256))) (wrap64 ((wrap64 (bt x0 (wrap64 (x5 + 2)))) * 65536))) (wrap64 ((wrap64 (bt x0 (wrap64 (x5 + 3)))) * 16777216))]) (wrap64 (x5 + 4))) else (none)) else (none)) else (none)) else (none)) else (none)) else (none)) else (none)) else (none)) else (none)) else (if ((x0.size : Int) % 4) = 0 then ((impl_areInts.f x4).bind fun t340 => (some (x4, t340))) else (some (x4, false)))) else (if ((x0.size : Int) % 4) = 0 then ((impl_areInts.f x4).bind fun t341 => (some (x4, t341))) else (some (x4, false)))
def impl_unpack.f (k : Nat) (a0 : ByteArray) : Option (List Int × Bool) := impl_unpack.l0 k a0 (([] : List Int)) 0
theorem impl_unpack.mono_l : ∀ k, (∀ y0 y1 y2, LeO (impl_unpack.l0 k y0 y1 y2) (impl_unpack.l0 (k + 1) y0 y1 y2))
  | 0 => fun _ _ _ r h => by simp [impl_unpack.l0] at h
  | k + 1 => by
    have ih0 := impl_unpack.mono_l k
    · intro y0 y1 y2
      unfold impl_unpack.l0
      repeat' first| (with_reducible first | exact ih0 _ _ _ | exact LeO.refl _ | exact LeO.none _ | refine LeO.ite ?_ ?_ | refine LeO.bind ?_ (fun _ => ?_)) | exact ih0 _ _ _ | exact LeO.none _ | refine LeO.ite ?_ ?_ | refine LeO.bind ?_ (fun _ => ?_)
theorem impl_unpack.mono : ∀ a0 k, LeO (impl_unpack.f k a0) (impl_unpack.f (k + 1) a0) := by
  intro a0 k
  have ih0 := impl_unpack.mono_l k
  unfold impl_unpack.f
  repeat' first| (with_reducible first | exact ih0 _ _ _ | exact LeO.refl _ | exact LeO.none _ | refine LeO.ite ?_ ?_ | refine LeO.bind ?_ (fun _ => ?_)) | exact ih0 _ _ _ | exact LeO.none _ | refine LeO.ite ?_ ?_ | refine LeO.bind ?_ (fun _ => ?_)
def impl_unpack.T5 : Bool × List (List Nat × List Nat) := (true, [([], []), ([], []), ([], []), ([1, 2], [1, 2]), ([3], [3]), ([], []), ([], []), ([6], [6]), ([5, 7], [5, 7]), ([8], [8]), ([9], [9]), ([4, 10], [4, 10]), ([], []), ([], []), ([13], [13]), ([12, 14], [12, 14]), ([15], [15]), ([16], [16]), ([11, 17], [11, 17]), ([], []), ([], []), ([20], [20]), ([19, 21], [19, 21]), ([22], [22]), ([23], [23]), ([18, 24], [18, 24]), ([25], [25]), ([0, 26], [0, 26]), ([27, 27, 0, 1, 2, 3, 4, 5, 6, 7, 8, 9, 10, 11, 12, 13, 14, 15, 16, 17, 18, 19, 20, 21, 22, 23, 24, 25, 26, 27], [0, 27])])
def impl_unpack.B5 : List Nat := [0, 0, 0, 6, 14, 0, 0, 64, 224, 480, 992, 2046, 0, 0, 8192, 28672, 61440, 126976, 262142, 0, 0, 1048576, 3670016, 7864320, 16252928, 33554430, 67108862, 134217727, 268435455]
theorem impl_unpack.tab5 : rtab .any (opsOf Try.f69 5) = impl_unpack.T5 := by kernel_rfl
theorem impl_unpack.bits5 : waitsOk impl_unpack.T5.2 impl_unpack.B5 = true := by kernel_rfl
set_option maxHeartbeats 8000000 in
set_option maxRecDepth 100000 in
theorem impl_unpack.calls (k : Nat) (a0 : ByteArray) (r1 : List Int) (r2 : Bool) (w : World) (h : impl_unpack.f k a0 = some (r1, r2)) :
    Calls Try.prog 69 #[.string a0] w fun e w' => ∃ v0_ : Value, e = .returned (.tuple #[v0_, .bool r2]) ∧ Kd.R (Kd.int .i64) 3 w' w.heap.size (fun _ => True) v0_ r1 ∧ Below w.heap.size w w' := by
 have HB := zm (Below.refl w.heap.size w)
 have H : (impl_unpack.l0 k a0 (([] : List Int)) 0) = some (r1, r2) := h
 clear h
 obtain ⟨y334, hy334⟩ : ∃ y_ : List Int, y_ = (([] : List Int)) := ⟨_, rfl⟩
 replace H : (impl_unpack.l0 k a0 y334 0) = some (r1, r2) := by first | (rw [hy334]; with_reducible exact H) | (have H2_ := (Option.bind_some _ _).symm.trans H; rw [hy334]; with_reducible exact H2_) | (have H2_ := (Option.bind_some _ _).symm.trans H; with_reducible exact H2_) | with_reducible exact H | (rw [hy334]; exact H) | exact H
 have Ny334 := zm hy334; clear hy334
 have H' := zm H
 clear H
 go_enter Try.func69, Try.ntmps69
 go_wp2_with (first | ((with_reducible refine gate_dst (N := 6) rfl ?_); refine Kd.R_lit (Kd.int .i64) _ 3 ?hg (N := 6) ?hd (xs := ([] : List Int)) (inner := []) (ok := fun _ => True) (okp := fun _ => True) ?hr ?hp (fun _ hk => hk) trivial (Below.refl _ _) (Nat.le_refl _) (by simp) ?_; (case hd => rfl); (case hg => rfl); (case hr => first | (go_simp; done) | (go_simp; rfl)); (case hp => exact (Reps.none _ _)); intro v335 w2 ho3 hb hg_ hnew_; clear hg_ hnew_; (first | rw [← Ny334.out] at ho3 | (simp only [Int.reduceToNat] at ho3; rw [← Ny334.out] at ho3)); have n0_ := zm (Kd.R_lower ho3 (below_size (zg_0 HB.out))); have n1_ := zm (below_step (zg_0 HB.out) hb); have Zb := n0_; replace HB := n1_; clear n0_ n1_; clear hb ho3))
 go_loopg [4, 5] k (fun kq v4 v5 w' => ∃ (x4_1 : List Int) (x5_1 : Int), v5 = .int .i64 x5_1 ∧ Aside0 (impl_unpack.l0 kq a0 x4_1 x5_1 = some (r1, r2)) ∧ Aside0 (kq ≤ k) ∧ Aside0 (Kd.R (Kd.int .i64) 3 w' w.heap.size (fun _ => True) v4 x4_1) ∧ Aside0 (Below w.heap.size w w'))
 case atStart => exact ⟨(y334), (0), zr, H', ⟨Nat.le_refl _⟩, ⟨zlR Zb.out⟩, ⟨zg_0 HB.out⟩⟩
 case round =>
  clear H'
  try clear p2
  obtain ⟨x4_1, x5_1, rfl, HA, HK1, Za, HB⟩ := hrel
  cases gk with
  | zero => exact absurd HA.out (by simp [impl_unpack.l0])
  | succ k1 =>
   have H := HA.out; clear HA
   simp only [impl_unpack.l0] at H
   by_cases c4 : (wrap64 (x5_1 + 4)) ≤ (a0.size : Int)
   ·rw [if_pos c4] at H
    have c4b0 := decide_eq_true c4; clear c4
    by_cases c5 : x5_1 < 68
    ·rw [if_pos c5] at H
     have c5b0 := decide_eq_true c5; clear c5
     by_cases c6 : 0 ≤ x5_1
     ·rw [if_pos c6] at H
      have c6b0 := decide_eq_true c6; clear c6
      by_cases c7 : x5_1 < (a0.size : Int)
      ·rw [if_pos c7] at H
       have c7b0 := decide_eq_true c7; clear c7
       obtain ⟨ji9, hji9⟩ : ∃ j_ : Int, (wrap64 (x5_1 + 1)) = j_ := ⟨_, rfl⟩
       replace H : (if 0 ≤ (ji9) then (if (ji9) < (a0.size : Int) then (if 0 ≤ (wrap64 (x5_1 + 2)) then (if (wrap64 (x5_1 + 2)) < (a0.size : Int) then (if 0 ≤ (wrap64 (x5_1 + 3)) then (if (wrap64 (x5_1 + 3)) < (a0.size : Int) then (if x4_1.length < 17592186044416 then (impl_unpack.l0 k1 a0 (x4_1 ++ [Go.bits .or .i64 (Go.bits .or .i64 (Go.bits .or .i64 (wrap64 (bt a0 x5_1)) (wrap64 ((wrap64 (bt a0 (ji9))) * 256))) (wrap64 ((wrap64 (bt a0 (wrap64 (x5_1 + 2)))) * 65536))) (wrap64 ((wrap64 (bt a0 (wrap64 (x5_1 + 3)))) * 16777216))]) (wrap64 (x5_1 + 4))) else (none)) else (none)) else (none)) else (none)) else (none)) else (none)) else (none)) = some (r1, r2) := by first | (rw [hji9] at H; exact H) | (simp only [hji9] at H ⊢; exact H)
       have hji9w : (IntKind.i64.wrap (x5_1 + 1)) = ji9 := (i64_w _).trans hji9
       by_cases c10 : 0 ≤ (ji9)
       ·rw [if_pos c10] at H
        have c10b0 := decide_eq_true c10; clear c10
        by_cases c11 : (ji9) < (a0.size : Int)
        ·rw [if_pos c11] at H
         have c11b0 := decide_eq_true c11; clear c11
         obtain ⟨ji13, hji13⟩ : ∃ j_ : Int, (wrap64 (x5_1 + 2)) = j_ := ⟨_, rfl⟩
         replace H : (if 0 ≤ (ji13) then (if (ji13) < (a0.size : Int) then (if 0 ≤ (wrap64 (x5_1 + 3)) then (if (wrap64 (x5_1 + 3)) < (a0.size : Int) then (if x4_1.length < 17592186044416 then (impl_unpack.l0 k1 a0 (x4_1 ++ [Go.bits .or .i64 (Go.bits .or .i64 (Go.bits .or .i64 (wrap64 (bt a0 x5_1)) (wrap64 ((wrap64 (bt a0 (ji9))) * 256))) (wrap64 ((wrap64 (bt a0 (ji13))) * 65536))) (wrap64 ((wrap64 (bt a0 (wrap64 (x5_1 + 3)))) * 16777216))]) (wrap64 (x5_1 + 4))) else (none)) else (none)) else (none)) else (none)) else (none)) = some (r1, r2) := by first | (rw [hji13] at H; exact H) | (simp only [hji13] at H ⊢; exact H)
         have hji13w : (IntKind.i64.wrap (x5_1 + 2)) = ji13 := (i64_w _).trans hji13
         by_cases c14 : 0 ≤ (ji13)
         ·rw [if_pos c14] at H
          have c14b0 := decide_eq_true c14; clear c14
          by_cases c15 : (ji13) < (a0.size : Int)
          ·rw [if_pos c15] at H
           have c15b0 := decide_eq_true c15; clear c15
           obtain ⟨ji17, hji17⟩ : ∃ j_ : Int, (wrap64 (x5_1 + 3)) = j_ := ⟨_, rfl⟩
           replace H : (if 0 ≤ (ji17) then (if (ji17) < (a0.size : Int) then (if x4_1.length < 17592186044416 then (impl_unpack.l0 k1 a0 (x4_1 ++ [Go.bits .or .i64 (Go.bits .or .i64 (Go.bits .or .i64 (wrap64 (bt a0 x5_1)) (wrap64 ((wrap64 (bt a0 (ji9))) * 256))) (wrap64 ((wrap64 (bt a0 (ji13))) * 65536))) (wrap64 ((wrap64 (bt a0 (ji17))) * 16777216))]) (wrap64 (x5_1 + 4))) else (none)) else (none)) else (none)) = some (r1, r2) := by first | (rw [hji17] at H; exact H) | (simp only [hji17] at H ⊢; exact H)
           have hji17w : (IntKind.i64.wrap (x5_1 + 3)) = ji17 := (i64_w _).trans hji17
           by_cases c18 : 0 ≤ (ji17)
           ·rw [if_pos c18] at H
            have c18b0 := decide_eq_true c18; clear c18
            by_cases c19 : (ji17) < (a0.size : Int)
            ·rw [if_pos c19] at H
             have c19b0 := decide_eq_true c19; clear c19
             by_cases c21 : x4_1.length < 17592186044416
             ·rw [if_pos c21] at H
              have LMc21 := zm c21; clear c21
              obtain ⟨y337, hy337⟩ : ∃ y_ : List Int, y_ = (x4_1 ++ [Go.bits .or .i64 (Go.bits .or .i64 (Go.bits .or .i64 (wrap64 (bt a0 x5_1)) (wrap64 ((wrap64 (bt a0 (ji9))) * 256))) (wrap64 ((wrap64 (bt a0 (ji13))) * 65536))) (wrap64 ((wrap64 (bt a0 (ji17))) * 16777216))]) := ⟨_, rfl⟩
              replace H : (impl_unpack.l0 k1 a0 y337 (wrap64 (x5_1 + 4))) = some (r1, r2) := by first | (rw [hy337]; with_reducible exact H) | (have H2_ := (Option.bind_some _ _).symm.trans H; rw [hy337]; with_reducible exact H2_) | (have H2_ := (Option.bind_some _ _).symm.trans H; with_reducible exact H2_) | with_reducible exact H | (rw [hy337]; exact H) | exact H
              have Ny337 := zm hy337; clear hy337
              have H' := zm H
              clear H
              try go_wp2
              have n0_ := zm (Kd.R_drew Za.out); have n1_ := zm (below_drew1 HB.out); clear Za; clear HB; have Za := n0_; have HB := n1_; clear n0_ n1_
              have p8 : 0 ≤ (x5_1 : Int) := zd
              have q8 : x5_1 < (a0.size : Int) := zd
              have hx8 := bt_at a0 x5_1; replace p8 := eq_true p8; replace q8 := eq_true q8
              have p12 : 0 ≤ ((ji9) : Int) := zd
              have q12 : (ji9) < (a0.size : Int) := zd
              have hx12 := bt_at a0 (ji9); replace p12 := eq_true p12; replace q12 := eq_true q12
              have p16 : 0 ≤ ((ji13) : Int) := zd
              have q16 : (ji13) < (a0.size : Int) := zd
              have hx16 := bt_at a0 (ji13); replace p16 := eq_true p16; replace q16 := eq_true q16
              have p20 : 0 ≤ ((ji17) : Int) := zd
              have q20 : (ji17) < (a0.size : Int) := zd
              have hx20 := bt_at a0 (ji17); replace p20 := eq_true p20; replace q20 := eq_true q20
              refine start_ (n := 29) (S := fun w' => True) (ds := []) #[false, false, false, false, false, false, false, false, false, false, false, false, false, false, false, false, false, false, false, false, false, false, false, false, false, false, false, false, false] (by kernel_rfl) rfl rfl trivial (fun hHeld => ?_); refine with_tabW impl_unpack.tab5 impl_unpack.bits5 (fun HT_ HW_ => ?_)
              generalize wr.drew = w22 at Za HB hHeld ⊢
              refine pure_ (i := 0) (N := some 18) (v := ?_) (a' := ?_) #[true, false, false, false, false, false, false, false, false, false, false, false, false, false, false, false, false, false, false, false, false, false, false, false, false, false, false, false, false] rfl rfl (any_of HT_.out (by kernel_rfl)) (fun _ _ _ h => h) (Or.inl ⟨by rfl, ?_⟩) ?_ ?_
              rotate_left
              ·intro w'
               go_simp
               with_reducible rfl
              rotate_left
              ·simp only [Act.put, zs, zz, zt, i64_w, i32_w]
               rfl
              refine pure_ (i := 1) (N := some 19) (v := ?_) (a' := ?_) #[true, true, false, false, false, false, false, false, false, false, false, false, false, false, false, false, false, false, false, false, false, false, false, false, false, false, false, false, false] rfl rfl (any_of HT_.out (by kernel_rfl)) (fun _ _ _ h => h) (Or.inl ⟨by rfl, ?_⟩) ?_ ?_
              rotate_left
              ·intro w'
               go_simp
               with_reducible rfl
              rotate_left
              ·simp only [Act.put, zs, zz, zt, i64_w, i32_w]
               rfl
              refine pure_ (i := 2) (N := some 20) (v := ?_) (a' := ?_) #[true, true, true, false, false, false, false, false, false, false, false, false, false, false, false, false, false, false, false, false, false, false, false, false, false, false, false, false, false] rfl rfl (any_of HT_.out (by kernel_rfl)) (fun _ _ _ h => h) (Or.inl ⟨by rfl, ?_⟩) ?_ ?_
              rotate_left
              ·intro w'
               go_simp
               with_reducible rfl
              rotate_left
              ·simp only [Act.put, zs, zz, zt, i64_w, i32_w]
               rfl
              refine pure_ (i := 5) (N := some 23) (v := ?_) (a' := ?_) #[true, true, true, false, false, true, false, false, false, false, false, false, false, false, false, false, false, false, false, false, false, false, false, false, false, false, false, false, false] rfl rfl (any_of HT_.out (by kernel_rfl)) (fun _ _ _ h => h) (Or.inl ⟨by rfl, ?_⟩) ?_ ?_
              rotate_left
              ·intro w'
               go_simp
               with_reducible rfl
              rotate_left
              ·simp only [Act.put, zs, zz, zt, i64_w, i32_w]
               rfl
              refine pure_ (i := 6) (N := some 24) (v := ?_) (a' := ?_) #[true, true, true, false, false, true, true, false, false, false, false, false, false, false, false, false, false, false, false, false, false, false, false, false, false, false, false, false, false] rfl rfl (any_of HT_.out (by kernel_rfl)) (fun _ _ _ h => h) (Or.inl ⟨by rfl, ?_⟩) ?_ ?_
              rotate_left
              ·intro w'
               go_simp
               with_reducible rfl
              rotate_left
              ·simp only [Act.put, zs, zz, zt, i64_w, i32_w]
               rfl
              refine pure_ (i := 7) (N := some 25) (v := ?_) (a' := ?_) #[true, true, true, false, false, true, true, true, false, false, false, false, false, false, false, false, false, false, false, false, false, false, false, false, false, false, false, false, false] rfl rfl (any_of HT_.out (by kernel_rfl)) (fun _ _ _ h => h) (Or.inl ⟨by rfl, ?_⟩) ?_ ?_
              rotate_left
              ·intro w'
               go_simp
               with_reducible rfl
              rotate_left
              ·simp only [Act.put, zs, zz, zt, i64_w, i32_w]
               rfl
              refine pure_ (i := 12) (N := some 30) (v := ?_) (a' := ?_) #[true, true, true, false, false, true, true, true, false, false, false, false, true, false, false, false, false, false, false, false, false, false, false, false, false, false, false, false, false] rfl rfl (any_of HT_.out (by kernel_rfl)) (fun _ _ _ h => h) (Or.inl ⟨by rfl, ?_⟩) ?_ ?_
              rotate_left
              ·intro w'
               go_simp
               with_reducible rfl
              rotate_left
              ·simp only [Act.put, zs, zz, zt, i64_w, i32_w]
               rfl
              refine pure_ (i := 13) (N := some 31) (v := ?_) (a' := ?_) #[true, true, true, false, false, true, true, true, false, false, false, false, true, true, false, false, false, false, false, false, false, false, false, false, false, false, false, false, false] rfl rfl (any_of HT_.out (by kernel_rfl)) (fun _ _ _ h => h) (Or.inl ⟨by rfl, ?_⟩) ?_ ?_
              rotate_left
              ·intro w'
               go_simp
               with_reducible rfl
              rotate_left
              ·simp only [Act.put, zs, zz, zt, i64_w, i32_w]
               rfl
              refine pure_ (i := 14) (N := some 32) (v := ?_) (a' := ?_) #[true, true, true, false, false, true, true, true, false, false, false, false, true, true, true, false, false, false, false, false, false, false, false, false, false, false, false, false, false] rfl rfl (any_of HT_.out (by kernel_rfl)) (fun _ _ _ h => h) (Or.inl ⟨by rfl, ?_⟩) ?_ ?_
              rotate_left
              ·intro w'
               go_simp
               with_reducible rfl
              rotate_left
              ·simp only [Act.put, zs, zz, zt, i64_w, i32_w]
               rfl
              refine pure_ (i := 19) (N := some 37) (v := ?_) (a' := ?_) #[true, true, true, false, false, true, true, true, false, false, false, false, true, true, true, false, false, false, false, true, false, false, false, false, false, false, false, false, false] rfl rfl (any_of HT_.out (by kernel_rfl)) (fun _ _ _ h => h) (Or.inl ⟨by rfl, ?_⟩) ?_ ?_
              rotate_left
              ·intro w'
               go_simp
               with_reducible rfl
              rotate_left
              ·simp only [Act.put, zs, zz, zt, i64_w, i32_w]
               rfl
              refine pure_ (i := 20) (N := some 38) (v := ?_) (a' := ?_) #[true, true, true, false, false, true, true, true, false, false, false, false, true, true, true, false, false, false, false, true, true, false, false, false, false, false, false, false, false] rfl rfl (any_of HT_.out (by kernel_rfl)) (fun _ _ _ h => h) (Or.inl ⟨by rfl, ?_⟩) ?_ ?_
              rotate_left
              ·intro w'
               go_simp
               with_reducible rfl
              rotate_left
              ·simp only [Act.put, zs, zz, zt, i64_w, i32_w]
               rfl
              refine pure_ (i := 21) (N := some 39) (v := ?_) (a' := ?_) #[true, true, true, false, false, true, true, true, false, false, false, false, true, true, true, false, false, false, false, true, true, true, false, false, false, false, false, false, false] rfl rfl (any_of HT_.out (by kernel_rfl)) (fun _ _ _ h => h) (Or.inl ⟨by rfl, ?_⟩) ?_ ?_
              rotate_left
              ·intro w'
               go_simp
               with_reducible rfl
              rotate_left
              ·simp only [Act.put, zs, zz, zt, i64_w, i32_w]
               rfl
              refine take_ (i := 3) (N := some 21) (v := ?_) (a' := ?_) #[true, true, true, true, false, true, true, true, false, false, false, false, true, true, true, false, false, false, false, true, true, true, false, false, false, false, false, false, false] rfl rfl (take_ofW HT_.out HW_.out (by kernel_rfl)) (fun _ _ _ h => h) (Or.inl ⟨by rfl, ?_⟩) hHeld ?_ ?_
              rotate_left
              ·intro w' _
               go_simp
               with_reducible rfl
              rotate_left
              ·simp only [Act.put, zs, zz, zt, i64_w, i32_w]
               rfl
              refine pure_ (i := 4) (N := some 22) (v := ?_) (a' := ?_) #[true, true, true, true, true, true, true, true, false, false, false, false, true, true, true, false, false, false, false, true, true, true, false, false, false, false, false, false, false] rfl rfl (any_of HT_.out (by kernel_rfl)) (fun _ _ _ h => h) (Or.inl ⟨by rfl, ?_⟩) ?_ ?_
              rotate_left
              ·intro w'
               go_simp
               with_reducible rfl
              rotate_left
              ·simp only [Act.put, zs, zz, zt, i64_w, i32_w]
               rfl
              refine take_ (i := 8) (N := some 26) (v := ?_) (a' := ?_) #[true, true, true, true, true, true, true, true, true, false, false, false, true, true, true, false, false, false, false, true, true, true, false, false, false, false, false, false, false] rfl rfl (take_ofW HT_.out HW_.out (by kernel_rfl)) (fun _ _ _ h => h) (Or.inl ⟨by rfl, ?_⟩) hHeld ?_ ?_
              rotate_left
              ·intro w' _
               go_simp
               with_reducible rfl
              rotate_left
              ·simp only [Act.put, zs, zz, zt, i64_w, i32_w]
               rfl
              refine pure_ (i := 9) (N := some 27) (v := ?_) (a' := ?_) #[true, true, true, true, true, true, true, true, true, true, false, false, true, true, true, false, false, false, false, true, true, true, false, false, false, false, false, false, false] rfl rfl (any_of HT_.out (by kernel_rfl)) (fun _ _ _ h => h) (Or.inl ⟨by rfl, ?_⟩) ?_ ?_
              rotate_left
              ·intro w'
               go_simp
               with_reducible rfl
              rotate_left
              ·simp only [Act.put, zs, zz, zt, i64_w, i32_w]
               rfl
              refine pure_ (i := 10) (N := some 28) (v := ?_) (a' := ?_) #[true, true, true, true, true, true, true, true, true, true, true, false, true, true, true, false, false, false, false, true, true, true, false, false, false, false, false, false, false] rfl rfl (any_of HT_.out (by kernel_rfl)) (fun _ _ _ h => h) (Or.inl ⟨by rfl, ?_⟩) ?_ ?_
              rotate_left
              ·intro w'
               go_simp
               with_reducible rfl
              rotate_left
              ·simp only [Act.put, zs, zz, zt, i64_w, i32_w]
               rfl
              refine pure_ (i := 11) (N := some 29) (v := ?_) (a' := ?_) #[true, true, true, true, true, true, true, true, true, true, true, true, true, true, true, false, false, false, false, true, true, true, false, false, false, false, false, false, false] rfl rfl (any_of HT_.out (by kernel_rfl)) (fun _ _ _ h => h) (Or.inl ⟨by rfl, ?_⟩) ?_ ?_
              rotate_left
              ·intro w'
               go_simp
               with_reducible rfl
              rotate_left
              ·simp only [Act.put, zs, zz, zt, i64_w, i32_w]
               rfl
              refine take_ (i := 15) (N := some 33) (v := ?_) (a' := ?_) #[true, true, true, true, true, true, true, true, true, true, true, true, true, true, true, true, false, false, false, true, true, true, false, false, false, false, false, false, false] rfl rfl (take_ofW HT_.out HW_.out (by kernel_rfl)) (fun _ _ _ h => h) (Or.inl ⟨by rfl, ?_⟩) hHeld ?_ ?_
              rotate_left
              ·intro w' _
               go_simp
               with_reducible rfl
              rotate_left
              ·simp only [Act.put, zs, zz, zt, i64_w, i32_w]
               rfl
              refine pure_ (i := 16) (N := some 34) (v := ?_) (a' := ?_) #[true, true, true, true, true, true, true, true, true, true, true, true, true, true, true, true, true, false, false, true, true, true, false, false, false, false, false, false, false] rfl rfl (any_of HT_.out (by kernel_rfl)) (fun _ _ _ h => h) (Or.inl ⟨by rfl, ?_⟩) ?_ ?_
              rotate_left
              ·intro w'
               go_simp
               with_reducible rfl
              rotate_left
              ·simp only [Act.put, zs, zz, zt, i64_w, i32_w]
               rfl
              refine pure_ (i := 17) (N := some 35) (v := ?_) (a' := ?_) #[true, true, true, true, true, true, true, true, true, true, true, true, true, true, true, true, true, true, false, true, true, true, false, false, false, false, false, false, false] rfl rfl (any_of HT_.out (by kernel_rfl)) (fun _ _ _ h => h) (Or.inl ⟨by rfl, ?_⟩) ?_ ?_
              rotate_left
              ·intro w'
               go_simp
               with_reducible rfl
              rotate_left
              ·simp only [Act.put, zs, zz, zt, i64_w, i32_w]
               rfl
              refine pure_ (i := 18) (N := some 36) (v := ?_) (a' := ?_) #[true, true, true, true, true, true, true, true, true, true, true, true, true, true, true, true, true, true, true, true, true, true, false, false, false, false, false, false, false] rfl rfl (any_of HT_.out (by kernel_rfl)) (fun _ _ _ h => h) (Or.inl ⟨by rfl, ?_⟩) ?_ ?_
              rotate_left
              ·intro w'
               go_simp
               with_reducible rfl
              rotate_left
              ·simp only [Act.put, zs, zz, zt, i64_w, i32_w]
               rfl
              refine take_ (i := 22) (N := some 40) (v := ?_) (a' := ?_) #[true, true, true, true, true, true, true, true, true, true, true, true, true, true, true, true, true, true, true, true, true, true, true, false, false, false, false, false, false] rfl rfl (take_ofW HT_.out HW_.out (by kernel_rfl)) (fun _ _ _ h => h) (Or.inl ⟨by rfl, ?_⟩) hHeld ?_ ?_
              rotate_left
              ·intro w' _
               go_simp
               with_reducible rfl
              rotate_left
              ·simp only [Act.put, zs, zz, zt, i64_w, i32_w]
               rfl
              refine pure_ (i := 23) (N := some 41) (v := ?_) (a' := ?_) #[true, true, true, true, true, true, true, true, true, true, true, true, true, true, true, true, true, true, true, true, true, true, true, true, false, false, false, false, false] rfl rfl (any_of HT_.out (by kernel_rfl)) (fun _ _ _ h => h) (Or.inl ⟨by rfl, ?_⟩) ?_ ?_
              rotate_left
              ·intro w'
               go_simp
               with_reducible rfl
              rotate_left
              ·simp only [Act.put, zs, zz, zt, i64_w, i32_w]
               rfl
              refine pure_ (i := 24) (N := some 42) (v := ?_) (a' := ?_) #[true, true, true, true, true, true, true, true, true, true, true, true, true, true, true, true, true, true, true, true, true, true, true, true, true, false, false, false, false] rfl rfl (any_of HT_.out (by kernel_rfl)) (fun _ _ _ h => h) (Or.inl ⟨by rfl, ?_⟩) ?_ ?_
              rotate_left
              ·intro w'
               go_simp
               with_reducible rfl
              rotate_left
              ·simp only [Act.put, zs, zz, zt, i64_w, i32_w]
               rfl
              refine pure_ (i := 25) (N := some 43) (v := ?_) (a' := ?_) #[true, true, true, true, true, true, true, true, true, true, true, true, true, true, true, true, true, true, true, true, true, true, true, true, true, true, false, false, false] rfl rfl (any_of HT_.out (by kernel_rfl)) (fun _ _ _ h => h) (Or.inl ⟨by rfl, ?_⟩) ?_ ?_
              rotate_left
              ·intro w'
               go_simp
               with_reducible rfl
              rotate_left
              ·simp only [Act.put, zs, zz, zt, i64_w, i32_w]
               rfl
              refine one_ (i := 26) (N := some 44) #[true, true, true, true, true, true, true, true, true, true, true, true, true, true, true, true, true, true, true, true, true, true, true, true, true, true, true, false, false] rfl rfl (one_of HT_.out (by kernel_rfl)) (by decide) (fun K hK => ?_)
              refine value_ (w1 := ?_) (v := ?_) (by rfl) rfl ?_ ?_
              rotate_left 2
              ·go_simp
               constructor
               ·rfl
               ·rfl
              refine hK.out _ _ trivial (fun hHeld => ?_)
              clear hK K
              refine norm_ (a' := ?_) ?_ ?_
              rotate_left
              ·show Act.put _ (some 44) _ = _
               simp only [Act.put, zs, zz, zt, i64_w, i32_w]
               rfl
              refine one_ (i := 27) (N := some 45) #[true, true, true, true, true, true, true, true, true, true, true, true, true, true, true, true, true, true, true, true, true, true, true, true, true, true, true, true, false] rfl rfl (one_of HT_.out (by kernel_rfl)) (by decide) (fun K hK => ?_)
              refine Kd.R_append_step (Kd.int .i64) (w0 := w) w.heap.size (by rfl) (.tmp 18) (.tmp 44) 85 3 (.int .i64 0) 8 rfl Try.underlying85 info3 rfl (by decide) (by omega) u4 x4_1 (Go.bits .or .i64 (Go.bits .or .i64 (Go.bits .or .i64 (wrap64 (bt a0 x5_1)) (wrap64 ((wrap64 (bt a0 (ji9))) * 256))) (wrap64 ((wrap64 (bt a0 (ji13))) * 65536))) (wrap64 ((wrap64 (bt a0 (ji17))) * 16777216))) [.int .i64 (Go.bits .or .i64 (Go.bits .or .i64 (Go.bits .or .i64 (wrap64 (bt a0 x5_1)) (wrap64 ((wrap64 (bt a0 (ji9))) * 256))) (wrap64 ((wrap64 (bt a0 (ji13))) * 65536))) (wrap64 ((wrap64 (bt a0 (ji17))) * 16777216)))] (fun _ => True) (fun _ => False) rfl rfl ?aP (fun _ hk => hk.elim) ?aF ?aO ?aB ?aS ?aL ?_
              (case aP => exact rfl)
              (case aB => exact (zg_0 HB.out))
              (case aF => exact (fun _ _ => trivial))
              (case aO => exact (zg_2 Za.out))
              (case aS => exact (below_size (zg_0 HB.out)))
              (case aL => have := LMc21.out; omega)
              intro v338 w23 ho hb hg hat
              rw [← Ny337.out] at ho
              have n0_ := zm (hb); have n1_ := zm (ho); clear HB; clear Za; have HB := n0_; have Zc := n1_; clear n0_ n1_; clear ho hb hg hat
              refine hK.out _ _ trivial (fun hHeld => ?_)
              clear hK K
              refine norm_ (a' := ?_) ?_ ?_
              rotate_left
              ·show Act.put _ (some 45) _ = _
               simp only [Act.put, zs, zz, zt, i64_w, i32_w]
               rfl
              refine pure_ (i := 28) (N := some 4) (v := ?_) (a' := ?_) #[true, true, true, true, true, true, true, true, true, true, true, true, true, true, true, true, true, true, true, true, true, true, true, true, true, true, true, true, true] rfl rfl (any_of HT_.out (by kernel_rfl)) (fun _ _ _ h => h) (Or.inl ⟨by rfl, ?_⟩) ?_ ?_
              rotate_left
              ·intro w'
               go_simp
               with_reducible rfl
              rotate_left
              ·simp only [Act.put, zs, zz, zt, i64_w, i32_w]
               rfl
              refine done_ (done_of HT_.out (by kernel_rfl)) ?_
              try go_wp2
              go_roundg k1
              case measure => have := HK1.out; omega
              case rel => exact ⟨(y337), (wrap64 (x5_1 + 4)), zr, H', ⟨by have := HK1.out; omega⟩, ⟨zlR Zc.out⟩, ⟨zg_0 HB.out⟩⟩
             ·rw [if_neg c21] at H
              exact absurd H (by simp)
            ·rw [if_neg c19] at H
             exact absurd H (by simp)
           ·rw [if_neg c18] at H
            exact absurd H (by simp)
          ·rw [if_neg c15] at H
           exact absurd H (by simp)
         ·rw [if_neg c14] at H
          exact absurd H (by simp)
        ·rw [if_neg c11] at H
         exact absurd H (by simp)
       ·rw [if_neg c10] at H
        exact absurd H (by simp)
      ·rw [if_neg c7] at H
       exact absurd H (by simp)
     ·rw [if_neg c6] at H
      exact absurd H (by simp)
    ·rw [if_neg c5] at H
     have c5b0 := decide_eq_false c5; clear c5
     by_cases c24 : ((a0.size : Int) % 4) = 0
     ·rw [if_pos c24] at H
      have c24b0 : (((a0.size : Int) % 4) == 0) = true := beq_iff_eq.mpr c24
      have c24b1 : (((a0.size : Int) % 4) != 0) = false := bne_eq_false_iff_eq.mpr c24
      clear c24; replace H := Option.bind_eq_some_iff.mp H
      obtain ⟨t340, A250, H⟩ := H
      replace H : (some (x4_1, t340)) = some (r1, r2) := H
      have A25 := zm A250; clear A250
      simp only [Option.some.injEq, Prod.mk.injEq] at H
      obtain ⟨rfl, rfl⟩ := H
      obtain ⟨Ao26, co26, eo26⟩ := Kd.R_slice Za.out
      subst eo26
      go_wp2_with (first | (go_at_call 70; (with_reducible refine (impl_areInts.calls _ _ x4_1 t340 _ ?side1 ?side2 A25.out).mono ?_); (case side1 => exact zC ((Kd.R_reads' Za.out).2.2)); (case side2 => exact (Kd.R_reads' Za.out).2.1); rintro e w27 ⟨rfl, hb⟩; have n0_ := zm (Kd.R_below (zg_2 Za.out) hb); have n1_ := zm (below_step (zg_0 HB.out) hb); replace Za := n0_; replace HB := n1_; clear n0_ n1_; (try clear hb); (try clear hb2); (try clear hk); (try clear hi)))
      go_ret2
      exact ⟨_, ze, by (with_reducible repeat (first | apply Kd.R_alloc | apply Kd.R_drewN | apply Kd.R_drew)); exact Za.out, zg_0 HB.out⟩
     ·rw [if_neg c24] at H
      have c24b0 : (((a0.size : Int) % 4) == 0) = false := beq_eq_false_iff_ne.mpr c24
      have c24b1 : (((a0.size : Int) % 4) != 0) = true := bne_iff_ne.mpr c24
      simp only [Option.some.injEq, Prod.mk.injEq] at H
      obtain ⟨rfl, rfl⟩ := H
      go_wp2
      go_ret2
      exact ⟨_, ze, by (with_reducible repeat (first | apply Kd.R_alloc | apply Kd.R_drewN | apply Kd.R_drew)); exact Za.out, zg_0 HB.out⟩
   ·rw [if_neg c4] at H
    have c4b0 := decide_eq_false c4; clear c4
    by_cases c28 : ((a0.size : Int) % 4) = 0
    ·rw [if_pos c28] at H
     have c28b0 : (((a0.size : Int) % 4) == 0) = true := beq_iff_eq.mpr c28
     have c28b1 : (((a0.size : Int) % 4) != 0) = false := bne_eq_false_iff_eq.mpr c28
     clear c28; replace H := Option.bind_eq_some_iff.mp H
     obtain ⟨t341, A290, H⟩ := H
     replace H : (some (x4_1, t341)) = some (r1, r2) := H
     have A29 := zm A290; clear A290
     simp only [Option.some.injEq, Prod.mk.injEq] at H
     obtain ⟨rfl, rfl⟩ := H
     obtain ⟨Ao30, co30, eo30⟩ := Kd.R_slice Za.out
     subst eo30
     go_wp2_with (first | (go_at_call 70; (with_reducible refine (impl_areInts.calls _ _ x4_1 t341 _ ?side1 ?side2 A29.out).mono ?_); (case side1 => exact zC ((Kd.R_reads' Za.out).2.2)); (case side2 => exact (Kd.R_reads' Za.out).2.1); rintro e w31 ⟨rfl, hb⟩; have n0_ := zm (Kd.R_below (zg_2 Za.out) hb); have n1_ := zm (below_step (zg_0 HB.out) hb); replace Za := n0_; replace HB := n1_; clear n0_ n1_; (try clear hb); (try clear hb2); (try clear hk); (try clear hi)))
     go_ret2
     exact ⟨_, ze, by (with_reducible repeat (first | apply Kd.R_alloc | apply Kd.R_drewN | apply Kd.R_drew)); exact Za.out, zg_0 HB.out⟩
    ·rw [if_neg c28] at H
     have c28b0 : (((a0.size : Int) % 4) == 0) = false := beq_eq_false_iff_ne.mpr c28
     have c28b1 : (((a0.size : Int) % 4) != 0) = true := bne_iff_ne.mpr c28
     simp only [Option.some.injEq, Prod.mk.injEq] at H
     obtain ⟨rfl, rfl⟩ := H
     go_wp2
     go_ret2
     exact ⟨_, ze, by (with_reducible repeat (first | apply Kd.R_alloc | apply Kd.R_drewN | apply Kd.R_drew)); exact Za.out, zg_0 HB.out⟩
def impl_opened.j0 : Nat → ByteArray → Bool → Option (Int × List Int × Bool)
  | 0, _, _ => none
  | k + 1, x0, x21 => if x21 = true then (some (0, ([] : List Int), false)) else (if 4 ≤ (x0.size : Int) then ((impl_unpack.f k (x0.extract 4 x0.size)).bind fun bt343 => (if 0 < (x0.size : Int) then (if bt343.2 = true then ((impl_seal.f k (wrap64 (bt x0 0)) bt343.1).bind fun t347 => (some (wrap64 (bt x0 0), bt343.1, (t347.toList == x0.toList)))) else (some (wrap64 (bt x0 0), bt343.1, false))) else (none))) else (none))
def impl_opened.f (k : Nat) (a0 : ByteArray) : Option (Int × List Int × Bool) := if (a0.size : Int) < 4 then (impl_opened.j0 k a0 true) else (if (a0.size : Int) > 80 then (impl_opened.j0 k a0 true) else (if 0 < (a0.size : Int) then ((impl_isKind.f (wrap64 (bt a0 0))).bind fun t342 => (impl_opened.j0 k a0 (!t342))) else (none)))
theorem impl_opened.mono_l : ∀ k, (∀ y0 y1, LeO (impl_opened.j0 k y0 y1) (impl_opened.j0 (k + 1) y0 y1))
  | 0 => fun _ _ r h => by simp [impl_opened.j0] at h
  | k + 1 => by
    have ih0 := impl_opened.mono_l k
    · intro y0 y1
      unfold impl_opened.j0
      repeat' first| (with_reducible first | exact ih0 _ _ | exact impl_seal.mono _ _ _ | exact impl_unpack.mono _ _ | exact LeO.refl _ | exact LeO.none _ | refine LeO.ite ?_ ?_ | refine LeO.bind ?_ (fun _ => ?_)) | exact ih0 _ _ | exact impl_seal.mono _ _ _ | exact impl_unpack.mono _ _ | exact LeO.none _ | refine LeO.ite ?_ ?_ | refine LeO.bind ?_ (fun _ => ?_)
theorem impl_opened.mono : ∀ a0 k, LeO (impl_opened.f k a0) (impl_opened.f (k + 1) a0) := by
  intro a0 k
  have ih0 := impl_opened.mono_l k
  unfold impl_opened.f
  repeat' first| (with_reducible first | exact ih0 _ _ | exact impl_seal.mono _ _ _ | exact impl_unpack.mono _ _ | exact LeO.refl _ | exact LeO.none _ | refine LeO.ite ?_ ?_ | refine LeO.bind ?_ (fun _ => ?_)) | exact ih0 _ _ | exact impl_seal.mono _ _ _ | exact impl_unpack.mono _ _ | exact LeO.none _ | refine LeO.ite ?_ ?_ | refine LeO.bind ?_ (fun _ => ?_)
def impl_opened.T4 : Bool × List (List Nat × List Nat) := (true, [([], []), ([0], [0]), ([1], [1]), ([], []), ([], []), ([4], [4]), ([5], [5]), ([6, 5], [5, 6]), ([7, 5], [5, 7]), ([5], [5]), ([8, 9, 5, 5], [5, 8, 9]), ([5], [5]), ([10, 11, 5], [5, 10, 11]), ([5, 12], [5, 12]), ([2, 10, 0, 1, 2], [2]), ([3, 14, 0, 1, 2, 3, 14], [3]), ([13, 15, 0, 1, 2, 3, 4, 5, 6, 7, 8, 9, 10, 11, 12, 13, 14, 15], [13])])
def impl_opened.B4 : List Nat := [0, 1, 3, 0, 0, 16, 48, 112, 240, 48, 1008, 48, 4080, 8176, 2039, 18431, 65535]
theorem impl_opened.tab4 : rtab .any (opsOf Try.f66 4) = impl_opened.T4 := by kernel_rfl
theorem impl_opened.bits4 : waitsOk impl_opened.T4.2 impl_opened.B4 = true := by kernel_rfl
set_option maxHeartbeats 8000000 in
set_option maxRecDepth 100000 in
theorem impl_opened.calls (k : Nat) (a0 : ByteArray) (r1 : Int) (r2 : List Int) (r3 : Bool) (w : World) (h : impl_opened.f k a0 = some (r1, r2, r3)) :
    Calls Try.prog 66 #[.string a0] w fun e w' => ∃ v1_ : Value, e = .returned (.tuple #[.int .i64 r1, v1_, .bool r3]) ∧ Kd.R (Kd.int .i64) 3 w' w.heap.size (fun _ => True) v1_ r2 ∧ Below w.heap.size w w' := by
 have HB := zm (Below.refl w.heap.size w); have H := h
 unfold impl_opened.f at H
 clear h; have HC2 := zm H; clear H
 go_enter Try.func66, Try.ntmps66
 go_upto_region 1 with (fail)
 go_cut [21] (fun v21 wc => ∃ (kq : Nat) (x21_1 : Bool), v21 = .bool x21_1 ∧ Aside0 (impl_opened.j0 kq a0 x21_1 = some (r1, r2, r3)) ∧ Aside0 (kq ≤ k) ∧ Aside0 (Below w.heap.size w wc))
 case first =>
  have H := HC2.out; clear HC2
  by_cases c3 : (a0.size : Int) < 4
  ·rw [if_pos c3] at H
   have c3b0 := decide_eq_true c3
   have c3b1 : decide (a0.size < 4) = true := decide_eq_true (by omega)
   clear c3
   (first | rw [c3b0] | (simp only [i64_w, i32_w]; rw [c3b0]) | skip)
   have H' := zm H
   clear H
   go_wp2
   go_meet
   case rel => exact ⟨_, (true), zr, H', ⟨by first | omega | exact Nat.le_refl _⟩, ⟨zg_0 HB.out⟩⟩
  ·rw [if_neg c3] at H
   have c3b0 := decide_eq_false c3
   have c3b1 : decide (a0.size < 4) = false := decide_eq_false (by omega)
   clear c3
   (first | rw [c3b0] | (simp only [i64_w, i32_w]; rw [c3b0]) | skip)
   by_cases c4 : (a0.size : Int) > 80
   ·rw [if_pos c4] at H
    have c4b0 := decide_eq_true c4
    have c4b1 : decide (80 < a0.size) = true := decide_eq_true (by omega)
    clear c4
    have H' := zm H
    clear H
    go_wp2
    go_meet
    case rel => exact ⟨_, (true), zr, H', ⟨by first | omega | exact Nat.le_refl _⟩, ⟨zg_0 HB.out⟩⟩
   ·rw [if_neg c4] at H
    have c4b0 := decide_eq_false c4
    have c4b1 : decide (80 < a0.size) = false := decide_eq_false (by omega)
    clear c4
    by_cases c5 : 0 < (a0.size : Int)
    ·rw [if_pos c5] at H
     have c5b0 := decide_eq_true c5
     have c5b1 : decide (0 < a0.size) = true := decide_eq_true (by omega)
     clear c5; replace H := Option.bind_eq_some_iff.mp H
     obtain ⟨t342, A70, H⟩ := H
     try dsimp only at H
     have A7 := zm A70; clear A70
     have H' := zm H
     clear H
     have p6 : 0 ≤ (0 : Int) := (by omega)
     have q6 : 0 < a0.size := (by have : (0 : Int) < (a0.size : Int) := zd; omega)
     have hx6 : ∀ h : 0 < a0.size, ((a0[0]'h).toNat : Int) = bt a0 0 := bt_at a0 0
     clear p6
     have qi6 : (0 < (a0.size : Int)) = True := eq_true (zd)
     replace q6 := eq_true q6
     go_wp2_with (first | (go_at_call 68; (with_reducible refine (impl_isKind.calls (wrap64 (bt a0 0)) t342 _ A7.out).mono ?_); rintro e w' ⟨rfl, ⟨nd, rfl⟩⟩))
     go_meet
     case rel => exact ⟨_, (!t342), zr, H', ⟨by first | omega | exact Nat.le_refl _⟩, ⟨zg_0 HB.out⟩⟩
    ·rw [if_neg c5] at H
     exact absurd H (by simp)
 case rest =>
  clear HC2
  try clear p2
  try clear c3
  try clear c3b0
  try clear c3b1
  try clear c4
  try clear c4b0
  try clear c4b1
  try clear c5
  try clear c5b0
  try clear c5b1
  try clear c6
  try clear p6
  try clear q6
  try clear hx6
  try clear qi6
  try clear p6
  try clear q6
  obtain ⟨kq, x21_1, rfl, HA, HJ1, HB⟩ := hcut
  cases kq with
  | zero => exact absurd HA.out (by simp [impl_opened.j0])
  | succ kj1 =>
   have H := HA.out; clear HA
   simp only [impl_opened.j0] at H
   by_cases c8 : x21_1 = true
   ·subst c8
    replace H : (some (0, ([] : List Int), false)) = some (r1, r2, r3) := by rw [if_pos rfl] at H; exact H
    simp only [Option.some.injEq, Prod.mk.injEq] at H
    obtain ⟨rfl, rfl, rfl⟩ := H
    go_wp2
    go_ret3
    exact ⟨_, ze, by first | exact Kd.R_nil _ _ _ _ _ | exact Kd.N_nil _ _ _ _ _ | exact Kd.V_nil _ _ _ _ _ | exact Kd.Q_nil _ _ _ _ _ | exact Kd.S_nil _ _ _ _ _, zg_0 HB.out⟩
   ·replace c8 := Bool.eq_false_iff.mpr c8
    subst c8
    replace H : (if 4 ≤ (a0.size : Int) then ((impl_unpack.f kj1 (a0.extract 4 a0.size)).bind fun bt343 => (if 0 < (a0.size : Int) then (if bt343.2 = true then ((impl_seal.f kj1 (wrap64 (bt a0 0)) bt343.1).bind fun t347 => (some (wrap64 (bt a0 0), bt343.1, (t347.toList == a0.toList)))) else (some (wrap64 (bt a0 0), bt343.1, false))) else (none))) else (none)) = some (r1, r2, r3) := by rw [if_neg (show ¬ (false = true) by decide)] at H; exact H
    by_cases c9 : 4 ≤ (a0.size : Int)
    ·rw [if_pos c9] at H
     have c9b0 := eq_true c9; have c9b1 := decide_eq_true c9; clear c9; replace H := Option.bind_eq_some_iff.mp H
     obtain ⟨⟨t343, t344⟩, A100, H⟩ := H
     try dsimp only at H
     have A10 := zm A100; clear A100
     by_cases c11 : 0 < (a0.size : Int)
     ·rw [if_pos c11] at H
      have c11b0 := decide_eq_true c11
      have c11b1 : decide (0 < a0.size) = true := decide_eq_true (by omega)
      clear c11
      by_cases c13 : t344 = true
      ·subst c13
       replace H : ((impl_seal.f kj1 (wrap64 (bt a0 0)) t343).bind fun t347 => (some (wrap64 (bt a0 0), t343, (t347.toList == a0.toList)))) = some (r1, r2, r3) := by rw [if_pos rfl] at H; exact H
       replace H := Option.bind_eq_some_iff.mp H
       obtain ⟨t347, A150, H⟩ := H
       try dsimp only at H
       have A15 := zm A150; clear A150
       simp only [Option.some.injEq, Prod.mk.injEq] at H
       obtain ⟨rfl, rfl, rfl⟩ := H
       try go_wp2_with (first | ((with_reducible refine gate_callee (f := 69) rfl ?_); refine goesL_ (some 25) rfl rfl Try.func69 (by kernel_rfl) rfl #[.string (a0.extract 4 a0.size)] rfl zq ?_; (with_reducible refine (impl_unpack.calls kj1 (a0.extract 4 a0.size) t343 true _ A10.out).mono ?_); rintro e w16 ⟨v345, rfl, ho0, hb⟩; refine ⟨_, rfl, ?_⟩; have n0_ := zm (Kd.R_lower ho0 (below_size (zg_0 HB.out))); have n1_ := zm (below_step (zg_0 HB.out) hb); have Za := n0_; replace HB := n1_; clear n0_ n1_; (try clear hb); (try clear hb2); (try clear hk); (try clear hi); (try clear ho0)))
       have n0_ := zm (Kd.R_drew Za.out); have n1_ := zm (below_drew1 HB.out); clear Za; clear HB; have Za := n0_; have HB := n1_; clear n0_ n1_
       have p12 : 0 ≤ (0 : Int) := (by omega)
       have q12 : 0 < a0.size := (by have : (0 : Int) < (a0.size : Int) := zd; omega)
       have hx12 : ∀ h : 0 < a0.size, ((a0[0]'h).toNat : Int) = bt a0 0 := bt_at a0 0
       clear p12
       have qi12 : (0 < (a0.size : Int)) = True := eq_true (zd)
       replace q12 := eq_true q12
       have p14 : 0 ≤ (0 : Int) := (by omega)
       have q14 : 0 < a0.size := (by have : (0 : Int) < (a0.size : Int) := zd; omega)
       have hx14 : ∀ h : 0 < a0.size, ((a0[0]'h).toNat : Int) = bt a0 0 := bt_at a0 0
       clear p14
       have qi14 : (0 < (a0.size : Int)) = True := eq_true (zd)
       replace q14 := eq_true q14
       obtain ⟨Ao18, co18, eo18⟩ := Kd.R_slice Za.out
       (first | subst eo18 | (injection eo18 with f1_ f2_ f3_; have f4_ := f1_.symm; have f5_ := f3_.symm; clear f1_ f2_ f3_; subst f4_; subst f5_))
       refine start_ (n := 17) (S := fun w' => True) (ds := []) #[false, false, false, false, false, false, false, false, false, false, false, false, false, false, false, false, false] (by kernel_rfl) rfl rfl trivial (fun hHeld => ?_); refine with_tabW impl_opened.tab4 impl_opened.bits4 (fun HT_ HW_ => ?_)
       generalize w16.drew = w17 at Za HB hHeld ⊢
       refine pure_ (i := 0) (N := some 28) (v := ?_) (a' := ?_) #[true, false, false, false, false, false, false, false, false, false, false, false, false, false, false, false, false] rfl rfl (any_of HT_.out (by kernel_rfl)) (fun _ _ _ h => h) (Or.inl ⟨by rfl, ?_⟩) ?_ ?_
       rotate_left
       ·intro w'
        go_simp
        with_reducible rfl
       rotate_left
       ·simp only [Act.put, zs, zz, zt, i64_w, i32_w]
        rfl
       refine pure_ (i := 3) (N := some 31) (v := ?_) (a' := ?_) #[true, false, false, true, false, false, false, false, false, false, false, false, false, false, false, false, false] rfl rfl (any_of HT_.out (by kernel_rfl)) (fun _ _ _ h => h) (Or.inl ⟨by rfl, ?_⟩) ?_ ?_
       rotate_left
       ·intro w'
        go_simp
        with_reducible rfl
       rotate_left
       ·simp only [Act.put, zs, zz, zt, i64_w, i32_w]
        rfl
       refine pure_ (i := 4) (N := some 32) (v := ?_) (a' := ?_) #[true, false, false, true, true, false, false, false, false, false, false, false, false, false, false, false, false] rfl rfl (any_of HT_.out (by kernel_rfl)) (fun _ _ _ h => h) (Or.inl ⟨by rfl, ?_⟩) ?_ ?_
       rotate_left
       ·intro w'
        go_simp
        with_reducible rfl
       rotate_left
       ·simp only [Act.put, zs, zz, zt, i64_w, i32_w]
        rfl
       refine pure_ (i := 5) (N := some 33) (v := ?_) (a' := ?_) #[true, false, false, true, true, true, false, false, false, false, false, false, false, false, false, false, false] rfl rfl (any_of HT_.out (by kernel_rfl)) (fun _ _ _ h => h) (Or.inl ⟨by rfl, ?_⟩) ?_ ?_
       rotate_left
       ·intro w'
        go_simp
        with_reducible rfl
       rotate_left
       ·simp only [Act.put, zs, zz, zt, i64_w, i32_w]
        rfl
       refine pure_ (i := 6) (N := some 34) (v := ?_) (a' := ?_) #[true, false, false, true, true, true, true, false, false, false, false, false, false, false, false, false, false] rfl rfl (any_of HT_.out (by kernel_rfl)) (fun _ _ _ h => h) (Or.inl ⟨by rfl, ?_⟩) ?_ ?_
       rotate_left
       ·intro w'
        go_simp
        with_reducible rfl
       rotate_left
       ·simp only [Act.put, zs, zz, zt, i64_w, i32_w]
        rfl
       refine pure_ (i := 9) (N := some 37) (v := ?_) (a' := ?_) #[true, false, false, true, true, true, true, false, false, true, false, false, false, false, false, false, false] rfl rfl (any_of HT_.out (by kernel_rfl)) (fun _ _ _ h => h) (Or.inl ⟨by rfl, ?_⟩) ?_ ?_
       rotate_left
       ·intro w'
        go_simp
        with_reducible rfl
       rotate_left
       ·simp only [Act.put, zs, zz, zt, i64_w, i32_w]
        rfl
       refine pure_ (i := 11) (N := some 39) (v := ?_) (a' := ?_) #[true, false, false, true, true, true, true, false, false, true, false, true, false, false, false, false, false] rfl rfl (any_of HT_.out (by kernel_rfl)) (fun _ _ _ h => h) (Or.inl ⟨by rfl, ?_⟩) ?_ ?_
       rotate_left
       ·intro w'
        go_simp
        with_reducible rfl
       rotate_left
       ·simp only [Act.put, zs, zz, zt, i64_w, i32_w]
        rfl
       refine take_ (i := 1) (N := some 29) (v := ?_) (a' := ?_) #[true, true, false, true, true, true, true, false, false, true, false, true, false, false, false, false, false] rfl rfl (take_ofW HT_.out HW_.out (by kernel_rfl)) (fun _ _ _ h => h) (Or.inl ⟨by rfl, ?_⟩) hHeld ?_ ?_
       rotate_left
       ·intro w' _
        go_simp
        with_reducible rfl
       rotate_left
       ·simp only [Act.put, zs, zz, zt, i64_w, i32_w]
        rfl
       refine pure_ (i := 2) (N := some 30) (v := ?_) (a' := ?_) #[true, true, true, true, true, true, true, false, false, true, false, true, false, false, false, false, false] rfl rfl (any_of HT_.out (by kernel_rfl)) (fun _ _ _ h => h) (Or.inl ⟨by rfl, ?_⟩) ?_ ?_
       rotate_left
       ·intro w'
        go_simp
        with_reducible rfl
       rotate_left
       ·simp only [Act.put, zs, zz, zt, i64_w, i32_w]
        rfl
       refine take_ (i := 7) (N := some 35) (v := ?_) (a' := ?_) #[true, true, true, true, true, true, true, true, false, true, false, true, false, false, false, false, false] rfl rfl (take_ofW HT_.out HW_.out (by kernel_rfl)) (fun _ _ _ h => h) (Or.inl ⟨by rfl, ?_⟩) hHeld ?_ ?_
       rotate_left
       ·intro w' _
        go_simp
        with_reducible rfl
       rotate_left
       ·simp only [Act.put, zs, zz, zt, i64_w, i32_w]
        rfl
       refine pure_ (i := 8) (N := some 36) (v := ?_) (a' := ?_) #[true, true, true, true, true, true, true, true, true, true, false, true, false, false, false, false, false] rfl rfl (any_of HT_.out (by kernel_rfl)) (fun _ _ _ h => h) (Or.inl ⟨by rfl, ?_⟩) ?_ ?_
       rotate_left
       ·intro w'
        go_simp
        with_reducible rfl
       rotate_left
       ·simp only [Act.put, zs, zz, zt, i64_w, i32_w]
        rfl
       refine one_ (i := 10) (N := some 38) #[true, true, true, true, true, true, true, true, true, true, true, true, false, false, false, false, false] rfl rfl (one_of HT_.out (by kernel_rfl)) (by decide) (fun K hK => ?_)
       refine goes_ Try.func37 (by kernel_rfl) rfl #[.int .i64 (wrap64 (bt a0 0)), .slice Ao18 t343.length co18] (by rfl) rfl rfl zq ?_
       with_reducible refine (impl_seal.calls kj1 (wrap64 (bt a0 0)) _ _ t343 t347 _ ?side1 ?side2 A15.out).mono ?_
       (case side1 => exact zC ((Kd.R_reads' Za.out).2.2))
       (case side2 => exact (Kd.R_reads' Za.out).2.1)
       rintro e w19 ⟨rfl, hb⟩
       refine ⟨_, rfl, ?_⟩
       have n0_ := zm (Kd.R_below (zg_2 Za.out) hb); have n1_ := zm (below_step (zg_0 HB.out) hb); clear Za; clear HB; have Za := n0_; have HB := n1_; clear n0_ n1_
       (try clear hb)
       (try clear hb2)
       (try clear hk)
       (try clear hi)
       refine hK.out _ _ trivial (fun hHeld => ?_)
       clear hK K
       refine norm_ (a' := ?_) ?_ ?_
       rotate_left
       ·show Act.put _ (some 38) _ = _
        simp only [Act.put, zs, zz, zt, i64_w, i32_w]
        rfl
       refine pure_ (i := 12) (N := some 40) (v := ?_) (a' := ?_) #[true, true, true, true, true, true, true, true, true, true, true, true, true, false, false, false, false] rfl rfl (any_of HT_.out (by kernel_rfl)) (fun _ _ _ h => h) (Or.inl ⟨by rfl, ?_⟩) ?_ ?_
       rotate_left
       ·intro w'
        go_simp
        with_reducible rfl
       rotate_left
       ·simp only [Act.put, zs, zz, zt, i64_w, i32_w]
        rfl
       refine pure_ (i := 13) (N := some 41) (v := ?_) (a' := ?_) #[true, true, true, true, true, true, true, true, true, true, true, true, true, true, false, false, false] rfl rfl (any_of HT_.out (by kernel_rfl)) (fun _ _ _ h => h) (Or.inl ⟨by rfl, ?_⟩) ?_ ?_
       rotate_left
       ·intro w'
        go_simp
        with_reducible rfl
       rotate_left
       ·simp only [Act.put, zs, zz, zt, i64_w, i32_w]
        rfl
       refine pure_ (i := 14) (N := some 2) (v := ?_) (a' := ?_) #[true, true, true, true, true, true, true, true, true, true, true, true, true, true, true, false, false] rfl rfl (any_of HT_.out (by kernel_rfl)) (fun _ _ _ h => h) (Or.inl ⟨by rfl, ?_⟩) ?_ ?_
       rotate_left
       ·intro w'
        go_simp
        with_reducible rfl
       rotate_left
       ·simp only [Act.put, zs, zz, zt, i64_w, i32_w]
        rfl
       refine pure_ (i := 15) (N := some 3) (v := ?_) (a' := ?_) #[true, true, true, true, true, true, true, true, true, true, true, true, true, true, true, true, false] rfl rfl (any_of HT_.out (by kernel_rfl)) (fun _ _ _ h => h) (Or.inl ⟨by rfl, ?_⟩) ?_ ?_
       rotate_left
       ·intro w'
        go_simp
        with_reducible rfl
       rotate_left
       ·simp only [Act.put, zs, zz, zt, i64_w, i32_w]
        rfl
       refine pure_ (i := 16) (N := some 4) (v := ?_) (a' := ?_) #[true, true, true, true, true, true, true, true, true, true, true, true, true, true, true, true, true] rfl rfl (any_of HT_.out (by kernel_rfl)) (fun _ _ _ h => h) (Or.inl ⟨by rfl, ?_⟩) ?_ ?_
       rotate_left
       ·intro w'
        go_simp
        with_reducible rfl
       rotate_left
       ·simp only [Act.put, zs, zz, zt, i64_w, i32_w]
        rfl
       refine done_ (done_of HT_.out (by kernel_rfl)) ?_
       try go_wp2
       go_ret3
       exact ⟨_, ze, by (with_reducible repeat (first | apply Kd.R_alloc | apply Kd.R_drewN | apply Kd.R_drew)); exact Za.out, zg_0 HB.out⟩
      ·replace c13 := Bool.eq_false_iff.mpr c13
       subst c13
       replace H : (some (wrap64 (bt a0 0), t343, false)) = some (r1, r2, r3) := by rw [if_neg (show ¬ (false = true) by decide)] at H; exact H
       simp only [Option.some.injEq, Prod.mk.injEq] at H
       obtain ⟨rfl, rfl, rfl⟩ := H
       try go_wp2_with (first | ((with_reducible refine gate_callee (f := 69) rfl ?_); refine goesL_ (some 25) rfl rfl Try.func69 (by kernel_rfl) rfl #[.string (a0.extract 4 a0.size)] rfl zq ?_; (with_reducible refine (impl_unpack.calls kj1 (a0.extract 4 a0.size) t343 false _ A10.out).mono ?_); rintro e w20 ⟨v345, rfl, ho0, hb⟩; refine ⟨_, rfl, ?_⟩; have n0_ := zm (Kd.R_lower ho0 (below_size (zg_0 HB.out))); have n1_ := zm (below_step (zg_0 HB.out) hb); have Za := n0_; replace HB := n1_; clear n0_ n1_; (try clear hb); (try clear hb2); (try clear hk); (try clear hi); (try clear ho0)))
       have n0_ := zm (Kd.R_drew Za.out); have n1_ := zm (below_drew1 HB.out); clear Za; clear HB; have Za := n0_; have HB := n1_; clear n0_ n1_
       have p12 : 0 ≤ (0 : Int) := (by omega)
       have q12 : 0 < a0.size := (by have : (0 : Int) < (a0.size : Int) := zd; omega)
       have hx12 : ∀ h : 0 < a0.size, ((a0[0]'h).toNat : Int) = bt a0 0 := bt_at a0 0
       clear p12
       have qi12 : (0 < (a0.size : Int)) = True := eq_true (zd)
       replace q12 := eq_true q12
       refine start_ (n := 17) (S := fun w' => True) (ds := []) #[false, false, false, false, false, false, false, false, false, false, false, false, false, false, false, false, false] (by kernel_rfl) rfl rfl trivial (fun hHeld => ?_); refine with_tabW impl_opened.tab4 impl_opened.bits4 (fun HT_ HW_ => ?_)
       generalize w20.drew = w21 at Za HB hHeld ⊢
       refine pure_ (i := 0) (N := some 28) (v := ?_) (a' := ?_) #[true, false, false, false, false, false, false, false, false, false, false, false, false, false, false, false, false] rfl rfl (any_of HT_.out (by kernel_rfl)) (fun _ _ _ h => h) (Or.inl ⟨by rfl, ?_⟩) ?_ ?_
       rotate_left
       ·intro w'
        go_simp
        with_reducible rfl
       rotate_left
       ·simp only [Act.put, zs, zz, zt, i64_w, i32_w]
        rfl
       refine pure_ (i := 3) (N := some 31) (v := ?_) (a' := ?_) #[true, false, false, true, false, false, false, false, false, false, false, false, false, false, false, false, false] rfl rfl (any_of HT_.out (by kernel_rfl)) (fun _ _ _ h => h) (Or.inl ⟨by rfl, ?_⟩) ?_ ?_
       rotate_left
       ·intro w'
        go_simp
        with_reducible rfl
       rotate_left
       ·simp only [Act.put, zs, zz, zt, i64_w, i32_w]
        rfl
       refine pure_ (i := 4) (N := some 32) (v := ?_) (a' := ?_) #[true, false, false, true, true, false, false, false, false, false, false, false, false, false, false, false, false] rfl rfl (any_of HT_.out (by kernel_rfl)) (fun _ _ _ h => h) (Or.inl ⟨by rfl, ?_⟩) ?_ ?_
       rotate_left
       ·intro w'
        go_simp
        with_reducible rfl
       rotate_left
       ·simp only [Act.put, zs, zz, zt, i64_w, i32_w]
        rfl
       refine pure_ (i := 5) (N := some 33) (v := ?_) (a' := ?_) #[true, false, false, true, true, true, false, false, false, false, false, false, false, false, false, false, false] rfl rfl (any_of HT_.out (by kernel_rfl)) (fun _ _ _ h => h) (Or.inl ⟨by rfl, ?_⟩) ?_ ?_
       rotate_left
       ·intro w'
        go_simp
        with_reducible rfl
       rotate_left
       ·simp only [Act.put, zs, zz, zt, i64_w, i32_w]
        rfl
       refine pure_ (i := 6) (N := some 34) (v := undef) (a' := ?_) #[true, false, false, true, true, true, true, false, false, false, false, false, false, false, false, false, false] rfl rfl (any_of HT_.out (by kernel_rfl)) (fun _ _ _ h => h) (Or.inr ⟨by rfl, rfl⟩) ?_ ?_
       rotate_left
       ·simp only [Act.put, zs, zz, zt, i64_w, i32_w]
        rfl
       refine pure_ (i := 7) (N := some 35) (v := undef) (a' := ?_) #[true, false, false, true, true, true, true, true, false, false, false, false, false, false, false, false, false] rfl rfl (any_of HT_.out (by kernel_rfl)) (fun _ _ _ h => h) (Or.inr ⟨by rfl, rfl⟩) ?_ ?_
       rotate_left
       ·simp only [Act.put, zs, zz, zt, i64_w, i32_w]
        rfl
       refine pure_ (i := 8) (N := some 36) (v := undef) (a' := ?_) #[true, false, false, true, true, true, true, true, true, false, false, false, false, false, false, false, false] rfl rfl (any_of HT_.out (by kernel_rfl)) (fun _ _ _ h => h) (Or.inr ⟨by rfl, rfl⟩) ?_ ?_
       rotate_left
       ·simp only [Act.put, zs, zz, zt, i64_w, i32_w]
        rfl
       refine pure_ (i := 9) (N := some 37) (v := undef) (a' := ?_) #[true, false, false, true, true, true, true, true, true, true, false, false, false, false, false, false, false] rfl rfl (any_of HT_.out (by kernel_rfl)) (fun _ _ _ h => h) (Or.inr ⟨by rfl, rfl⟩) ?_ ?_
       rotate_left
       ·simp only [Act.put, zs, zz, zt, i64_w, i32_w]
        rfl
       refine pure_ (i := 10) (N := some 38) (v := undef) (a' := ?_) #[true, false, false, true, true, true, true, true, true, true, true, false, false, false, false, false, false] rfl rfl (any_of HT_.out (by kernel_rfl)) (fun _ _ _ h => h) (Or.inr ⟨by rfl, rfl⟩) ?_ ?_
       rotate_left
       ·simp only [Act.put, zs, zz, zt, i64_w, i32_w]
        rfl
       refine pure_ (i := 11) (N := some 39) (v := undef) (a' := ?_) #[true, false, false, true, true, true, true, true, true, true, true, true, false, false, false, false, false] rfl rfl (any_of HT_.out (by kernel_rfl)) (fun _ _ _ h => h) (Or.inr ⟨by rfl, rfl⟩) ?_ ?_
       rotate_left
       ·simp only [Act.put, zs, zz, zt, i64_w, i32_w]
        rfl
       refine pure_ (i := 12) (N := some 40) (v := undef) (a' := ?_) #[true, false, false, true, true, true, true, true, true, true, true, true, true, false, false, false, false] rfl rfl (any_of HT_.out (by kernel_rfl)) (fun _ _ _ h => h) (Or.inr ⟨by rfl, rfl⟩) ?_ ?_
       rotate_left
       ·simp only [Act.put, zs, zz, zt, i64_w, i32_w]
        rfl
       refine pure_ (i := 13) (N := some 41) (v := ?_) (a' := ?_) #[true, false, false, true, true, true, true, true, true, true, true, true, true, true, false, false, false] rfl rfl (any_of HT_.out (by kernel_rfl)) (fun _ _ _ h => h) (Or.inl ⟨by rfl, ?_⟩) ?_ ?_
       rotate_left
       ·intro w'
        go_simp
        with_reducible rfl
       rotate_left
       ·simp only [Act.put, zs, zz, zt, i64_w, i32_w]
        rfl
       refine take_ (i := 1) (N := some 29) (v := ?_) (a' := ?_) #[true, true, false, true, true, true, true, true, true, true, true, true, true, true, false, false, false] rfl rfl (take_ofW HT_.out HW_.out (by kernel_rfl)) (fun _ _ _ h => h) (Or.inl ⟨by rfl, ?_⟩) hHeld ?_ ?_
       rotate_left
       ·intro w' _
        go_simp
        with_reducible rfl
       rotate_left
       ·simp only [Act.put, zs, zz, zt, i64_w, i32_w]
        rfl
       refine pure_ (i := 2) (N := some 30) (v := ?_) (a' := ?_) #[true, true, true, true, true, true, true, true, true, true, true, true, true, true, false, false, false] rfl rfl (any_of HT_.out (by kernel_rfl)) (fun _ _ _ h => h) (Or.inl ⟨by rfl, ?_⟩) ?_ ?_
       rotate_left
       ·intro w'
        go_simp
        with_reducible rfl
       rotate_left
       ·simp only [Act.put, zs, zz, zt, i64_w, i32_w]
        rfl
       refine pure_ (i := 14) (N := some 2) (v := ?_) (a' := ?_) #[true, true, true, true, true, true, true, true, true, true, true, true, true, true, true, false, false] rfl rfl (any_of HT_.out (by kernel_rfl)) (fun _ _ _ h => h) (Or.inl ⟨by rfl, ?_⟩) ?_ ?_
       rotate_left
       ·intro w'
        go_simp
        with_reducible rfl
       rotate_left
       ·simp only [Act.put, zs, zz, zt, i64_w, i32_w]
        rfl
       refine pure_ (i := 15) (N := some 3) (v := ?_) (a' := ?_) #[true, true, true, true, true, true, true, true, true, true, true, true, true, true, true, true, false] rfl rfl (any_of HT_.out (by kernel_rfl)) (fun _ _ _ h => h) (Or.inl ⟨by rfl, ?_⟩) ?_ ?_
       rotate_left
       ·intro w'
        go_simp
        with_reducible rfl
       rotate_left
       ·simp only [Act.put, zs, zz, zt, i64_w, i32_w]
        rfl
       refine pure_ (i := 16) (N := some 4) (v := ?_) (a' := ?_) #[true, true, true, true, true, true, true, true, true, true, true, true, true, true, true, true, true] rfl rfl (any_of HT_.out (by kernel_rfl)) (fun _ _ _ h => h) (Or.inl ⟨by rfl, ?_⟩) ?_ ?_
       rotate_left
       ·intro w'
        go_simp
        with_reducible rfl
       rotate_left
       ·simp only [Act.put, zs, zz, zt, i64_w, i32_w]
        rfl
       refine done_ (done_of HT_.out (by kernel_rfl)) ?_
       try go_wp2
       go_ret3
       exact ⟨_, ze, by (with_reducible repeat (first | apply Kd.R_alloc | apply Kd.R_drewN | apply Kd.R_drew)); exact Za.out, zg_0 HB.out⟩
     ·rw [if_neg c11] at H
      exact absurd H (by simp)
    ·rw [if_neg c9] at H
     exact absurd H (by simp)
def impl_open.f (k : Nat) (a0 : ByteArray) (a1 : Int) : Option (List Int × Bool) := (impl_opened.f k a0).bind fun bt348 => (if bt348.2.2 = true then (some (bt348.2.1, (bt348.1 == a1))) else (some (bt348.2.1, false)))
theorem impl_open.mono : ∀ a0 a1 k, LeO (impl_open.f k a0 a1) (impl_open.f (k + 1) a0 a1) := by
  intro a0 a1 k
  unfold impl_open.f
  repeat' first| (with_reducible first | exact impl_opened.mono _ _ | exact LeO.refl _ | exact LeO.none _ | refine LeO.ite ?_ ?_ | refine LeO.bind ?_ (fun _ => ?_)) | exact impl_opened.mono _ _ | exact LeO.none _ | refine LeO.ite ?_ ?_ | refine LeO.bind ?_ (fun _ => ?_)
set_option maxHeartbeats 8000000 in
set_option maxRecDepth 100000 in
theorem impl_open.calls (k : Nat) (a0 : ByteArray) (a1 : Int) (r1 : List Int) (r2 : Bool) (w : World) (h : impl_open.f k a0 a1 = some (r1, r2)) :
    Calls Try.prog 62 #[.string a0, .int .i64 a1] w fun e w' => ∃ v0_ : Value, e = .returned (.tuple #[v0_, .bool r2]) ∧ Kd.R (Kd.int .i64) 3 w' w.heap.size (fun _ => True) v0_ r1 ∧ Below w.heap.size w w' := by
 have HB := zm (Below.refl w.heap.size w); have H := h
 unfold impl_open.f at H
 clear h; replace H := Option.bind_eq_some_iff.mp H
 obtain ⟨⟨t348, t349, t350⟩, A30, H⟩ := H
 try dsimp only at H
 have A3 := zm A30; clear A30
 by_cases c4 : t350 = true
 ·subst c4
  replace H : (some (t349, (t348 == a1))) = some (r1, r2) := by rw [if_pos rfl] at H; exact H
  simp only [Option.some.injEq, Prod.mk.injEq] at H
  obtain ⟨rfl, rfl⟩ := H
  go_enter Try.func62, Try.ntmps62
  go_wp2_with (first | ((with_reducible refine gate_callee (f := 66) rfl ?_); refine goesL_ (some 11) rfl rfl Try.func66 (by kernel_rfl) rfl #[.string a0] rfl zq ?_; (with_reducible refine (impl_opened.calls k a0 t348 t349 true _ A3.out).mono ?_); rintro e w5 ⟨v351, rfl, ho0, hb⟩; refine ⟨_, rfl, ?_⟩; have n0_ := zm (Kd.R_lower ho0 (below_size (zg_0 HB.out))); have n1_ := zm (below_step (zg_0 HB.out) hb); have HO352 := n0_; replace HB := n1_; clear n0_ n1_; (try clear hb); (try clear hb2); (try clear hk); (try clear hi); (try clear ho0)))
  go_ret2
  exact ⟨_, ze, by (with_reducible repeat (first | apply Kd.R_alloc | apply Kd.R_drewN | apply Kd.R_drew)); exact HO352.out, zg_0 HB.out⟩
 ·replace c4 := Bool.eq_false_iff.mpr c4
  subst c4
  replace H : (some (t349, false)) = some (r1, r2) := by rw [if_neg (show ¬ (false = true) by decide)] at H; exact H
  simp only [Option.some.injEq, Prod.mk.injEq] at H
  obtain ⟨rfl, rfl⟩ := H
  go_enter Try.func62, Try.ntmps62
  go_wp2_with (first | ((with_reducible refine gate_callee (f := 66) rfl ?_); refine goesL_ (some 11) rfl rfl Try.func66 (by kernel_rfl) rfl #[.string a0] rfl zq ?_; (with_reducible refine (impl_opened.calls k a0 t348 t349 false _ A3.out).mono ?_); rintro e w6 ⟨v351, rfl, ho0, hb⟩; refine ⟨_, rfl, ?_⟩; have n0_ := zm (Kd.R_lower ho0 (below_size (zg_0 HB.out))); have n1_ := zm (below_step (zg_0 HB.out) hb); have HO352 := n0_; replace HB := n1_; clear n0_ n1_; (try clear hb); (try clear hb2); (try clear hk); (try clear hi); (try clear ho0)))
  go_ret2
  exact ⟨_, ze, by (with_reducible repeat (first | apply Kd.R_alloc | apply Kd.R_drewN | apply Kd.R_drew)); exact HO352.out, zg_0 HB.out⟩
def impl_updateOf.f (k : Nat) (a0 : ByteArray) : Option (Int × ByteArray × Bool) := if (a0.size : Int) < 8 then (some (0, (⟨#[]⟩ : ByteArray), false)) else (if 0 ≤ 8 then (if 8 ≤ (a0.size : Int) then ((impl_open.f k (a0.extract 0 8) 8).bind fun bt354 => (if bt354.2 = true then (if (bt354.1.length : Int) = 1 then (if 0 < (bt354.1.length : Int) then ((impl_updateOK.f (rd bt354.1 0) (a0.extract 8 a0.size)).bind fun t359 => (if t359 = true then (some (rd bt354.1 0, a0.extract 8 a0.size, true)) else (some (0, (⟨#[]⟩ : ByteArray), false)))) else (none)) else (some (0, (⟨#[]⟩ : ByteArray), false))) else (some (0, (⟨#[]⟩ : ByteArray), false)))) else (none)) else (none))
theorem impl_updateOf.mono : ∀ a0 k, LeO (impl_updateOf.f k a0) (impl_updateOf.f (k + 1) a0) := by
  intro a0 k
  unfold impl_updateOf.f
  repeat' first| (with_reducible first | exact impl_open.mono _ _ _ | exact LeO.refl _ | exact LeO.none _ | refine LeO.ite ?_ ?_ | refine LeO.bind ?_ (fun _ => ?_)) | exact impl_open.mono _ _ _ | exact LeO.none _ | refine LeO.ite ?_ ?_ | refine LeO.bind ?_ (fun _ => ?_)
def impl_updateOf.T4 : Bool × List (List Nat × List Nat) := (true, [([], []), ([0], [0]), ([1], [1]), ([2], [2]), ([3, 2], [2, 3]), ([4, 2], [2, 4]), ([2, 5], [2, 5]), ([6, 2], [6]), ([7], [7]), ([8, 7], [7, 8]), ([9, 7], [7, 9]), ([7], [7]), ([11, 7], [7, 11]), ([10, 12, 7], [7, 10, 12]), ([13, 7, 7], [7, 13]), ([14, 7], [7, 14]), ([7, 15], [7, 15])])
def impl_updateOf.B4 : List Nat := [0, 1, 3, 7, 15, 31, 63, 127, 255, 511, 1023, 255, 2303, 8191, 16383, 32767, 65535]
theorem impl_updateOf.tab4 : rtab .any (opsOf Try.f63 4) = impl_updateOf.T4 := by kernel_rfl
theorem impl_updateOf.bits4 : waitsOk impl_updateOf.T4.2 impl_updateOf.B4 = true := by kernel_rfl
def impl_updateOf.T6 : Bool × List (List Nat × List Nat) := (true, [([], []), ([0], [0]), ([1], [1]), ([], []), ([3], [3]), ([2, 4], [2, 4]), ([5, 0, 1, 2, 3, 4, 5], [5]), ([6, 0, 1, 2, 3, 4, 5, 6], [])])
def impl_updateOf.B6 : List Nat := [0, 1, 3, 0, 8, 31, 63, 127]
theorem impl_updateOf.tab6 : rtab .any (opsOf Try.f63 6) = impl_updateOf.T6 := by kernel_rfl
theorem impl_updateOf.bits6 : waitsOk impl_updateOf.T6.2 impl_updateOf.B6 = true := by kernel_rfl
set_option maxHeartbeats 8000000 in
set_option maxRecDepth 100000 in
theorem impl_updateOf.calls (k : Nat) (a0 : ByteArray) (r1 : Int) (r2 : ByteArray) (r3 : Bool) (w : World) (h : impl_updateOf.f k a0 = some (r1, r2, r3)) :
    Calls Try.prog 63 #[.string a0] w fun e w' => e = .returned (.tuple #[.agg #[.int .i64 r1, .string r2], .bool r3]) ∧ Below w.heap.size w w' := by
 have hu45 := Try.underlying45; have HB := zm (Below.refl w.heap.size w); have H := h
 unfold impl_updateOf.f at H
 clear h
 by_cases c2 : (a0.size : Int) < 8
 ·rw [if_pos c2] at H
  have c2b0 := decide_eq_true c2
  have c2b1 : decide (a0.size < 8) = true := decide_eq_true (by omega)
  clear c2
  simp only [Option.some.injEq, Prod.mk.injEq] at H
  obtain ⟨rfl, rfl, rfl⟩ := H
  go_enter Try.func63, Try.ntmps63
  go_wp2_with (first | ((with_reducible refine gate_dst (N := 2) rfl ?_); (try (refine gate_guard (by rfl) ?_; dsimp only)); refine box_event ?hg (N := 2) ?hd (cs := #[.int .i64 0, .string (⟨#[]⟩ : ByteArray)]) (t := 45) ?hr ?_; (case hd => rfl); (case hg => rfl); (case hr => first | (go_simp; done) | (go_simp; rfl)); intro gb353 hg w3 hbox hb; have n0_ := zm (below_step (zg_0 HB.out) hb); have n1_ := zm (hbox); have n2_ := zm ((by rw [hg]; exact (below_size (zg_0 HB.out)) : w.heap.size ≤ gb353)); have n3_ := zm ((by rw [hg]; exact (below_size (zg_0 HB.out)) : w.heap.size ≤ gb353)); replace HB := n0_; have Za := n1_; have Zd := n2_; have Zc := n3_; clear n0_ n1_ n2_ n3_; clear hb hbox hg; obtain ⟨hcz4_0, hcz4_1, hfz4_0, hfz4_1⟩ := zb2 Za.out))
  refine bodyPost_ret (results_ct rfl _ _ gb353 45 #[.int .i64 0, .string (⟨#[]⟩ : ByteArray)] (0, 0) _ rfl (by (with_reducible repeat (first | refine blk_drewN ?_ _ | refine blk_drew ?_ | refine blk_alloc ?_ _)); refine blk_put (cs := #[.int .i64 0, .string (⟨#[]⟩ : ByteArray)]) ?_ 1 _ rfl; (with_reducible repeat (first | refine blk_drewN ?_ _ | refine blk_drew ?_ | refine blk_alloc ?_ _)); refine blk_put (cs := #[.int .i64 0, .string (⟨#[]⟩ : ByteArray)]) ?_ 0 _ rfl; (with_reducible repeat (first | refine blk_drewN ?_ _ | refine blk_drew ?_ | refine blk_alloc ?_ _)); exact Za.out) Try.underlying45 rfl (by kernel_rfl)) rfl ?_
  exact ⟨ze, zg_1 HB.out Zc.out⟩
 ·rw [if_neg c2] at H
  have c2b0 := decide_eq_false c2
  have c2b1 : decide (a0.size < 8) = false := decide_eq_false (by omega)
  clear c2
  by_cases c5 : 0 ≤ 8
  ·rw [if_pos c5] at H
   have c5b0 := eq_true c5; have c5b1 := decide_eq_true c5; clear c5
   by_cases c6 : 8 ≤ (a0.size : Int)
   ·rw [if_pos c6] at H
    have c6b0 := eq_true c6; have c6b1 := decide_eq_true c6; clear c6; replace H := Option.bind_eq_some_iff.mp H
    obtain ⟨⟨t354, t355⟩, A70, H⟩ := H
    try dsimp only at H
    have A7 := zm A70; clear A70
    by_cases c8 : t355 = true
    ·subst c8
     replace H : (if (t354.length : Int) = 1 then (if 0 < (t354.length : Int) then ((impl_updateOK.f (rd t354 0) (a0.extract 8 a0.size)).bind fun t359 => (if t359 = true then (some (rd t354 0, a0.extract 8 a0.size, true)) else (some (0, (⟨#[]⟩ : ByteArray), false)))) else (none)) else (some (0, (⟨#[]⟩ : ByteArray), false))) = some (r1, r2, r3) := by rw [if_pos rfl] at H; exact H
     by_cases c9 : (t354.length : Int) = 1
     ·rw [if_pos c9] at H
      have c9b0 : ((t354.length : Int) == 1) = true := beq_iff_eq.mpr c9
      have c9b1 : ((t354.length : Int) != 1) = false := bne_eq_false_iff_eq.mpr c9
      clear c9
      by_cases c10 : 0 < (t354.length : Int)
      ·rw [if_pos c10] at H
       have c10b0 := decide_eq_true c10
       have c10b1 : decide (0 < t354.length) = true := decide_eq_true (by omega)
       clear c10; have c11b0 := eq_true (zd : 8 ≤ (a0.size : Int)); replace H := Option.bind_eq_some_iff.mp H
       obtain ⟨t359, A120, H⟩ := H
       try dsimp only at H
       have A12 := zm A120; clear A120
       by_cases c13 : t359 = true
       ·subst c13
        replace H : (some (rd t354 0, a0.extract 8 a0.size, true)) = some (r1, r2, r3) := by rw [if_pos rfl] at H; exact H
        have c14b0 := eq_true (zd : 8 ≤ (a0.size : Int))
        simp only [Option.some.injEq, Prod.mk.injEq] at H
        obtain ⟨rfl, rfl, rfl⟩ := H
        go_enter Try.func63, Try.ntmps63
        try go_wp2_with (first | ((with_reducible refine gate_dst (N := 2) rfl ?_); (try (refine gate_guard (by rfl) ?_; dsimp only)); refine box_event ?hg (N := 2) ?hd (cs := #[.int .i64 0, .string (⟨#[]⟩ : ByteArray)]) (t := 45) ?hr ?_; (case hd => rfl); (case hg => rfl); (case hr => first | (go_simp; done) | (go_simp; rfl)); intro gb353 hg w15 hbox hb; have n0_ := zm (below_step (zg_0 HB.out) hb); have n1_ := zm (hbox); have n2_ := zm ((by rw [hg]; exact (below_size (zg_0 HB.out)) : w.heap.size ≤ gb353)); have n3_ := zm ((by rw [hg]; exact (below_size (zg_0 HB.out)) : w.heap.size ≤ gb353)); replace HB := n0_; have Za := n1_; have Zd := n2_; have Zc := n3_; clear n0_ n1_ n2_ n3_; clear hb hbox hg) | ((with_reducible refine gate_callee (f := 62) rfl ?_); refine goesL_ (some 13) rfl rfl Try.func62 (by kernel_rfl) rfl #[.string (a0.extract 0 8), .int .i64 8] rfl zq ?_; (with_reducible refine (impl_open.calls k (a0.extract 0 8) 8 t354 true _ A7.out).mono ?_); rintro e w16 ⟨v356, rfl, ho0, hb⟩; refine ⟨_, rfl, ?_⟩; have n0_ := zm (Kd.R_lower ho0 (below_size (zg_1 HB.out Zc.out))); have n1_ := zm (blk_below (g := gb353) (o := .cells #[.int .i64 0, .string (⟨#[]⟩ : ByteArray)] 45 (0, 0)) (zg_3 Za.out) hb); have n2_ := zm (below_step (zg_1 HB.out Zc.out) hb); have Zb := n0_; replace Za := n1_; replace HB := n2_; clear n0_ n1_ n2_; (try clear hb); (try clear hb2); (try clear hk); (try clear hi); (try clear ho0)))
        have n0_ := zm (Kd.R_drew Zb.out); have n1_ := zm (blk_drew Za.out); have n2_ := zm (below_drew1 HB.out); clear Zb; clear Za; clear HB; have Zb := n0_; have Za := n1_; have HB := n2_; clear n0_ n1_ n2_
        obtain ⟨Ao18, co18, eo18⟩ := Kd.R_slice Zb.out
        (first | subst eo18 | (injection eo18 with f1_ f2_ f3_; have f4_ := f1_.symm; have f5_ := f3_.symm; clear f1_ f2_ f3_; subst f4_; subst f5_))
        have p358 : 0 ≤ (0 : Int) := (by omega)
        have q358 : 0 < (t354.length : Int) := zd
        obtain ⟨ad358, e358, hx358_0⟩ := Kd.at_int (Kd.R_reads' Zb.out).2.2 0 p358 q358
        cases e358
        have qi358 : (0 < t354.length) = True := eq_true (by omega)
        (try rw [show ((0 : Int)).toNat = 0 from rfl] at hx358_0)
        (try rw [Addr.add_zero'] at hx358_0)
        replace p358 := eq_true p358; replace q358 := eq_true q358
        refine start_ (n := 17) (S := fun w' => w'.cell? ad358 = some (.int .i64 (rd t354 0))) (ds := []) #[false, false, false, false, false, false, false, false, false, false, false, false, false, false, false, false, false] (by kernel_rfl) rfl rfl (hx358_0) (fun hHeld => ?_); refine with_tabW impl_updateOf.tab4 impl_updateOf.bits4 (fun HT_ HW_ => ?_)
        generalize w16.drew = w17 at Zb Za HB hx358_0 hHeld ⊢
        refine pure_ (i := 0) (N := some 16) (v := ?_) (a' := ?_) #[true, false, false, false, false, false, false, false, false, false, false, false, false, false, false, false, false] rfl rfl (any_of HT_.out (by kernel_rfl)) (fun _ _ _ h => h) (Or.inl ⟨by rfl, ?_⟩) ?_ ?_
        rotate_left
        ·intro w'
         go_simp
         with_reducible rfl
        rotate_left
        ·simp only [Act.put, zs, zz, zt, i64_w, i32_w]
         rfl
        refine pure_ (i := 1) (N := some 17) (v := ?_) (a' := ?_) #[true, true, false, false, false, false, false, false, false, false, false, false, false, false, false, false, false] rfl rfl (any_of HT_.out (by kernel_rfl)) (fun _ _ _ h => h) (Or.inl ⟨by rfl, ?_⟩) ?_ ?_
        rotate_left
        ·intro w'
         go_simp
         with_reducible rfl
        rotate_left
        ·simp only [Act.put, zs, zz, zt, i64_w, i32_w]
         rfl
        refine pure_ (i := 2) (N := some 18) (v := ?_) (a' := ?_) #[true, true, true, false, false, false, false, false, false, false, false, false, false, false, false, false, false] rfl rfl (any_of HT_.out (by kernel_rfl)) (fun _ _ _ h => h) (Or.inl ⟨by rfl, ?_⟩) ?_ ?_
        rotate_left
        ·intro w'
         go_simp
         with_reducible rfl
        rotate_left
        ·simp only [Act.put, zs, zz, zt, i64_w, i32_w]
         rfl
        refine pure_ (i := 3) (N := some 19) (v := ?_) (a' := ?_) #[true, true, true, true, false, false, false, false, false, false, false, false, false, false, false, false, false] rfl rfl (any_of HT_.out (by kernel_rfl)) (fun _ _ _ h => h) (Or.inl ⟨by rfl, ?_⟩) ?_ ?_
        rotate_left
        ·intro w'
         go_simp
         with_reducible rfl
        rotate_left
        ·simp only [Act.put, zs, zz, zt, i64_w, i32_w]
         rfl
        refine pure_ (i := 4) (N := some 20) (v := ?_) (a' := ?_) #[true, true, true, true, true, false, false, false, false, false, false, false, false, false, false, false, false] rfl rfl (any_of HT_.out (by kernel_rfl)) (fun _ _ _ h => h) (Or.inl ⟨by rfl, ?_⟩) ?_ ?_
        rotate_left
        ·intro w'
         go_simp
         with_reducible rfl
        rotate_left
        ·simp only [Act.put, zs, zz, zt, i64_w, i32_w]
         rfl
        refine pure_ (i := 5) (N := some 21) (v := ?_) (a' := ?_) #[true, true, true, true, true, true, false, false, false, false, false, false, false, false, false, false, false] rfl rfl (any_of HT_.out (by kernel_rfl)) (fun _ _ _ h => h) (Or.inl ⟨by rfl, ?_⟩) ?_ ?_
        rotate_left
        ·intro w'
         go_simp
         with_reducible rfl
        rotate_left
        ·simp only [Act.put, zs, zz, zt, i64_w, i32_w]
         rfl
        refine pure_ (i := 6) (N := some 22) (v := ?_) (a' := ?_) #[true, true, true, true, true, true, true, false, false, false, false, false, false, false, false, false, false] rfl rfl (any_of HT_.out (by kernel_rfl)) (fun _ _ _ h => h) (Or.inl ⟨by rfl, ?_⟩) ?_ ?_
        rotate_left
        ·intro w'
         go_simp
         with_reducible rfl
        rotate_left
        ·simp only [Act.put, zs, zz, zt, i64_w, i32_w]
         rfl
        refine pure_ (i := 7) (N := some 23) (v := ?_) (a' := ?_) #[true, true, true, true, true, true, true, true, false, false, false, false, false, false, false, false, false] rfl rfl (any_of HT_.out (by kernel_rfl)) (fun _ _ _ h => h) (Or.inl ⟨by rfl, ?_⟩) ?_ ?_
        rotate_left
        ·intro w'
         go_simp
         with_reducible rfl
        rotate_left
        ·simp only [Act.put, zs, zz, zt, i64_w, i32_w]
         rfl
        refine pure_ (i := 8) (N := some 24) (v := ?_) (a' := ?_) #[true, true, true, true, true, true, true, true, true, false, false, false, false, false, false, false, false] rfl rfl (any_of HT_.out (by kernel_rfl)) (fun _ _ _ h => h) (Or.inl ⟨by rfl, ?_⟩) ?_ ?_
        rotate_left
        ·intro w'
         go_simp
         with_reducible rfl
        rotate_left
        ·simp only [Act.put, zs, zz, zt, i64_w, i32_w]
         rfl
        refine pure_ (i := 9) (N := some 25) (v := ?_) (a' := ?_) #[true, true, true, true, true, true, true, true, true, true, false, false, false, false, false, false, false] rfl rfl (any_of HT_.out (by kernel_rfl)) (fun _ _ _ h => h) (Or.inl ⟨by rfl, ?_⟩) ?_ ?_
        rotate_left
        ·intro w'
         go_simp
         with_reducible rfl
        rotate_left
        ·simp only [Act.put, zs, zz, zt, i64_w, i32_w]
         rfl
        refine pure_ (i := 11) (N := some 27) (v := ?_) (a' := ?_) #[true, true, true, true, true, true, true, true, true, true, false, true, false, false, false, false, false] rfl rfl (any_of HT_.out (by kernel_rfl)) (fun _ _ _ h => h) (Or.inl ⟨by rfl, ?_⟩) ?_ ?_
        rotate_left
        ·intro w'
         go_simp
         with_reducible rfl
        rotate_left
        ·simp only [Act.put, zs, zz, zt, i64_w, i32_w]
         rfl
        refine pure_ (i := 12) (N := some 28) (v := ?_) (a' := ?_) #[true, true, true, true, true, true, true, true, true, true, false, true, true, false, false, false, false] rfl rfl (any_of HT_.out (by kernel_rfl)) (fun _ _ _ h => h) (Or.inl ⟨by rfl, ?_⟩) ?_ ?_
        rotate_left
        ·intro w'
         go_simp
         with_reducible rfl
        rotate_left
        ·simp only [Act.put, zs, zz, zt, i64_w, i32_w]
         rfl
        refine take_ (i := 10) (N := some 26) (v := ?_) (a' := ?_) #[true, true, true, true, true, true, true, true, true, true, true, true, true, false, false, false, false] rfl rfl (take_ofW HT_.out HW_.out (by kernel_rfl)) (fun _ _ _ h => h) (Or.inl ⟨by rfl, ?_⟩) hHeld ?_ ?_
        rotate_left
        ·intro w' s0
         go_simp
         with_reducible rfl
        rotate_left
        ·simp only [Act.put, zs, zz, zt, i64_w, i32_w]
         rfl
        refine pure_ (i := 13) (N := some 29) (v := ?_) (a' := ?_) #[true, true, true, true, true, true, true, true, true, true, true, true, true, true, false, false, false] rfl rfl (any_of HT_.out (by kernel_rfl)) (fun _ _ _ h => h) (Or.inl ⟨by rfl, ?_⟩) ?_ ?_
        rotate_left
        ·intro w'
         go_simp
         with_reducible rfl
        rotate_left
        ·simp only [Act.put, zs, zz, zt, i64_w, i32_w]
         rfl
        refine one_ (i := 14) (N := some 30) #[true, true, true, true, true, true, true, true, true, true, true, true, true, true, true, false, false] rfl rfl (one_of HT_.out (by kernel_rfl)) (by decide) (fun K hK => ?_)
        refine goes_ Try.func18 (by kernel_rfl) rfl #[.agg #[.int .i64 (rd t354 0), .string (a0.extract 8 a0.size)]] (by rfl) rfl rfl zq ?_
        with_reducible refine (impl_updateOK.calls (rd t354 0) (a0.extract 8 a0.size) true _ A12.out).mono ?_
        rintro e w19 ⟨rfl, hb⟩
        have HS0_ := (hb.cell (World.block_lt_of_cell? _ _ (hHeld))).trans (hHeld)
        refine ⟨_, rfl, ?_⟩
        have n0_ := zm (Kd.R_below (zg_2 Zb.out) hb); have n1_ := zm (blk_below (g := gb353) (o := .cells #[.int .i64 0, .string (⟨#[]⟩ : ByteArray)] 45 (0, 0)) (zg_3 Za.out) hb); have n2_ := zm (below_step (zg_1 HB.out Zc.out) hb); clear Zb; clear Za; clear HB; have Zb := n0_; have Za := n1_; have HB := n2_; clear n0_ n1_ n2_
        (try clear hb)
        (try clear hb2)
        (try clear hk)
        (try clear hi)
        refine hK.out _ _ (HS0_) (fun hHeld => ?_)
        clear hK K
        refine norm_ (a' := ?_) ?_ ?_
        rotate_left
        ·show Act.put _ (some 30) _ = _
         simp only [Act.put, zs, zz, zt, i64_w, i32_w]
         rfl
        refine pure_ (i := 15) (N := some 31) (v := ?_) (a' := ?_) #[true, true, true, true, true, true, true, true, true, true, true, true, true, true, true, true, false] rfl rfl (any_of HT_.out (by kernel_rfl)) (fun _ _ _ h => h) (Or.inl ⟨by rfl, ?_⟩) ?_ ?_
        rotate_left
        ·intro w'
         go_simp
         with_reducible rfl
        rotate_left
        ·simp only [Act.put, zs, zz, zt, i64_w, i32_w]
         rfl
        refine pure_ (i := 16) (N := some 32) (v := ?_) (a' := ?_) #[true, true, true, true, true, true, true, true, true, true, true, true, true, true, true, true, true] rfl rfl (any_of HT_.out (by kernel_rfl)) (fun _ _ _ h => h) (Or.inl ⟨by rfl, ?_⟩) ?_ ?_
        rotate_left
        ·intro w'
         go_simp
         with_reducible rfl
        rotate_left
        ·simp only [Act.put, zs, zz, zt, i64_w, i32_w]
         rfl
        refine done_ (done_of HT_.out (by kernel_rfl)) ?_
        try go_wp2
        have n0_ := zm (Kd.R_drew Zb.out); have n1_ := zm (blk_drew Za.out); have n2_ := zm (below_drew1 HB.out); clear Zb; clear Za; clear HB; have Zb := n0_; have Za := n1_; have HB := n2_; clear n0_ n1_ n2_
        have p360 : 0 ≤ (0 : Int) := (by omega)
        have q360 : 0 < (t354.length : Int) := zd
        obtain ⟨ad360, e360, hx360_0⟩ := Kd.at_int (Kd.R_reads' Zb.out).2.2 0 p360 q360
        obtain rfl : ad358 = ad360 := (by injection e360)
        have qi360 : (0 < t354.length) = True := eq_true (by omega)
        (try rw [show ((0 : Int)).toNat = 0 from rfl] at hx360_0)
        (try rw [Addr.add_zero'] at hx360_0)
        replace p360 := eq_true p360; replace q360 := eq_true q360
        refine start_ (n := 8) (S := fun w' => w'.cell? ad358 = some (.int .i64 (rd t354 0))) (ds := []) #[false, false, false, false, false, false, false, false] (by kernel_rfl) rfl rfl (hx360_0) (fun hHeld => ?_); refine with_tabW impl_updateOf.tab6 impl_updateOf.bits6 (fun HT_ HW_ => ?_)
        generalize w19.drew = w20 at Zb Za HB hx360_0 hHeld ⊢
        refine pure_ (i := 0) (N := some 34) (v := ?_) (a' := ?_) #[true, false, false, false, false, false, false, false] rfl rfl (any_of HT_.out (by kernel_rfl)) (fun _ _ _ h => h) (Or.inl ⟨by rfl, ?_⟩) ?_ ?_
        rotate_left
        ·intro w'
         go_simp
         with_reducible rfl
        rotate_left
        ·simp only [Act.put, zs, zz, zt, i64_w, i32_w]
         rfl
        refine pure_ (i := 1) (N := some 35) (v := ?_) (a' := ?_) #[true, true, false, false, false, false, false, false] rfl rfl (any_of HT_.out (by kernel_rfl)) (fun _ _ _ h => h) (Or.inl ⟨by rfl, ?_⟩) ?_ ?_
        rotate_left
        ·intro w'
         go_simp
         with_reducible rfl
        rotate_left
        ·simp only [Act.put, zs, zz, zt, i64_w, i32_w]
         rfl
        refine pure_ (i := 3) (N := some 37) (v := ?_) (a' := ?_) #[true, true, false, true, false, false, false, false] rfl rfl (any_of HT_.out (by kernel_rfl)) (fun _ _ _ h => h) (Or.inl ⟨by rfl, ?_⟩) ?_ ?_
        rotate_left
        ·intro w'
         go_simp
         with_reducible rfl
        rotate_left
        ·simp only [Act.put, zs, zz, zt, i64_w, i32_w]
         rfl
        refine pure_ (i := 4) (N := some 38) (v := ?_) (a' := ?_) #[true, true, false, true, true, false, false, false] rfl rfl (any_of HT_.out (by kernel_rfl)) (fun _ _ _ h => h) (Or.inl ⟨by rfl, ?_⟩) ?_ ?_
        rotate_left
        ·intro w'
         go_simp
         with_reducible rfl
        rotate_left
        ·simp only [Act.put, zs, zz, zt, i64_w, i32_w]
         rfl
        refine take_ (i := 2) (N := some 36) (v := ?_) (a' := ?_) #[true, true, true, true, true, false, false, false] rfl rfl (take_ofW HT_.out HW_.out (by kernel_rfl)) (fun _ _ _ h => h) (Or.inl ⟨by rfl, ?_⟩) hHeld ?_ ?_
        rotate_left
        ·intro w' s0
         go_simp
         with_reducible rfl
        rotate_left
        ·simp only [Act.put, zs, zz, zt, i64_w, i32_w]
         rfl
        refine pure_ (i := 5) (N := some 39) (v := ?_) (a' := ?_) #[true, true, true, true, true, true, false, false] rfl rfl (any_of HT_.out (by kernel_rfl)) (fun _ _ _ h => h) (Or.inl ⟨by rfl, ?_⟩) ?_ ?_
        rotate_left
        ·intro w'
         go_simp
         with_reducible rfl
        rotate_left
        ·simp only [Act.put, zs, zz, zt, i64_w, i32_w]
         rfl
        refine one_ (i := 6) (N := none) #[true, true, true, true, true, true, true, false] rfl rfl (one_of HT_.out (by kernel_rfl)) (by decide) (fun K hK => ?_)
        have hs21 : w20.cell? ⟨gb353, 0, none⟩ = some (.int .i64 0) := (blk_cell Za.out 0).trans rfl
        have hfs21 := blk_frozen Za.out 0
        have hs22 : w20.cell? ⟨gb353, 1, none⟩ = some (.string (⟨#[]⟩ : ByteArray)) := (blk_cell Za.out 1).trans rfl
        have hfs22 := blk_frozen Za.out 1
        refine skip_ (w1 := ?_) (by rfl) rfl ?_ ?_
        rotate_left
        ·go_simp
         rfl
        refine hK.out _ _ (((cell_far (p := ⟨gb353, _, none⟩) (by first | exact Kd.own_blk (Kd.R_ne Zb.out Za.out (by decide)) | (rw [add_block]; exact Kd.own_blk (Kd.R_ne Zb.out Za.out (by decide))) | (show (Addr.add _ _).block ≠ _; rw [add_block]; exact Kd.own_blk (Kd.R_ne Zb.out Za.out (by decide))) | (dsimp only; exact Kd.own_blk (Kd.R_ne Zb.out Za.out (by decide)))) _).trans (((cell_far (p := ⟨gb353, _, none⟩) (by first | exact Kd.own_blk (Kd.R_ne Zb.out Za.out (by decide)) | (rw [add_block]; exact Kd.own_blk (Kd.R_ne Zb.out Za.out (by decide))) | (show (Addr.add _ _).block ≠ _; rw [add_block]; exact Kd.own_blk (Kd.R_ne Zb.out Za.out (by decide))) | (dsimp only; exact Kd.own_blk (Kd.R_ne Zb.out Za.out (by decide)))) _).trans (hHeld))))) (fun hHeld => ?_)
        clear hK K
        refine pure_ (i := 7) (N := some 3) (v := ?_) (a' := ?_) #[true, true, true, true, true, true, true, true] rfl rfl (any_of HT_.out (by kernel_rfl)) (fun _ _ _ h => h) (Or.inl ⟨by rfl, ?_⟩) ?_ ?_
        rotate_left
        ·intro w'
         go_simp
         with_reducible rfl
        rotate_left
        ·simp only [Act.put, zs, zz, zt, i64_w, i32_w]
         rfl
        refine done_ (done_of HT_.out (by kernel_rfl)) ?_
        try go_wp2
        refine bodyPost_ret (results_ct rfl _ _ gb353 45 #[.int .i64 (rd t354 0), .string (a0.extract 8 a0.size)] (0, 0) _ rfl (by (with_reducible repeat (first | refine blk_drewN ?_ _ | refine blk_drew ?_ | refine blk_alloc ?_ _)); refine blk_put (cs := #[.int .i64 (rd t354 0), .string (⟨#[]⟩ : ByteArray)]) ?_ 1 _ rfl; (with_reducible repeat (first | refine blk_drewN ?_ _ | refine blk_drew ?_ | refine blk_alloc ?_ _)); refine blk_put (cs := #[.int .i64 0, .string (⟨#[]⟩ : ByteArray)]) ?_ 0 _ rfl; (with_reducible repeat (first | refine blk_drewN ?_ _ | refine blk_drew ?_ | refine blk_alloc ?_ _)); exact Za.out) Try.underlying45 rfl (by kernel_rfl)) rfl ?_
        exact ⟨ze, zg_1 HB.out Zc.out⟩
       ·replace c13 := Bool.eq_false_iff.mpr c13
        subst c13
        replace H : (some (0, (⟨#[]⟩ : ByteArray), false)) = some (r1, r2, r3) := by rw [if_neg (show ¬ (false = true) by decide)] at H; exact H
        simp only [Option.some.injEq, Prod.mk.injEq] at H
        obtain ⟨rfl, rfl, rfl⟩ := H
        go_enter Try.func63, Try.ntmps63
        try go_wp2_with (first | ((with_reducible refine gate_dst (N := 2) rfl ?_); (try (refine gate_guard (by rfl) ?_; dsimp only)); refine box_event ?hg (N := 2) ?hd (cs := #[.int .i64 0, .string (⟨#[]⟩ : ByteArray)]) (t := 45) ?hr ?_; (case hd => rfl); (case hg => rfl); (case hr => first | (go_simp; done) | (go_simp; rfl)); intro gb353 hg w23 hbox hb; have n0_ := zm (below_step (zg_0 HB.out) hb); have n1_ := zm (hbox); have n2_ := zm ((by rw [hg]; exact (below_size (zg_0 HB.out)) : w.heap.size ≤ gb353)); have n3_ := zm ((by rw [hg]; exact (below_size (zg_0 HB.out)) : w.heap.size ≤ gb353)); replace HB := n0_; have Za := n1_; have Zd := n2_; have Zc := n3_; clear n0_ n1_ n2_ n3_; clear hb hbox hg) | ((with_reducible refine gate_callee (f := 62) rfl ?_); refine goesL_ (some 13) rfl rfl Try.func62 (by kernel_rfl) rfl #[.string (a0.extract 0 8), .int .i64 8] rfl zq ?_; (with_reducible refine (impl_open.calls k (a0.extract 0 8) 8 t354 true _ A7.out).mono ?_); rintro e w24 ⟨v356, rfl, ho0, hb⟩; refine ⟨_, rfl, ?_⟩; have n0_ := zm (Kd.R_lower ho0 (below_size (zg_1 HB.out Zc.out))); have n1_ := zm (blk_below (g := gb353) (o := .cells #[.int .i64 0, .string (⟨#[]⟩ : ByteArray)] 45 (0, 0)) (zg_3 Za.out) hb); have n2_ := zm (below_step (zg_1 HB.out Zc.out) hb); have Zb := n0_; replace Za := n1_; replace HB := n2_; clear n0_ n1_ n2_; (try clear hb); (try clear hb2); (try clear hk); (try clear hi); (try clear ho0)))
        have n0_ := zm (Kd.R_drew Zb.out); have n1_ := zm (blk_drew Za.out); have n2_ := zm (below_drew1 HB.out); clear Zb; clear Za; clear HB; have Zb := n0_; have Za := n1_; have HB := n2_; clear n0_ n1_ n2_
        obtain ⟨Ao26, co26, eo26⟩ := Kd.R_slice Zb.out
        (first | subst eo26 | (injection eo26 with f1_ f2_ f3_; have f4_ := f1_.symm; have f5_ := f3_.symm; clear f1_ f2_ f3_; subst f4_; subst f5_))
        have p358 : 0 ≤ (0 : Int) := (by omega)
        have q358 : 0 < (t354.length : Int) := zd
        obtain ⟨ad358, e358, hx358_0⟩ := Kd.at_int (Kd.R_reads' Zb.out).2.2 0 p358 q358
        cases e358
        have qi358 : (0 < t354.length) = True := eq_true (by omega)
        (try rw [show ((0 : Int)).toNat = 0 from rfl] at hx358_0)
        (try rw [Addr.add_zero'] at hx358_0)
        replace p358 := eq_true p358; replace q358 := eq_true q358
        refine start_ (n := 17) (S := fun w' => w'.cell? ad358 = some (.int .i64 (rd t354 0))) (ds := []) #[false, false, false, false, false, false, false, false, false, false, false, false, false, false, false, false, false] (by kernel_rfl) rfl rfl (hx358_0) (fun hHeld => ?_); refine with_tabW impl_updateOf.tab4 impl_updateOf.bits4 (fun HT_ HW_ => ?_)
        generalize w24.drew = w25 at Zb Za HB hx358_0 hHeld ⊢
        refine pure_ (i := 0) (N := some 16) (v := ?_) (a' := ?_) #[true, false, false, false, false, false, false, false, false, false, false, false, false, false, false, false, false] rfl rfl (any_of HT_.out (by kernel_rfl)) (fun _ _ _ h => h) (Or.inl ⟨by rfl, ?_⟩) ?_ ?_
        rotate_left
        ·intro w'
         go_simp
         with_reducible rfl
        rotate_left
        ·simp only [Act.put, zs, zz, zt, i64_w, i32_w]
         rfl
        refine pure_ (i := 1) (N := some 17) (v := ?_) (a' := ?_) #[true, true, false, false, false, false, false, false, false, false, false, false, false, false, false, false, false] rfl rfl (any_of HT_.out (by kernel_rfl)) (fun _ _ _ h => h) (Or.inl ⟨by rfl, ?_⟩) ?_ ?_
        rotate_left
        ·intro w'
         go_simp
         with_reducible rfl
        rotate_left
        ·simp only [Act.put, zs, zz, zt, i64_w, i32_w]
         rfl
        refine pure_ (i := 2) (N := some 18) (v := ?_) (a' := ?_) #[true, true, true, false, false, false, false, false, false, false, false, false, false, false, false, false, false] rfl rfl (any_of HT_.out (by kernel_rfl)) (fun _ _ _ h => h) (Or.inl ⟨by rfl, ?_⟩) ?_ ?_
        rotate_left
        ·intro w'
         go_simp
         with_reducible rfl
        rotate_left
        ·simp only [Act.put, zs, zz, zt, i64_w, i32_w]
         rfl
        refine pure_ (i := 3) (N := some 19) (v := ?_) (a' := ?_) #[true, true, true, true, false, false, false, false, false, false, false, false, false, false, false, false, false] rfl rfl (any_of HT_.out (by kernel_rfl)) (fun _ _ _ h => h) (Or.inl ⟨by rfl, ?_⟩) ?_ ?_
        rotate_left
        ·intro w'
         go_simp
         with_reducible rfl
        rotate_left
        ·simp only [Act.put, zs, zz, zt, i64_w, i32_w]
         rfl
        refine pure_ (i := 4) (N := some 20) (v := ?_) (a' := ?_) #[true, true, true, true, true, false, false, false, false, false, false, false, false, false, false, false, false] rfl rfl (any_of HT_.out (by kernel_rfl)) (fun _ _ _ h => h) (Or.inl ⟨by rfl, ?_⟩) ?_ ?_
        rotate_left
        ·intro w'
         go_simp
         with_reducible rfl
        rotate_left
        ·simp only [Act.put, zs, zz, zt, i64_w, i32_w]
         rfl
        refine pure_ (i := 5) (N := some 21) (v := ?_) (a' := ?_) #[true, true, true, true, true, true, false, false, false, false, false, false, false, false, false, false, false] rfl rfl (any_of HT_.out (by kernel_rfl)) (fun _ _ _ h => h) (Or.inl ⟨by rfl, ?_⟩) ?_ ?_
        rotate_left
        ·intro w'
         go_simp
         with_reducible rfl
        rotate_left
        ·simp only [Act.put, zs, zz, zt, i64_w, i32_w]
         rfl
        refine pure_ (i := 6) (N := some 22) (v := ?_) (a' := ?_) #[true, true, true, true, true, true, true, false, false, false, false, false, false, false, false, false, false] rfl rfl (any_of HT_.out (by kernel_rfl)) (fun _ _ _ h => h) (Or.inl ⟨by rfl, ?_⟩) ?_ ?_
        rotate_left
        ·intro w'
         go_simp
         with_reducible rfl
        rotate_left
        ·simp only [Act.put, zs, zz, zt, i64_w, i32_w]
         rfl
        refine pure_ (i := 7) (N := some 23) (v := ?_) (a' := ?_) #[true, true, true, true, true, true, true, true, false, false, false, false, false, false, false, false, false] rfl rfl (any_of HT_.out (by kernel_rfl)) (fun _ _ _ h => h) (Or.inl ⟨by rfl, ?_⟩) ?_ ?_
        rotate_left
        ·intro w'
         go_simp
         with_reducible rfl
        rotate_left
        ·simp only [Act.put, zs, zz, zt, i64_w, i32_w]
         rfl
        refine pure_ (i := 8) (N := some 24) (v := ?_) (a' := ?_) #[true, true, true, true, true, true, true, true, true, false, false, false, false, false, false, false, false] rfl rfl (any_of HT_.out (by kernel_rfl)) (fun _ _ _ h => h) (Or.inl ⟨by rfl, ?_⟩) ?_ ?_
        rotate_left
        ·intro w'
         go_simp
         with_reducible rfl
        rotate_left
        ·simp only [Act.put, zs, zz, zt, i64_w, i32_w]
         rfl
        refine pure_ (i := 9) (N := some 25) (v := ?_) (a' := ?_) #[true, true, true, true, true, true, true, true, true, true, false, false, false, false, false, false, false] rfl rfl (any_of HT_.out (by kernel_rfl)) (fun _ _ _ h => h) (Or.inl ⟨by rfl, ?_⟩) ?_ ?_
        rotate_left
        ·intro w'
         go_simp
         with_reducible rfl
        rotate_left
        ·simp only [Act.put, zs, zz, zt, i64_w, i32_w]
         rfl
        refine pure_ (i := 11) (N := some 27) (v := ?_) (a' := ?_) #[true, true, true, true, true, true, true, true, true, true, false, true, false, false, false, false, false] rfl rfl (any_of HT_.out (by kernel_rfl)) (fun _ _ _ h => h) (Or.inl ⟨by rfl, ?_⟩) ?_ ?_
        rotate_left
        ·intro w'
         go_simp
         with_reducible rfl
        rotate_left
        ·simp only [Act.put, zs, zz, zt, i64_w, i32_w]
         rfl
        refine pure_ (i := 12) (N := some 28) (v := ?_) (a' := ?_) #[true, true, true, true, true, true, true, true, true, true, false, true, true, false, false, false, false] rfl rfl (any_of HT_.out (by kernel_rfl)) (fun _ _ _ h => h) (Or.inl ⟨by rfl, ?_⟩) ?_ ?_
        rotate_left
        ·intro w'
         go_simp
         with_reducible rfl
        rotate_left
        ·simp only [Act.put, zs, zz, zt, i64_w, i32_w]
         rfl
        refine take_ (i := 10) (N := some 26) (v := ?_) (a' := ?_) #[true, true, true, true, true, true, true, true, true, true, true, true, true, false, false, false, false] rfl rfl (take_ofW HT_.out HW_.out (by kernel_rfl)) (fun _ _ _ h => h) (Or.inl ⟨by rfl, ?_⟩) hHeld ?_ ?_
        rotate_left
        ·intro w' s0
         go_simp
         with_reducible rfl
        rotate_left
        ·simp only [Act.put, zs, zz, zt, i64_w, i32_w]
         rfl
        refine pure_ (i := 13) (N := some 29) (v := ?_) (a' := ?_) #[true, true, true, true, true, true, true, true, true, true, true, true, true, true, false, false, false] rfl rfl (any_of HT_.out (by kernel_rfl)) (fun _ _ _ h => h) (Or.inl ⟨by rfl, ?_⟩) ?_ ?_
        rotate_left
        ·intro w'
         go_simp
         with_reducible rfl
        rotate_left
        ·simp only [Act.put, zs, zz, zt, i64_w, i32_w]
         rfl
        refine one_ (i := 14) (N := some 30) #[true, true, true, true, true, true, true, true, true, true, true, true, true, true, true, false, false] rfl rfl (one_of HT_.out (by kernel_rfl)) (by decide) (fun K hK => ?_)
        refine goes_ Try.func18 (by kernel_rfl) rfl #[.agg #[.int .i64 (rd t354 0), .string (a0.extract 8 a0.size)]] (by rfl) rfl rfl zq ?_
        with_reducible refine (impl_updateOK.calls (rd t354 0) (a0.extract 8 a0.size) false _ A12.out).mono ?_
        rintro e w27 ⟨rfl, hb⟩
        have HS0_ := (hb.cell (World.block_lt_of_cell? _ _ (hHeld))).trans (hHeld)
        refine ⟨_, rfl, ?_⟩
        have n0_ := zm (Kd.R_below (zg_2 Zb.out) hb); have n1_ := zm (blk_below (g := gb353) (o := .cells #[.int .i64 0, .string (⟨#[]⟩ : ByteArray)] 45 (0, 0)) (zg_3 Za.out) hb); have n2_ := zm (below_step (zg_1 HB.out Zc.out) hb); clear Zb; clear Za; clear HB; have Zb := n0_; have Za := n1_; have HB := n2_; clear n0_ n1_ n2_
        (try clear hb)
        (try clear hb2)
        (try clear hk)
        (try clear hi)
        refine hK.out _ _ (HS0_) (fun hHeld => ?_)
        clear hK K
        refine norm_ (a' := ?_) ?_ ?_
        rotate_left
        ·show Act.put _ (some 30) _ = _
         simp only [Act.put, zs, zz, zt, i64_w, i32_w]
         rfl
        refine pure_ (i := 15) (N := some 31) (v := ?_) (a' := ?_) #[true, true, true, true, true, true, true, true, true, true, true, true, true, true, true, true, false] rfl rfl (any_of HT_.out (by kernel_rfl)) (fun _ _ _ h => h) (Or.inl ⟨by rfl, ?_⟩) ?_ ?_
        rotate_left
        ·intro w'
         go_simp
         with_reducible rfl
        rotate_left
        ·simp only [Act.put, zs, zz, zt, i64_w, i32_w]
         rfl
        refine pure_ (i := 16) (N := some 32) (v := ?_) (a' := ?_) #[true, true, true, true, true, true, true, true, true, true, true, true, true, true, true, true, true] rfl rfl (any_of HT_.out (by kernel_rfl)) (fun _ _ _ h => h) (Or.inl ⟨by rfl, ?_⟩) ?_ ?_
        rotate_left
        ·intro w'
         go_simp
         with_reducible rfl
        rotate_left
        ·simp only [Act.put, zs, zz, zt, i64_w, i32_w]
         rfl
        refine done_ (done_of HT_.out (by kernel_rfl)) ?_
        obtain ⟨hcz28_0, hcz28_1, hfz28_0, hfz28_1⟩ := zb2 Za.out
        try go_wp2
        refine bodyPost_ret (results_ct rfl _ _ gb353 45 #[.int .i64 0, .string (⟨#[]⟩ : ByteArray)] (0, 0) _ rfl (by (with_reducible repeat (first | refine blk_drewN ?_ _ | refine blk_drew ?_ | refine blk_alloc ?_ _)); refine blk_put (cs := #[.int .i64 0, .string (⟨#[]⟩ : ByteArray)]) ?_ 1 _ rfl; (with_reducible repeat (first | refine blk_drewN ?_ _ | refine blk_drew ?_ | refine blk_alloc ?_ _)); refine blk_put (cs := #[.int .i64 0, .string (⟨#[]⟩ : ByteArray)]) ?_ 0 _ rfl; (with_reducible repeat (first | refine blk_drewN ?_ _ | refine blk_drew ?_ | refine blk_alloc ?_ _)); exact Za.out) Try.underlying45 rfl (by kernel_rfl)) rfl ?_
        exact ⟨ze, zg_1 HB.out Zc.out⟩
      ·rw [if_neg c10] at H
       exact absurd H (by simp)
     ·rw [if_neg c9] at H
      have c9b0 : ((t354.length : Int) == 1) = false := beq_eq_false_iff_ne.mpr c9
      have c9b1 : ((t354.length : Int) != 1) = true := bne_iff_ne.mpr c9
      simp only [Option.some.injEq, Prod.mk.injEq] at H
      obtain ⟨rfl, rfl, rfl⟩ := H
      go_enter Try.func63, Try.ntmps63
      try go_wp2_with (first | ((with_reducible refine gate_dst (N := 2) rfl ?_); (try (refine gate_guard (by rfl) ?_; dsimp only)); refine box_event ?hg (N := 2) ?hd (cs := #[.int .i64 0, .string (⟨#[]⟩ : ByteArray)]) (t := 45) ?hr ?_; (case hd => rfl); (case hg => rfl); (case hr => first | (go_simp; done) | (go_simp; rfl)); intro gb353 hg w29 hbox hb; have n0_ := zm (below_step (zg_0 HB.out) hb); have n1_ := zm (hbox); have n2_ := zm ((by rw [hg]; exact (below_size (zg_0 HB.out)) : w.heap.size ≤ gb353)); have n3_ := zm ((by rw [hg]; exact (below_size (zg_0 HB.out)) : w.heap.size ≤ gb353)); replace HB := n0_; have Za := n1_; have Zd := n2_; have Zc := n3_; clear n0_ n1_ n2_ n3_; clear hb hbox hg) | ((with_reducible refine gate_callee (f := 62) rfl ?_); refine goesL_ (some 13) rfl rfl Try.func62 (by kernel_rfl) rfl #[.string (a0.extract 0 8), .int .i64 8] rfl zq ?_; (with_reducible refine (impl_open.calls k (a0.extract 0 8) 8 t354 true _ A7.out).mono ?_); rintro e w30 ⟨v356, rfl, ho0, hb⟩; refine ⟨_, rfl, ?_⟩; have n0_ := zm (Kd.R_lower ho0 (below_size (zg_1 HB.out Zc.out))); have n1_ := zm (blk_below (g := gb353) (o := .cells #[.int .i64 0, .string (⟨#[]⟩ : ByteArray)] 45 (0, 0)) (zg_3 Za.out) hb); have n2_ := zm (below_step (zg_1 HB.out Zc.out) hb); have Zb := n0_; replace Za := n1_; replace HB := n2_; clear n0_ n1_ n2_; (try clear hb); (try clear hb2); (try clear hk); (try clear hi); (try clear ho0)))
      have n0_ := zm (Kd.R_drew Zb.out); have n1_ := zm (blk_drew Za.out); have n2_ := zm (below_drew1 HB.out); clear Zb; clear Za; clear HB; have Zb := n0_; have Za := n1_; have HB := n2_; clear n0_ n1_ n2_
      obtain ⟨Ao32, co32, eo32⟩ := Kd.R_slice Zb.out
      (first | subst eo32 | (injection eo32 with f1_ f2_ f3_; have f4_ := f1_.symm; have f5_ := f3_.symm; clear f1_ f2_ f3_; subst f4_; subst f5_))
      refine start_ (n := 17) (S := fun w' => True) (ds := []) #[false, false, false, false, false, false, false, false, false, false, false, false, false, false, false, false, false] (by kernel_rfl) rfl rfl trivial (fun hHeld => ?_); refine with_tabW impl_updateOf.tab4 impl_updateOf.bits4 (fun HT_ HW_ => ?_)
      generalize w30.drew = w31 at Zb Za HB hHeld ⊢
      refine pure_ (i := 0) (N := some 16) (v := ?_) (a' := ?_) #[true, false, false, false, false, false, false, false, false, false, false, false, false, false, false, false, false] rfl rfl (any_of HT_.out (by kernel_rfl)) (fun _ _ _ h => h) (Or.inl ⟨by rfl, ?_⟩) ?_ ?_
      rotate_left
      ·intro w'
       go_simp
       with_reducible rfl
      rotate_left
      ·simp only [Act.put, zs, zz, zt, i64_w, i32_w]
       rfl
      refine pure_ (i := 1) (N := some 17) (v := ?_) (a' := ?_) #[true, true, false, false, false, false, false, false, false, false, false, false, false, false, false, false, false] rfl rfl (any_of HT_.out (by kernel_rfl)) (fun _ _ _ h => h) (Or.inl ⟨by rfl, ?_⟩) ?_ ?_
      rotate_left
      ·intro w'
       go_simp
       with_reducible rfl
      rotate_left
      ·simp only [Act.put, zs, zz, zt, i64_w, i32_w]
       rfl
      refine pure_ (i := 2) (N := some 18) (v := ?_) (a' := ?_) #[true, true, true, false, false, false, false, false, false, false, false, false, false, false, false, false, false] rfl rfl (any_of HT_.out (by kernel_rfl)) (fun _ _ _ h => h) (Or.inl ⟨by rfl, ?_⟩) ?_ ?_
      rotate_left
      ·intro w'
       go_simp
       with_reducible rfl
      rotate_left
      ·simp only [Act.put, zs, zz, zt, i64_w, i32_w]
       rfl
      refine pure_ (i := 3) (N := some 19) (v := ?_) (a' := ?_) #[true, true, true, true, false, false, false, false, false, false, false, false, false, false, false, false, false] rfl rfl (any_of HT_.out (by kernel_rfl)) (fun _ _ _ h => h) (Or.inl ⟨by rfl, ?_⟩) ?_ ?_
      rotate_left
      ·intro w'
       go_simp
       with_reducible rfl
      rotate_left
      ·simp only [Act.put, zs, zz, zt, i64_w, i32_w]
       rfl
      refine pure_ (i := 4) (N := some 20) (v := ?_) (a' := ?_) #[true, true, true, true, true, false, false, false, false, false, false, false, false, false, false, false, false] rfl rfl (any_of HT_.out (by kernel_rfl)) (fun _ _ _ h => h) (Or.inl ⟨by rfl, ?_⟩) ?_ ?_
      rotate_left
      ·intro w'
       go_simp
       with_reducible rfl
      rotate_left
      ·simp only [Act.put, zs, zz, zt, i64_w, i32_w]
       rfl
      refine pure_ (i := 5) (N := some 21) (v := ?_) (a' := ?_) #[true, true, true, true, true, true, false, false, false, false, false, false, false, false, false, false, false] rfl rfl (any_of HT_.out (by kernel_rfl)) (fun _ _ _ h => h) (Or.inl ⟨by rfl, ?_⟩) ?_ ?_
      rotate_left
      ·intro w'
       go_simp
       with_reducible rfl
      rotate_left
      ·simp only [Act.put, zs, zz, zt, i64_w, i32_w]
       rfl
      refine pure_ (i := 6) (N := some 22) (v := ?_) (a' := ?_) #[true, true, true, true, true, true, true, false, false, false, false, false, false, false, false, false, false] rfl rfl (any_of HT_.out (by kernel_rfl)) (fun _ _ _ h => h) (Or.inl ⟨by rfl, ?_⟩) ?_ ?_
      rotate_left
      ·intro w'
       go_simp
       with_reducible rfl
      rotate_left
      ·simp only [Act.put, zs, zz, zt, i64_w, i32_w]
       rfl
      refine pure_ (i := 7) (N := some 23) (v := ?_) (a' := ?_) #[true, true, true, true, true, true, true, true, false, false, false, false, false, false, false, false, false] rfl rfl (any_of HT_.out (by kernel_rfl)) (fun _ _ _ h => h) (Or.inl ⟨by rfl, ?_⟩) ?_ ?_
      rotate_left
      ·intro w'
       go_simp
       with_reducible rfl
      rotate_left
      ·simp only [Act.put, zs, zz, zt, i64_w, i32_w]
       rfl
      refine pure_ (i := 8) (N := some 24) (v := undef) (a' := ?_) #[true, true, true, true, true, true, true, true, true, false, false, false, false, false, false, false, false] rfl rfl (any_of HT_.out (by kernel_rfl)) (fun _ _ _ h => h) (Or.inr ⟨by rfl, rfl⟩) ?_ ?_
      rotate_left
      ·simp only [Act.put, zs, zz, zt, i64_w, i32_w]
       rfl
      refine pure_ (i := 9) (N := some 25) (v := undef) (a' := ?_) #[true, true, true, true, true, true, true, true, true, true, false, false, false, false, false, false, false] rfl rfl (any_of HT_.out (by kernel_rfl)) (fun _ _ _ h => h) (Or.inr ⟨by rfl, rfl⟩) ?_ ?_
      rotate_left
      ·simp only [Act.put, zs, zz, zt, i64_w, i32_w]
       rfl
      refine pure_ (i := 10) (N := some 26) (v := undef) (a' := ?_) #[true, true, true, true, true, true, true, true, true, true, true, false, false, false, false, false, false] rfl rfl (any_of HT_.out (by kernel_rfl)) (fun _ _ _ h => h) (Or.inr ⟨by rfl, rfl⟩) ?_ ?_
      rotate_left
      ·simp only [Act.put, zs, zz, zt, i64_w, i32_w]
       rfl
      refine pure_ (i := 11) (N := some 27) (v := undef) (a' := ?_) #[true, true, true, true, true, true, true, true, true, true, true, true, false, false, false, false, false] rfl rfl (any_of HT_.out (by kernel_rfl)) (fun _ _ _ h => h) (Or.inr ⟨by rfl, rfl⟩) ?_ ?_
      rotate_left
      ·simp only [Act.put, zs, zz, zt, i64_w, i32_w]
       rfl
      refine pure_ (i := 12) (N := some 28) (v := undef) (a' := ?_) #[true, true, true, true, true, true, true, true, true, true, true, true, true, false, false, false, false] rfl rfl (any_of HT_.out (by kernel_rfl)) (fun _ _ _ h => h) (Or.inr ⟨by rfl, rfl⟩) ?_ ?_
      rotate_left
      ·simp only [Act.put, zs, zz, zt, i64_w, i32_w]
       rfl
      refine pure_ (i := 13) (N := some 29) (v := undef) (a' := ?_) #[true, true, true, true, true, true, true, true, true, true, true, true, true, true, false, false, false] rfl rfl (any_of HT_.out (by kernel_rfl)) (fun _ _ _ h => h) (Or.inr ⟨by rfl, rfl⟩) ?_ ?_
      rotate_left
      ·simp only [Act.put, zs, zz, zt, i64_w, i32_w]
       rfl
      refine pure_ (i := 14) (N := some 30) (v := undef) (a' := ?_) #[true, true, true, true, true, true, true, true, true, true, true, true, true, true, true, false, false] rfl rfl (any_of HT_.out (by kernel_rfl)) (fun _ _ _ h => h) (Or.inr ⟨by rfl, rfl⟩) ?_ ?_
      rotate_left
      ·simp only [Act.put, zs, zz, zt, i64_w, i32_w]
       rfl
      refine pure_ (i := 15) (N := some 31) (v := undef) (a' := ?_) #[true, true, true, true, true, true, true, true, true, true, true, true, true, true, true, true, false] rfl rfl (any_of HT_.out (by kernel_rfl)) (fun _ _ _ h => h) (Or.inr ⟨by rfl, rfl⟩) ?_ ?_
      rotate_left
      ·simp only [Act.put, zs, zz, zt, i64_w, i32_w]
       rfl
      refine pure_ (i := 16) (N := some 32) (v := ?_) (a' := ?_) #[true, true, true, true, true, true, true, true, true, true, true, true, true, true, true, true, true] rfl rfl (any_of HT_.out (by kernel_rfl)) (fun _ _ _ h => h) (Or.inl ⟨by rfl, ?_⟩) ?_ ?_
      rotate_left
      ·intro w'
       go_simp
       with_reducible rfl
      rotate_left
      ·simp only [Act.put, zs, zz, zt, i64_w, i32_w]
       rfl
      refine done_ (done_of HT_.out (by kernel_rfl)) ?_
      obtain ⟨hcz33_0, hcz33_1, hfz33_0, hfz33_1⟩ := zb2 Za.out
      try go_wp2
      refine bodyPost_ret (results_ct rfl _ _ gb353 45 #[.int .i64 0, .string (⟨#[]⟩ : ByteArray)] (0, 0) _ rfl (by (with_reducible repeat (first | refine blk_drewN ?_ _ | refine blk_drew ?_ | refine blk_alloc ?_ _)); refine blk_put (cs := #[.int .i64 0, .string (⟨#[]⟩ : ByteArray)]) ?_ 1 _ rfl; (with_reducible repeat (first | refine blk_drewN ?_ _ | refine blk_drew ?_ | refine blk_alloc ?_ _)); refine blk_put (cs := #[.int .i64 0, .string (⟨#[]⟩ : ByteArray)]) ?_ 0 _ rfl; (with_reducible repeat (first | refine blk_drewN ?_ _ | refine blk_drew ?_ | refine blk_alloc ?_ _)); exact Za.out) Try.underlying45 rfl (by kernel_rfl)) rfl ?_
      exact ⟨ze, zg_1 HB.out Zc.out⟩
    ·replace c8 := Bool.eq_false_iff.mpr c8
     subst c8
     replace H : (some (0, (⟨#[]⟩ : ByteArray), false)) = some (r1, r2, r3) := by rw [if_neg (show ¬ (false = true) by decide)] at H; exact H
     simp only [Option.some.injEq, Prod.mk.injEq] at H
     obtain ⟨rfl, rfl, rfl⟩ := H
     go_enter Try.func63, Try.ntmps63
     try go_wp2_with (first | ((with_reducible refine gate_dst (N := 2) rfl ?_); (try (refine gate_guard (by rfl) ?_; dsimp only)); refine box_event ?hg (N := 2) ?hd (cs := #[.int .i64 0, .string (⟨#[]⟩ : ByteArray)]) (t := 45) ?hr ?_; (case hd => rfl); (case hg => rfl); (case hr => first | (go_simp; done) | (go_simp; rfl)); intro gb353 hg w34 hbox hb; have n0_ := zm (below_step (zg_0 HB.out) hb); have n1_ := zm (hbox); have n2_ := zm ((by rw [hg]; exact (below_size (zg_0 HB.out)) : w.heap.size ≤ gb353)); have n3_ := zm ((by rw [hg]; exact (below_size (zg_0 HB.out)) : w.heap.size ≤ gb353)); replace HB := n0_; have Za := n1_; have Zd := n2_; have Zc := n3_; clear n0_ n1_ n2_ n3_; clear hb hbox hg) | ((with_reducible refine gate_callee (f := 62) rfl ?_); refine goesL_ (some 13) rfl rfl Try.func62 (by kernel_rfl) rfl #[.string (a0.extract 0 8), .int .i64 8] rfl zq ?_; (with_reducible refine (impl_open.calls k (a0.extract 0 8) 8 t354 false _ A7.out).mono ?_); rintro e w35 ⟨v356, rfl, ho0, hb⟩; refine ⟨_, rfl, ?_⟩; have n0_ := zm (Kd.R_lower ho0 (below_size (zg_1 HB.out Zc.out))); have n1_ := zm (blk_below (g := gb353) (o := .cells #[.int .i64 0, .string (⟨#[]⟩ : ByteArray)] 45 (0, 0)) (zg_3 Za.out) hb); have n2_ := zm (below_step (zg_1 HB.out Zc.out) hb); have Zb := n0_; replace Za := n1_; replace HB := n2_; clear n0_ n1_ n2_; (try clear hb); (try clear hb2); (try clear hk); (try clear hi); (try clear ho0)))
     have n0_ := zm (Kd.R_drew Zb.out); have n1_ := zm (blk_drew Za.out); have n2_ := zm (below_drew1 HB.out); clear Zb; clear Za; clear HB; have Zb := n0_; have Za := n1_; have HB := n2_; clear n0_ n1_ n2_
     refine start_ (n := 17) (S := fun w' => True) (ds := []) #[false, false, false, false, false, false, false, false, false, false, false, false, false, false, false, false, false] (by kernel_rfl) rfl rfl trivial (fun hHeld => ?_); refine with_tabW impl_updateOf.tab4 impl_updateOf.bits4 (fun HT_ HW_ => ?_)
     generalize w35.drew = w36 at Zb Za HB hHeld ⊢
     refine pure_ (i := 0) (N := some 16) (v := ?_) (a' := ?_) #[true, false, false, false, false, false, false, false, false, false, false, false, false, false, false, false, false] rfl rfl (any_of HT_.out (by kernel_rfl)) (fun _ _ _ h => h) (Or.inl ⟨by rfl, ?_⟩) ?_ ?_
     rotate_left
     ·intro w'
      go_simp
      with_reducible rfl
     rotate_left
     ·simp only [Act.put, zs, zz, zt, i64_w, i32_w]
      rfl
     refine pure_ (i := 1) (N := some 17) (v := ?_) (a' := ?_) #[true, true, false, false, false, false, false, false, false, false, false, false, false, false, false, false, false] rfl rfl (any_of HT_.out (by kernel_rfl)) (fun _ _ _ h => h) (Or.inl ⟨by rfl, ?_⟩) ?_ ?_
     rotate_left
     ·intro w'
      go_simp
      with_reducible rfl
     rotate_left
     ·simp only [Act.put, zs, zz, zt, i64_w, i32_w]
      rfl
     refine pure_ (i := 2) (N := some 18) (v := ?_) (a' := ?_) #[true, true, true, false, false, false, false, false, false, false, false, false, false, false, false, false, false] rfl rfl (any_of HT_.out (by kernel_rfl)) (fun _ _ _ h => h) (Or.inl ⟨by rfl, ?_⟩) ?_ ?_
     rotate_left
     ·intro w'
      go_simp
      with_reducible rfl
     rotate_left
     ·simp only [Act.put, zs, zz, zt, i64_w, i32_w]
      rfl
     refine pure_ (i := 3) (N := some 19) (v := undef) (a' := ?_) #[true, true, true, true, false, false, false, false, false, false, false, false, false, false, false, false, false] rfl rfl (any_of HT_.out (by kernel_rfl)) (fun _ _ _ h => h) (Or.inr ⟨by rfl, rfl⟩) ?_ ?_
     rotate_left
     ·simp only [Act.put, zs, zz, zt, i64_w, i32_w]
      rfl
     refine pure_ (i := 4) (N := some 20) (v := undef) (a' := ?_) #[true, true, true, true, true, false, false, false, false, false, false, false, false, false, false, false, false] rfl rfl (any_of HT_.out (by kernel_rfl)) (fun _ _ _ h => h) (Or.inr ⟨by rfl, rfl⟩) ?_ ?_
     rotate_left
     ·simp only [Act.put, zs, zz, zt, i64_w, i32_w]
      rfl
     refine pure_ (i := 5) (N := some 21) (v := undef) (a' := ?_) #[true, true, true, true, true, true, false, false, false, false, false, false, false, false, false, false, false] rfl rfl (any_of HT_.out (by kernel_rfl)) (fun _ _ _ h => h) (Or.inr ⟨by rfl, rfl⟩) ?_ ?_
     rotate_left
     ·simp only [Act.put, zs, zz, zt, i64_w, i32_w]
      rfl
     refine pure_ (i := 6) (N := some 22) (v := ?_) (a' := ?_) #[true, true, true, true, true, true, true, false, false, false, false, false, false, false, false, false, false] rfl rfl (any_of HT_.out (by kernel_rfl)) (fun _ _ _ h => h) (Or.inl ⟨by rfl, ?_⟩) ?_ ?_
     rotate_left
     ·intro w'
      go_simp
      with_reducible rfl
     rotate_left
     ·simp only [Act.put, zs, zz, zt, i64_w, i32_w]
      rfl
     refine pure_ (i := 7) (N := some 23) (v := ?_) (a' := ?_) #[true, true, true, true, true, true, true, true, false, false, false, false, false, false, false, false, false] rfl rfl (any_of HT_.out (by kernel_rfl)) (fun _ _ _ h => h) (Or.inl ⟨by rfl, ?_⟩) ?_ ?_
     rotate_left
     ·intro w'
      go_simp
      with_reducible rfl
     rotate_left
     ·simp only [Act.put, zs, zz, zt, i64_w, i32_w]
      rfl
     refine pure_ (i := 8) (N := some 24) (v := undef) (a' := ?_) #[true, true, true, true, true, true, true, true, true, false, false, false, false, false, false, false, false] rfl rfl (any_of HT_.out (by kernel_rfl)) (fun _ _ _ h => h) (Or.inr ⟨by rfl, rfl⟩) ?_ ?_
     rotate_left
     ·simp only [Act.put, zs, zz, zt, i64_w, i32_w]
      rfl
     refine pure_ (i := 9) (N := some 25) (v := undef) (a' := ?_) #[true, true, true, true, true, true, true, true, true, true, false, false, false, false, false, false, false] rfl rfl (any_of HT_.out (by kernel_rfl)) (fun _ _ _ h => h) (Or.inr ⟨by rfl, rfl⟩) ?_ ?_
     rotate_left
     ·simp only [Act.put, zs, zz, zt, i64_w, i32_w]
      rfl
     refine pure_ (i := 10) (N := some 26) (v := undef) (a' := ?_) #[true, true, true, true, true, true, true, true, true, true, true, false, false, false, false, false, false] rfl rfl (any_of HT_.out (by kernel_rfl)) (fun _ _ _ h => h) (Or.inr ⟨by rfl, rfl⟩) ?_ ?_
     rotate_left
     ·simp only [Act.put, zs, zz, zt, i64_w, i32_w]
      rfl
     refine pure_ (i := 11) (N := some 27) (v := undef) (a' := ?_) #[true, true, true, true, true, true, true, true, true, true, true, true, false, false, false, false, false] rfl rfl (any_of HT_.out (by kernel_rfl)) (fun _ _ _ h => h) (Or.inr ⟨by rfl, rfl⟩) ?_ ?_
     rotate_left
     ·simp only [Act.put, zs, zz, zt, i64_w, i32_w]
      rfl
     refine pure_ (i := 12) (N := some 28) (v := undef) (a' := ?_) #[true, true, true, true, true, true, true, true, true, true, true, true, true, false, false, false, false] rfl rfl (any_of HT_.out (by kernel_rfl)) (fun _ _ _ h => h) (Or.inr ⟨by rfl, rfl⟩) ?_ ?_
     rotate_left
     ·simp only [Act.put, zs, zz, zt, i64_w, i32_w]
      rfl
     refine pure_ (i := 13) (N := some 29) (v := undef) (a' := ?_) #[true, true, true, true, true, true, true, true, true, true, true, true, true, true, false, false, false] rfl rfl (any_of HT_.out (by kernel_rfl)) (fun _ _ _ h => h) (Or.inr ⟨by rfl, rfl⟩) ?_ ?_
     rotate_left
     ·simp only [Act.put, zs, zz, zt, i64_w, i32_w]
      rfl
     refine pure_ (i := 14) (N := some 30) (v := undef) (a' := ?_) #[true, true, true, true, true, true, true, true, true, true, true, true, true, true, true, false, false] rfl rfl (any_of HT_.out (by kernel_rfl)) (fun _ _ _ h => h) (Or.inr ⟨by rfl, rfl⟩) ?_ ?_
     rotate_left
     ·simp only [Act.put, zs, zz, zt, i64_w, i32_w]
      rfl
     refine pure_ (i := 15) (N := some 31) (v := undef) (a' := ?_) #[true, true, true, true, true, true, true, true, true, true, true, true, true, true, true, true, false] rfl rfl (any_of HT_.out (by kernel_rfl)) (fun _ _ _ h => h) (Or.inr ⟨by rfl, rfl⟩) ?_ ?_
     rotate_left
     ·simp only [Act.put, zs, zz, zt, i64_w, i32_w]
      rfl
     refine pure_ (i := 16) (N := some 32) (v := ?_) (a' := ?_) #[true, true, true, true, true, true, true, true, true, true, true, true, true, true, true, true, true] rfl rfl (any_of HT_.out (by kernel_rfl)) (fun _ _ _ h => h) (Or.inl ⟨by rfl, ?_⟩) ?_ ?_
     rotate_left
     ·intro w'
      go_simp
      with_reducible rfl
     rotate_left
     ·simp only [Act.put, zs, zz, zt, i64_w, i32_w]
      rfl
     refine done_ (done_of HT_.out (by kernel_rfl)) ?_
     obtain ⟨hcz37_0, hcz37_1, hfz37_0, hfz37_1⟩ := zb2 Za.out
     try go_wp2
     refine bodyPost_ret (results_ct rfl _ _ gb353 45 #[.int .i64 0, .string (⟨#[]⟩ : ByteArray)] (0, 0) _ rfl (by (with_reducible repeat (first | refine blk_drewN ?_ _ | refine blk_drew ?_ | refine blk_alloc ?_ _)); refine blk_put (cs := #[.int .i64 0, .string (⟨#[]⟩ : ByteArray)]) ?_ 1 _ rfl; (with_reducible repeat (first | refine blk_drewN ?_ _ | refine blk_drew ?_ | refine blk_alloc ?_ _)); refine blk_put (cs := #[.int .i64 0, .string (⟨#[]⟩ : ByteArray)]) ?_ 0 _ rfl; (with_reducible repeat (first | refine blk_drewN ?_ _ | refine blk_drew ?_ | refine blk_alloc ?_ _)); exact Za.out) Try.underlying45 rfl (by kernel_rfl)) rfl ?_
     exact ⟨ze, zg_1 HB.out Zc.out⟩
   ·rw [if_neg c6] at H
    exact absurd H (by simp)
  ·rw [if_neg c5] at H
   exact absurd H (by simp)
end Go.Proofs.Ytfmfbmcdikkijaa.Q
