/- What laws.FnExactReadDelta reaches, part 7: the functions as Lean functions, the proofs that the program's functions answer so, and plain laws about them. -/
import Derived.Test.YtadelojhfepkeaaKFnExactReadDelta1
import Derived.Test.YtadelojhfepkeaaKFnExactReadDelta3
import Derived.Test.YtadelojhfepkeaaKFnExactReadDelta4
import Derived.Test.YtadelojhfepkeaaKFnExactReadDelta6
namespace Go.Proofs.Ytadelojhfepkeaa.Q
open Go.RowKit Go.Proofs.Ytadelojhfepkeaa.Ext Go.Proofs.YtadelojhfepkeaaW.PrintWords Go.Proofs.YtadelojhfepkeaaW.PrintLast Go.Proofs.YtadelojhfepkeaaW.PrintMore
attribute [local go_sem] max2_int min2_int max_two min_two max_three min_three max_four min_four   -- for this text's walks alone
set_option linter.unusedVariables false
set_option linter.unusedSimpArgs false

set_option linter.unusedVariables false
set_option linter.unusedSimpArgs false
/-! ### PString -/
theorem rdE_String (l : List ByteArray) (i : Nat) (h : i < l.length) : rdOf ByteArray.empty l (i : Int) = l[i] := by simp [rdOf, h]
theorem rdset_String (l : List ByteArray) (i : Nat) (v : ByteArray) (h : i < l.length) : rdOf ByteArray.empty (l.set i v) (i : Int) = v := by simp [rdOf, h]
theorem szStringS_from (l : List ByteArray) (hs : ∀ x ∈ l, x.size ≤ maxLen) (hl : l.length ≤ 1048576) : ∀ d i (x : Int), 0 ≤ x → x ≤ 1048576 → i ≤ l.length → l.length - i = d → ∃ s, Ev (fun k => laws_szStringS.l0 k l x (i : Int)) s ∧ (s < 0 ∨ (s ≤ x ∧ 0 ≤ s ∧ ∀ j (h : j < l.length), i ≤ j → ((l[j].size : Nat) : Int) ≤ x)) := by
  intro d
  induction d with
  | zero =>
    intro i x h0 hx hi hd
    refine ⟨x, Ev.step (f := fun _ => some x) (fun k => ?_) (ev_some _), Or.inr ⟨by omega, h0, fun j hj hij => absurd hj (by omega)⟩⟩
    simp only [laws_szStringS.l0]; rw [if_neg (by omega)]
  | succ d ih =>
    intro i x h0 hx hi hd
    have hlt : i < l.length := by omega
    have hz := hs l[i] (List.getElem_mem hlt)
    have hM : maxLen = 9223372036854775807 := rfl
    have hz0 : ((l[i].size : Nat) : Int) ≤ 9223372036854775807 := by omega
    by_cases hc : x - ((l[i].size : Nat) : Int) < 0
    · refine ⟨-1, Ev.step (f := fun _ => some (-1)) (fun k => ?_) (ev_some _), Or.inl (by omega)⟩
      simp only [laws_szStringS.l0]
      rw [if_pos (by omega), if_pos (by omega), rdE_String l i hlt, w64 (by omega) (by omega), if_pos hc]
    · obtain ⟨s, h1, h2⟩ := ih (i + 1) (x - ((l[i].size : Nat) : Int)) (by omega) (by omega) (by omega) (by omega)
      refine ⟨s, Ev.step (f := fun k => laws_szStringS.l0 k l (x - ((l[i].size : Nat) : Int)) ((i + 1 : Nat) : Int)) (fun k => ?_) h1, ?_⟩
      · simp only [laws_szStringS.l0]
        rw [if_pos (by omega), if_pos (by omega), rdE_String l i hlt, w64 (by omega) (by omega), if_neg hc, wnext i (by omega)]
      · rcases h2 with h2 | ⟨h2, h3, h4⟩
        · exact Or.inl h2
        · refine Or.inr ⟨by omega, h3, fun j hj hij => ?_⟩
          rcases Nat.eq_or_lt_of_le hij with e | e
          · subst e; omega
          · have := h4 j hj e; omega
theorem szStringS_ev (l : List ByteArray) (hs : ∀ x ∈ l, x.size ≤ maxLen) (hm : l.length ≤ maxLen) (a : Int) (h0 : 0 ≤ a) (ha : a ≤ 1048576) : ∃ s, Ev (fun k => laws_szStringS.f k l a) s ∧ (s < 0 ∨ (s ≤ a ∧ 0 ≤ s ∧ (l.length : Int) ≤ a ∧ ∀ x ∈ l, ((x.size : Nat) : Int) ≤ a)) := by
  have hM : maxLen = 9223372036854775807 := rfl
  unfold laws_szStringS.f
  rw [w64 (n := a - (l.length : Int)) (by omega) (by omega)]
  by_cases hc : a - (l.length : Int) < 0
  · exact ⟨-1, ev_pos hc (ev_some _), Or.inl (by omega)⟩
  · obtain ⟨s, h1, h2⟩ := szStringS_from l hs (by omega) l.length 0 (a - (l.length : Int)) (by omega) (by omega) (by omega) (by omega)
    refine ⟨s, ev_neg hc h1, ?_⟩
    rcases h2 with h2 | ⟨h2, h3, h4⟩
    · exact Or.inl h2
    · refine Or.inr ⟨by omega, h3, by omega, fun x hx => ?_⟩
      obtain ⟨j, hj, rfl⟩ := List.getElem_of_mem hx
      have := h4 j hj (by omega); omega
def cvString (x : ByteArray) : ByteArray := x
theorem toStringS_ev (l : List ByteArray) (hl : l.length ≤ 1048576) : Ev (fun k => laws_toStringS.f k l) (l.map cvString) := by
  unfold laws_toStringS.f
  refine ev_pos (by omega) (ev_pos (by omega) ?_)
  rw [Int.toNat_natCast]
  have hc : (l.map cvString).length = (List.replicate l.length (⟨#[]⟩ : ByteArray)).length := by simp
  have h := ev_loop (g := fun k i => laws_toStringS.l0 k l ((l.map cvString).take i ++ (List.replicate l.length (⟨#[]⟩ : ByteArray)).drop i) (i : Int)) (r := l.map cvString) l.length ?_ ?_ l.length 0 (by omega) (by omega)
  · simpa using h
  · refine Ev.step (f := fun _ => some (l.map cvString)) (fun k => ?_) (ev_some _)
    simp only [laws_toStringS.l0]
    rw [if_neg (by omega), List.drop_of_length_le (by simp), List.take_of_length_le (by simp)]; simp
  · intro i hi
    refine ⟨1, fun k => ⟨?_, by omega⟩⟩
    simp only [laws_toStringS.l0]
    have hlen : ((l.map cvString).take i ++ (List.replicate l.length (⟨#[]⟩ : ByteArray)).drop i).length = l.length := by simp; omega
    rw [if_pos (by omega), if_pos (by omega), if_pos (by rw [hlen]; omega), rdE_String l i hi, Int.toNat_natCast, set_mid _ _ hc i (by simpa using hi) _ (by simp [cvString]), wnext i (by omega)]
theorem eqStringS_ev (l : List ByteArray) (hl : l.length ≤ 1000000000) : Ev (fun k => laws_eqStringS.f k l l) true := by
  unfold laws_eqStringS.f
  refine ev_pos rfl ?_
  refine ev_loop (g := fun k i => laws_eqStringS.l0 k l l (i : Int)) l.length ?_ ?_ l.length 0 (by omega) (by omega)
  · refine Ev.step (f := fun _ => some true) (fun k => ?_) (ev_some _)
    simp only [laws_eqStringS.l0]; rw [if_neg (by omega)]
  · intro i hi
    refine ⟨1, fun k => ⟨?_, by omega⟩⟩
    simp only [laws_eqStringS.l0]
    rw [if_pos (by omega), if_pos (by omega), if_pos (by omega), wnext i (by omega)]
    simp only [if_true, Option.bind_some]
noncomputable def mString (n : Int) : ByteArray := mText n
noncomputable def msString (a : Int) (n : Nat) : List ByteArray := (List.range n).map (fun j : Nat => mString (a + 1 * (j : Int)))
theorem msString_length (a : Int) (n : Nat) : (msString a n).length = n := by simp [msString]
theorem msString_get (a : Int) (n i : Nat) (h : i < n) : (msString a n)[i]'(by rw [msString_length]; exact h) = mString (a + 1 * (i : Int)) := by simp [msString]
theorem markStringS_ev (l : List ByteArray) (a : Int) (ha : 0 ≤ a) (hl : l.length + a ≤ 10000000000000) (hl2 : l.length ≤ 1000000000000) : Ev (fun k => laws_markStringS.f k l a) (a + 1 * (l.length : Int), msString a l.length) := by
  unfold laws_markStringS.f
  have hc := msString_length a l.length
  have h := ev_down (g := fun k i => laws_markStringS.l0 k ((msString a l.length).take i ++ l.drop i) (a + 1 * (i : Int)) (i : Int)) (r := (a + 1 * (l.length : Int), msString a l.length)) l.length ?_ ?_
  · simpa using h
  · refine Ev.step (f := fun _ => some (a + 1 * (l.length : Int), msString a l.length)) (fun k => ?_) (ev_some _)
    simp only [laws_markStringS.l0]
    rw [if_neg (by simp; omega), List.drop_of_length_le (by omega), List.take_of_length_le (by omega)]; simp
  · intro i hi h
    have hlen : ((msString a l.length).take i ++ l.drop i).length = l.length := by simp [hc]; omega
    refine Ev.step (f := fun k => (laws_markText.f k (a + 1 * (i : Int))).bind fun t => laws_markStringS.l0 k (((msString a l.length).take i ++ l.drop i).set i t) (a + 1 * (i : Int) + 1) ((i + 1 : Nat) : Int)) (fun k => ?_) (ev_bind (mText_ev _ (by omega)) ?_)
    · have w1 : wrap64 (a + 1 * (i : Int) + 1) = a + 1 * (i : Int) + 1 := by rw [w64 (by omega) (by omega)]; try omega
      simp only [laws_markStringS.l0, Option.bind_some, Int.toNat_natCast]
      rw [if_pos (by rw [hlen]; omega)]
      simp only [show (0 : Int) ≤ (i : Int) from by omega, if_true]
      simp only [rdset_String _ _ _ (show i < _ by rw [hlen]; exact hi), List.set_set, w1, wnext i (by omega)]
    · have ev_ : mText (a + 1 * (i : Int)) = mString (a + 1 * (i : Int)) := rfl
      rw [ev_, set_mid l _ hc i hi _ (msString_get a l.length i hi)]
      rw [show a + 1 * (i : Int) + 1 = a + 1 * ((i + 1 : Nat) : Int) by omega]
      exact h
theorem heldStringS_ev (n : Nat) (a : Int) (ha : 0 ≤ a) (hl : n + a ≤ 10000000000000) (hl2 : n ≤ 1000000000000) : Ev (fun k => laws_heldStringS.f k (msString a n) a) (a + 1 * (n : Int)) := by
  unfold laws_heldStringS.f
  have hc := msString_length a n
  have h := ev_down (g := fun k i => laws_heldStringS.l0 k (msString a n) (a + 1 * (i : Int)) (i : Int)) (r := a + 1 * (n : Int)) n ?_ ?_
  · simpa using h
  · refine Ev.step (f := fun _ => some (a + 1 * (n : Int))) (fun k => ?_) (ev_some _)
    simp only [laws_heldStringS.l0]
    rw [if_neg (by omega)]
  · intro i hi h
    refine Ev.step (f := fun k => (laws_markText.f k (a + 1 * (i : Int))).bind fun t => if ((rdOf ByteArray.empty (msString a n) (i : Int))).toList = t.toList then (laws_heldStringS.l0 k (msString a n) (a + 1 * (i : Int) + 1) ((i + 1 : Nat) : Int)) else (some (-1))) (fun k => ?_) (ev_bind (mText_ev _ (by omega)) (ev_pos (by rw [rdE_String _ i (by omega), msString_get a n i hi]; rfl) ?_))
    · have w1 : wrap64 (a + 1 * (i : Int) + 1) = a + 1 * (i : Int) + 1 := by rw [w64 (by omega) (by omega)]; try omega
      simp only [laws_heldStringS.l0]
      rw [if_pos (by omega), if_pos (by omega)]
      simp only [w1, wnext i (by omega)]
    · rw [show a + 1 * (i : Int) + 1 = a + 1 * ((i + 1 : Nat) : Int) by omega]
      exact h
/-! ### laws_heldIoS: function 41 -/
def laws_heldIoS.l0 : Nat → List (S76) → Int → Int → Option (Int)
  | 0, _, _, _ => none
  | k + 1, x0, x1, x5 => if x5 < (x0.length : Int) then (if 0 ≤ x5 then (if ((rd_T76 x0 x5).f0) = x1 then (if ((rd_T76 x0 x5).f1) = (wrap64 (x1 + 1)) then ((laws_markText.f k (wrap64 ((wrap64 (x1 + 1)) + 1))).bind fun t258 => (if ((rd_T76 x0 x5).f2).toList = t258.toList then (laws_heldIoS.l0 k x0 (wrap64 ((wrap64 ((wrap64 (x1 + 1)) + 1)) + 1)) (wrap64 (x5 + 1))) else (some (-1)))) else (some (-1))) else (some (-1))) else (none)) else (some x1)
def laws_heldIoS.f (k : Nat) (l0 : List (S76)) (a1 : Int) : Option (Int) := laws_heldIoS.l0 k l0 a1 0
theorem laws_heldIoS.mono_l : ∀ k, (∀ y0 y1 y2, LeO (laws_heldIoS.l0 k y0 y1 y2) (laws_heldIoS.l0 (k + 1) y0 y1 y2))
  | 0 => fun _ _ _ r h => by simp [laws_heldIoS.l0] at h
  | k + 1 => by
    have ih0 := laws_heldIoS.mono_l k
    · intro y0 y1 y2
      unfold laws_heldIoS.l0
      repeat' first
      | (with_reducible exact ih0 _ _ _)
      | (with_reducible exact laws_markText.mono _ _)
      | (with_reducible exact LeO.refl _)
      | (with_reducible exact LeO.none _)
      | (with_reducible refine LeO.ite ?_ ?_)
      | (with_reducible refine LeO.bind ?_ (fun _ => ?_))
      | exact ih0 _ _ _
      | exact laws_markText.mono _ _
      | exact LeO.none _
      | refine LeO.ite ?_ ?_
      | refine LeO.bind ?_ (fun _ => ?_)
theorem laws_heldIoS.mono : ∀ a0 a1 k, LeO (laws_heldIoS.f k a0 a1) (laws_heldIoS.f (k + 1) a0 a1) := by
  intro a0 a1 k
  have ih0 := laws_heldIoS.mono_l k
  unfold laws_heldIoS.f
  repeat' first
      | (with_reducible exact ih0 _ _ _)
      | (with_reducible exact laws_markText.mono _ _)
      | (with_reducible exact LeO.refl _)
      | (with_reducible exact LeO.none _)
      | (with_reducible refine LeO.ite ?_ ?_)
      | (with_reducible refine LeO.bind ?_ (fun _ => ?_))
      | exact ih0 _ _ _
      | exact laws_markText.mono _ _
      | exact LeO.none _
      | refine LeO.ite ?_ ?_
      | refine LeO.bind ?_ (fun _ => ?_)
def laws_heldIoS.T10 : Bool × List (List Nat × List Nat) := (true, [([], []), ([], []), ([0, 1], [0, 1]), ([2], [2]), ([3], [3]), ([], []), ([5], [5]), ([4, 6], [4, 6])])
def laws_heldIoS.B10 : List Nat := [0, 0, 3, 7, 15, 0, 32, 127]
theorem laws_heldIoS.tab10 : rtab .any (opsOf Try.f41 10) = laws_heldIoS.T10 := by kernel_rfl
theorem laws_heldIoS.bits10 : waitsOk laws_heldIoS.T10.2 laws_heldIoS.B10 = true := by kernel_rfl
set_option maxHeartbeats 8000000 in
set_option maxRecDepth 100000 in
theorem laws_heldIoS.calls (k : Nat) (A0 : Option Addr) (c0 : Nat) (l0 : List (S76)) (a1 : Int) (r : Int) (w : World) (hr0 : Kd.C k76 w A0 l0.length l0) (hc0 : l0.length ≤ c0) (h : laws_heldIoS.f k l0 a1 = some r) :
    Calls Try.prog 41 #[.slice A0 l0.length c0, .int .i64 a1] w fun e w' => e = .returned (.int .i64 r) ∧ Below w.heap.size w w' := by
 have HR0 := zm hr0
 have HC0 := zm hc0
 clear hr0 hc0
 have HB := zm (Below.refl w.heap.size w)
 have H : (laws_heldIoS.l0 k l0 a1 0) = some r := h
 clear h
 have H' := zm H
 clear H
 go_enter Try.func41, Try.ntmps41
 go_wp2
 go_loopg [1, 5] k (fun kq v1 v5 w' => ∃ (x1_1 : Int) (x5_1 : Int), v1 = .int .i64 x1_1 ∧ v5 = .int .i64 x5_1 ∧ Aside0 (laws_heldIoS.l0 kq l0 x1_1 x5_1 = some r) ∧ Aside0 (kq ≤ k) ∧ Aside0 (Below w.heap.size w w'))
 case atStart => exact ⟨(a1), (0), zr, zr, H', ⟨Nat.le_refl _⟩, ⟨zg_0 HB.out⟩⟩
 case round =>
  clear H'
  try clear p2
  obtain ⟨x1_1, x5_1, rfl, rfl, HA, HK1, HB⟩ := hrel
  cases gk with
  | zero => exact absurd HA.out (by simp [laws_heldIoS.l0])
  | succ k1 =>
   have H := HA.out
   clear HA
   simp only [laws_heldIoS.l0] at H
   by_cases c3 : x5_1 < (l0.length : Int)
   ·rw [if_pos c3] at H
    have c3b0 : decide (x5_1 < (l0.length : Int)) = true := decide_eq_true c3
    clear c3
    by_cases c4 : 0 ≤ x5_1
    ·rw [if_pos c4] at H
     have c4b0 : decide (0 ≤ x5_1) = true := decide_eq_true c4
     clear c4
     by_cases c5 : ((rd_T76 l0 x5_1).f0) = x1_1
     ·rw [if_pos c5] at H
      have c5b0 : (((rd_T76 l0 x5_1).f0) == x1_1) = true := beq_iff_eq.mpr c5
      have c5b1 : (((rd_T76 l0 x5_1).f0) != x1_1) = false := bne_eq_false_iff_eq.mpr c5
      clear c5
      by_cases c6 : ((rd_T76 l0 x5_1).f1) = (wrap64 (x1_1 + 1))
      ·rw [if_pos c6] at H
       have c6b0 : (((rd_T76 l0 x5_1).f1) == (wrap64 (x1_1 + 1))) = true := beq_iff_eq.mpr c6
       have c6b1 : (((rd_T76 l0 x5_1).f1) != (wrap64 (x1_1 + 1))) = false := bne_eq_false_iff_eq.mpr c6
       clear c6
       replace H := Option.bind_eq_some_iff.mp H
       obtain ⟨t258, A70, H⟩ := H
       replace H : (if ((rd_T76 l0 x5_1).f2).toList = t258.toList then (laws_heldIoS.l0 k1 l0 (wrap64 ((wrap64 ((wrap64 (x1_1 + 1)) + 1)) + 1)) (wrap64 (x5_1 + 1))) else (some (-1))) = some r := H
       have A7 := zm A70
       clear A70
       by_cases c8 : ((rd_T76 l0 x5_1).f2).toList = t258.toList
       ·rw [if_pos c8] at H
        have c8b0 : (((rd_T76 l0 x5_1).f2).toList == t258.toList) = true := beq_iff_eq.mpr c8
        have c8b1 : (((rd_T76 l0 x5_1).f2).toList != t258.toList) = false := bne_eq_false_iff_eq.mpr c8
        clear c8
        have H' := zm H
        clear H
        have p255 : 0 ≤ (x5_1 : Int) := of_decide_eq_true (by first | (with_reducible assumption) | assumption)
        have q255 : x5_1 < (l0.length : Int) := of_decide_eq_true (by first | (with_reducible assumption) | assumption)
        obtain ⟨ad255, e255, hx255_0, hx255_1, hx255_2⟩ := at_T76 HR0.out x5_1 p255 q255
        cases e255
        replace hx255_0 := (HB.out.cell (World.block_lt_of_cell? w _ hx255_0)).trans hx255_0
        replace hx255_1 := (HB.out.cell (World.block_lt_of_cell? w _ hx255_1)).trans hx255_1
        replace hx255_2 := (HB.out.cell (World.block_lt_of_cell? w _ hx255_2)).trans hx255_2
        replace p255 := eq_true p255
        replace q255 := eq_true q255
        have p256 : 0 ≤ (x5_1 : Int) := of_decide_eq_true (by first | (with_reducible assumption) | assumption)
        have q256 : x5_1 < (l0.length : Int) := of_decide_eq_true (by first | (with_reducible assumption) | assumption)
        obtain ⟨ad256, e256, hx256_0, hx256_1, hx256_2⟩ := at_T76 HR0.out x5_1 p256 q256
        obtain rfl : ad255 = ad256 := (by injection e256)
        replace hx256_0 := (HB.out.cell (World.block_lt_of_cell? w _ hx256_0)).trans hx256_0
        replace hx256_1 := (HB.out.cell (World.block_lt_of_cell? w _ hx256_1)).trans hx256_1
        replace hx256_2 := (HB.out.cell (World.block_lt_of_cell? w _ hx256_2)).trans hx256_2
        replace p256 := eq_true p256
        replace q256 := eq_true q256
        try go_wp2
        have n0_ := zm (below_drew1 HB.out)
        clear HB
        have HB := n0_
        clear n0_
        have p257 : 0 ≤ (x5_1 : Int) := of_decide_eq_true (by first | (with_reducible assumption) | assumption)
        have q257 : x5_1 < (l0.length : Int) := of_decide_eq_true (by first | (with_reducible assumption) | assumption)
        obtain ⟨ad257, e257, hx257_0, hx257_1, hx257_2⟩ := at_T76 HR0.out x5_1 p257 q257
        have hw257_2 := hx257_2
        have hw257_1 := hx257_1
        have hw257_0 := hx257_0
        obtain rfl : ad255 = ad257 := (by injection e257)
        replace hx257_0 := (HB.out.cell (World.block_lt_of_cell? w _ hx257_0)).trans hx257_0
        replace hx257_1 := (HB.out.cell (World.block_lt_of_cell? w _ hx257_1)).trans hx257_1
        replace hx257_2 := (HB.out.cell (World.block_lt_of_cell? w _ hx257_2)).trans hx257_2
        replace p257 := eq_true p257
        replace q257 := eq_true q257
        refine start_ (n := 8) (S := fun w' => w'.cell? (ad255.add ((x5_1).toNat * 3)) = some (.int .i64 ((rd_T76 l0 x5_1).f0)) ∧ w'.cell? ⟨(ad255.add ((x5_1).toNat * 3)).block, (ad255.add ((x5_1).toNat * 3)).off + 1, none⟩ = some (.int .i64 ((rd_T76 l0 x5_1).f1)) ∧ w'.cell? ⟨(ad255.add ((x5_1).toNat * 3)).block, (ad255.add ((x5_1).toNat * 3)).off + 2, none⟩ = some (.string ((rd_T76 l0 x5_1).f2))) (ds := []) #[false, false, false, false, false, false, false, false] (by kernel_rfl) rfl rfl ⟨((HB.out.cell (World.block_lt_of_cell? w _ hw257_0)).trans hw257_0), ((HB.out.cell (World.block_lt_of_cell? w _ hw257_1)).trans hw257_1), ((HB.out.cell (World.block_lt_of_cell? w _ hw257_2)).trans hw257_2)⟩ (fun hHeld => ?_); refine with_tabW laws_heldIoS.tab10 laws_heldIoS.bits10 (fun HT_ HW_ => ?_)
        generalize wr.drew = w9 at HB hx257_0 hx257_1 hx257_2 hHeld ⊢
        refine pure_ (i := 0) (N := some 30) (v := ?_) (a' := ?_) #[true, false, false, false, false, false, false, false] rfl rfl (any_of HT_.out (by kernel_rfl)) (fun _ _ _ h => h) (Or.inl ⟨by rfl, ?_⟩) ?_ ?_
        rotate_left
        ·intro w'
         go_simp
         with_reducible rfl
        rotate_left
        ·simp only [Act.put, zs, zz, zt, i64_w, i32_w]
         rfl
        refine pure_ (i := 1) (N := some 31) (v := ?_) (a' := ?_) #[true, true, false, false, false, false, false, false] rfl rfl (any_of HT_.out (by kernel_rfl)) (fun _ _ _ h => h) (Or.inl ⟨by rfl, ?_⟩) ?_ ?_
        rotate_left
        ·intro w'
         go_simp
         with_reducible rfl
        rotate_left
        ·simp only [Act.put, zs, zz, zt, i64_w, i32_w]
         rfl
        refine pure_ (i := 2) (N := some 32) (v := ?_) (a' := ?_) #[true, true, true, false, false, false, false, false] rfl rfl (any_of HT_.out (by kernel_rfl)) (fun _ _ _ h => h) (Or.inl ⟨by rfl, ?_⟩) ?_ ?_
        rotate_left
        ·intro w'
         go_simp
         with_reducible rfl
        rotate_left
        ·simp only [Act.put, zs, zz, zt, i64_w, i32_w]
         rfl
        refine pure_ (i := 3) (N := some 33) (v := ?_) (a' := ?_) #[true, true, true, true, false, false, false, false] rfl rfl (any_of HT_.out (by kernel_rfl)) (fun _ _ _ h => h) (Or.inl ⟨by rfl, ?_⟩) ?_ ?_
        rotate_left
        ·intro w'
         go_simp
         with_reducible rfl
        rotate_left
        ·simp only [Act.put, zs, zz, zt, i64_w, i32_w]
         rfl
        refine pure_ (i := 5) (N := some 35) (v := ?_) (a' := ?_) #[true, true, true, true, false, true, false, false] rfl rfl (any_of HT_.out (by kernel_rfl)) (fun _ _ _ h => h) (Or.inl ⟨by rfl, ?_⟩) ?_ ?_
        rotate_left
        ·intro w'
         go_simp
         with_reducible rfl
        rotate_left
        ·simp only [Act.put, zs, zz, zt, i64_w, i32_w]
         rfl
        refine take_ (i := 4) (N := some 34) (v := ?_) (a' := ?_) #[true, true, true, true, true, true, false, false] rfl rfl (take_ofW HT_.out HW_.out (by kernel_rfl)) (fun _ _ _ h => h) (Or.inl ⟨by rfl, ?_⟩) hHeld ?_ ?_
        rotate_left
        ·rintro w' ⟨s0, s1, s2⟩
         go_simp
         with_reducible rfl
        rotate_left
        ·simp only [Act.put, zs, zz, zt, i64_w, i32_w]
         rfl
        refine one_ (i := 6) (N := some 36) #[true, true, true, true, true, true, true, false] rfl rfl (one_of HT_.out (by kernel_rfl)) (by decide) (fun K hK => ?_)
        refine goes_ Try.func63 (by kernel_rfl) rfl #[.int .i64 (wrap64 ((wrap64 (x1_1 + 1)) + 1))] (by rfl) rfl rfl zq ?_
        with_reducible refine (laws_markText.calls k1 (wrap64 ((wrap64 (x1_1 + 1)) + 1)) t258 _ A7.out).mono ?_
        rintro e w10 ⟨rfl, hb⟩
        refine ⟨_, rfl, ?_⟩
        have n0_ := zm (below_step (zg_0 HB.out) hb)
        clear HB
        have HB := n0_
        clear n0_
        (try clear hb)
        (try clear hb2)
        (try clear hk)
        (try clear hi)
        refine hK.out _ _ ⟨((HB.out.cell (World.block_lt_of_cell? w _ hw257_0)).trans hw257_0), ((HB.out.cell (World.block_lt_of_cell? w _ hw257_1)).trans hw257_1), ((HB.out.cell (World.block_lt_of_cell? w _ hw257_2)).trans hw257_2)⟩ (fun hHeld => ?_)
        clear hK K
        refine norm_ (a' := ?_) ?_ ?_
        rotate_left
        ·show Act.put _ (some 36) _ = _
         simp only [Act.put, zs, zz, zt, i64_w, i32_w]
         rfl
        refine pure_ (i := 7) (N := some 37) (v := ?_) (a' := ?_) #[true, true, true, true, true, true, true, true] rfl rfl (any_of HT_.out (by kernel_rfl)) (fun _ _ _ h => h) (Or.inl ⟨by rfl, ?_⟩) ?_ ?_
        rotate_left
        ·intro w'
         go_simp
         with_reducible rfl
        rotate_left
        ·simp only [Act.put, zs, zz, zt, i64_w, i32_w]
         rfl
        refine done_ (done_of HT_.out (by kernel_rfl)) ?_
        try go_wp2
        go_roundg k1
        case measure => have := HK1.out; omega
        case rel => exact ⟨(wrap64 ((wrap64 ((wrap64 (x1_1 + 1)) + 1)) + 1)), (wrap64 (x5_1 + 1)), zr, zr, H', ⟨by have := HK1.out; omega⟩, ⟨zg_0 HB.out⟩⟩
       ·rw [if_neg c8] at H
        have c8b0 : (((rd_T76 l0 x5_1).f2).toList == t258.toList) = false := beq_eq_false_iff_ne.mpr c8
        have c8b1 : (((rd_T76 l0 x5_1).f2).toList != t258.toList) = true := bne_iff_ne.mpr c8
        obtain rfl := Option.some.inj H
        have p255 : 0 ≤ (x5_1 : Int) := of_decide_eq_true (by first | (with_reducible assumption) | assumption)
        have q255 : x5_1 < (l0.length : Int) := of_decide_eq_true (by first | (with_reducible assumption) | assumption)
        obtain ⟨ad255, e255, hx255_0, hx255_1, hx255_2⟩ := at_T76 HR0.out x5_1 p255 q255
        cases e255
        replace hx255_0 := (HB.out.cell (World.block_lt_of_cell? w _ hx255_0)).trans hx255_0
        replace hx255_1 := (HB.out.cell (World.block_lt_of_cell? w _ hx255_1)).trans hx255_1
        replace hx255_2 := (HB.out.cell (World.block_lt_of_cell? w _ hx255_2)).trans hx255_2
        replace p255 := eq_true p255
        replace q255 := eq_true q255
        have p256 : 0 ≤ (x5_1 : Int) := of_decide_eq_true (by first | (with_reducible assumption) | assumption)
        have q256 : x5_1 < (l0.length : Int) := of_decide_eq_true (by first | (with_reducible assumption) | assumption)
        obtain ⟨ad256, e256, hx256_0, hx256_1, hx256_2⟩ := at_T76 HR0.out x5_1 p256 q256
        obtain rfl : ad255 = ad256 := (by injection e256)
        replace hx256_0 := (HB.out.cell (World.block_lt_of_cell? w _ hx256_0)).trans hx256_0
        replace hx256_1 := (HB.out.cell (World.block_lt_of_cell? w _ hx256_1)).trans hx256_1
        replace hx256_2 := (HB.out.cell (World.block_lt_of_cell? w _ hx256_2)).trans hx256_2
        replace p256 := eq_true p256
        replace q256 := eq_true q256
        try go_wp2
        have n0_ := zm (below_drew1 HB.out)
        clear HB
        have HB := n0_
        clear n0_
        have p257 : 0 ≤ (x5_1 : Int) := of_decide_eq_true (by first | (with_reducible assumption) | assumption)
        have q257 : x5_1 < (l0.length : Int) := of_decide_eq_true (by first | (with_reducible assumption) | assumption)
        obtain ⟨ad257, e257, hx257_0, hx257_1, hx257_2⟩ := at_T76 HR0.out x5_1 p257 q257
        have hw257_2 := hx257_2
        have hw257_1 := hx257_1
        have hw257_0 := hx257_0
        obtain rfl : ad255 = ad257 := (by injection e257)
        replace hx257_0 := (HB.out.cell (World.block_lt_of_cell? w _ hx257_0)).trans hx257_0
        replace hx257_1 := (HB.out.cell (World.block_lt_of_cell? w _ hx257_1)).trans hx257_1
        replace hx257_2 := (HB.out.cell (World.block_lt_of_cell? w _ hx257_2)).trans hx257_2
        replace p257 := eq_true p257
        replace q257 := eq_true q257
        refine start_ (n := 8) (S := fun w' => w'.cell? (ad255.add ((x5_1).toNat * 3)) = some (.int .i64 ((rd_T76 l0 x5_1).f0)) ∧ w'.cell? ⟨(ad255.add ((x5_1).toNat * 3)).block, (ad255.add ((x5_1).toNat * 3)).off + 1, none⟩ = some (.int .i64 ((rd_T76 l0 x5_1).f1)) ∧ w'.cell? ⟨(ad255.add ((x5_1).toNat * 3)).block, (ad255.add ((x5_1).toNat * 3)).off + 2, none⟩ = some (.string ((rd_T76 l0 x5_1).f2))) (ds := []) #[false, false, false, false, false, false, false, false] (by kernel_rfl) rfl rfl ⟨((HB.out.cell (World.block_lt_of_cell? w _ hw257_0)).trans hw257_0), ((HB.out.cell (World.block_lt_of_cell? w _ hw257_1)).trans hw257_1), ((HB.out.cell (World.block_lt_of_cell? w _ hw257_2)).trans hw257_2)⟩ (fun hHeld => ?_); refine with_tabW laws_heldIoS.tab10 laws_heldIoS.bits10 (fun HT_ HW_ => ?_)
        generalize wr.drew = w11 at HB hx257_0 hx257_1 hx257_2 hHeld ⊢
        refine pure_ (i := 0) (N := some 30) (v := ?_) (a' := ?_) #[true, false, false, false, false, false, false, false] rfl rfl (any_of HT_.out (by kernel_rfl)) (fun _ _ _ h => h) (Or.inl ⟨by rfl, ?_⟩) ?_ ?_
        rotate_left
        ·intro w'
         go_simp
         with_reducible rfl
        rotate_left
        ·simp only [Act.put, zs, zz, zt, i64_w, i32_w]
         rfl
        refine pure_ (i := 1) (N := some 31) (v := ?_) (a' := ?_) #[true, true, false, false, false, false, false, false] rfl rfl (any_of HT_.out (by kernel_rfl)) (fun _ _ _ h => h) (Or.inl ⟨by rfl, ?_⟩) ?_ ?_
        rotate_left
        ·intro w'
         go_simp
         with_reducible rfl
        rotate_left
        ·simp only [Act.put, zs, zz, zt, i64_w, i32_w]
         rfl
        refine pure_ (i := 2) (N := some 32) (v := ?_) (a' := ?_) #[true, true, true, false, false, false, false, false] rfl rfl (any_of HT_.out (by kernel_rfl)) (fun _ _ _ h => h) (Or.inl ⟨by rfl, ?_⟩) ?_ ?_
        rotate_left
        ·intro w'
         go_simp
         with_reducible rfl
        rotate_left
        ·simp only [Act.put, zs, zz, zt, i64_w, i32_w]
         rfl
        refine pure_ (i := 3) (N := some 33) (v := ?_) (a' := ?_) #[true, true, true, true, false, false, false, false] rfl rfl (any_of HT_.out (by kernel_rfl)) (fun _ _ _ h => h) (Or.inl ⟨by rfl, ?_⟩) ?_ ?_
        rotate_left
        ·intro w'
         go_simp
         with_reducible rfl
        rotate_left
        ·simp only [Act.put, zs, zz, zt, i64_w, i32_w]
         rfl
        refine pure_ (i := 5) (N := some 35) (v := ?_) (a' := ?_) #[true, true, true, true, false, true, false, false] rfl rfl (any_of HT_.out (by kernel_rfl)) (fun _ _ _ h => h) (Or.inl ⟨by rfl, ?_⟩) ?_ ?_
        rotate_left
        ·intro w'
         go_simp
         with_reducible rfl
        rotate_left
        ·simp only [Act.put, zs, zz, zt, i64_w, i32_w]
         rfl
        refine take_ (i := 4) (N := some 34) (v := ?_) (a' := ?_) #[true, true, true, true, true, true, false, false] rfl rfl (take_ofW HT_.out HW_.out (by kernel_rfl)) (fun _ _ _ h => h) (Or.inl ⟨by rfl, ?_⟩) hHeld ?_ ?_
        rotate_left
        ·rintro w' ⟨s0, s1, s2⟩
         go_simp
         with_reducible rfl
        rotate_left
        ·simp only [Act.put, zs, zz, zt, i64_w, i32_w]
         rfl
        refine one_ (i := 6) (N := some 36) #[true, true, true, true, true, true, true, false] rfl rfl (one_of HT_.out (by kernel_rfl)) (by decide) (fun K hK => ?_)
        refine goes_ Try.func63 (by kernel_rfl) rfl #[.int .i64 (wrap64 ((wrap64 (x1_1 + 1)) + 1))] (by rfl) rfl rfl zq ?_
        with_reducible refine (laws_markText.calls k1 (wrap64 ((wrap64 (x1_1 + 1)) + 1)) t258 _ A7.out).mono ?_
        rintro e w12 ⟨rfl, hb⟩
        refine ⟨_, rfl, ?_⟩
        have n0_ := zm (below_step (zg_0 HB.out) hb)
        clear HB
        have HB := n0_
        clear n0_
        (try clear hb)
        (try clear hb2)
        (try clear hk)
        (try clear hi)
        refine hK.out _ _ ⟨((HB.out.cell (World.block_lt_of_cell? w _ hw257_0)).trans hw257_0), ((HB.out.cell (World.block_lt_of_cell? w _ hw257_1)).trans hw257_1), ((HB.out.cell (World.block_lt_of_cell? w _ hw257_2)).trans hw257_2)⟩ (fun hHeld => ?_)
        clear hK K
        refine norm_ (a' := ?_) ?_ ?_
        rotate_left
        ·show Act.put _ (some 36) _ = _
         simp only [Act.put, zs, zz, zt, i64_w, i32_w]
         rfl
        refine pure_ (i := 7) (N := some 37) (v := ?_) (a' := ?_) #[true, true, true, true, true, true, true, true] rfl rfl (any_of HT_.out (by kernel_rfl)) (fun _ _ _ h => h) (Or.inl ⟨by rfl, ?_⟩) ?_ ?_
        rotate_left
        ·intro w'
         go_simp
         with_reducible rfl
        rotate_left
        ·simp only [Act.put, zs, zz, zt, i64_w, i32_w]
         rfl
        refine done_ (done_of HT_.out (by kernel_rfl)) ?_
        try go_wp2
        go_ret
        exact ⟨by first | rfl | (simp [errW_none, errW_some] <;> rfl) | (simp [*, errW_none, errW_some] <;> rfl), zg_0 HB.out⟩
      ·rw [if_neg c6] at H
       have c6b0 : (((rd_T76 l0 x5_1).f1) == (wrap64 (x1_1 + 1))) = false := beq_eq_false_iff_ne.mpr c6
       have c6b1 : (((rd_T76 l0 x5_1).f1) != (wrap64 (x1_1 + 1))) = true := bne_iff_ne.mpr c6
       obtain rfl := Option.some.inj H
       have p255 : 0 ≤ (x5_1 : Int) := of_decide_eq_true (by first | (with_reducible assumption) | assumption)
       have q255 : x5_1 < (l0.length : Int) := of_decide_eq_true (by first | (with_reducible assumption) | assumption)
       obtain ⟨ad255, e255, hx255_0, hx255_1, hx255_2⟩ := at_T76 HR0.out x5_1 p255 q255
       cases e255
       replace hx255_0 := (HB.out.cell (World.block_lt_of_cell? w _ hx255_0)).trans hx255_0
       replace hx255_1 := (HB.out.cell (World.block_lt_of_cell? w _ hx255_1)).trans hx255_1
       replace hx255_2 := (HB.out.cell (World.block_lt_of_cell? w _ hx255_2)).trans hx255_2
       replace p255 := eq_true p255
       replace q255 := eq_true q255
       have p256 : 0 ≤ (x5_1 : Int) := of_decide_eq_true (by first | (with_reducible assumption) | assumption)
       have q256 : x5_1 < (l0.length : Int) := of_decide_eq_true (by first | (with_reducible assumption) | assumption)
       obtain ⟨ad256, e256, hx256_0, hx256_1, hx256_2⟩ := at_T76 HR0.out x5_1 p256 q256
       obtain rfl : ad255 = ad256 := (by injection e256)
       replace hx256_0 := (HB.out.cell (World.block_lt_of_cell? w _ hx256_0)).trans hx256_0
       replace hx256_1 := (HB.out.cell (World.block_lt_of_cell? w _ hx256_1)).trans hx256_1
       replace hx256_2 := (HB.out.cell (World.block_lt_of_cell? w _ hx256_2)).trans hx256_2
       replace p256 := eq_true p256
       replace q256 := eq_true q256
       go_wp2
       go_ret
       exact ⟨by first | rfl | (simp [errW_none, errW_some] <;> rfl) | (simp [*, errW_none, errW_some] <;> rfl), zg_0 HB.out⟩
     ·rw [if_neg c5] at H
      have c5b0 : (((rd_T76 l0 x5_1).f0) == x1_1) = false := beq_eq_false_iff_ne.mpr c5
      have c5b1 : (((rd_T76 l0 x5_1).f0) != x1_1) = true := bne_iff_ne.mpr c5
      obtain rfl := Option.some.inj H
      have p255 : 0 ≤ (x5_1 : Int) := of_decide_eq_true (by first | (with_reducible assumption) | assumption)
      have q255 : x5_1 < (l0.length : Int) := of_decide_eq_true (by first | (with_reducible assumption) | assumption)
      obtain ⟨ad255, e255, hx255_0, hx255_1, hx255_2⟩ := at_T76 HR0.out x5_1 p255 q255
      cases e255
      replace hx255_0 := (HB.out.cell (World.block_lt_of_cell? w _ hx255_0)).trans hx255_0
      replace hx255_1 := (HB.out.cell (World.block_lt_of_cell? w _ hx255_1)).trans hx255_1
      replace hx255_2 := (HB.out.cell (World.block_lt_of_cell? w _ hx255_2)).trans hx255_2
      replace p255 := eq_true p255
      replace q255 := eq_true q255
      go_wp2
      go_ret
      exact ⟨by first | rfl | (simp [errW_none, errW_some] <;> rfl) | (simp [*, errW_none, errW_some] <;> rfl), zg_0 HB.out⟩
    ·rw [if_neg c4] at H
     exact absurd H (by simp)
   ·rw [if_neg c3] at H
    have c3b0 : decide (x5_1 < (l0.length : Int)) = false := decide_eq_false c3
    clear c3
    obtain rfl := Option.some.inj H
    go_wp2
    go_ret
    exact ⟨by first | rfl | (simp [errW_none, errW_some] <;> rfl) | (simp [*, errW_none, errW_some] <;> rfl), zg_0 HB.out⟩
/-! ### laws_markIoS: function 39 -/
def laws_markIoS.l0 : Nat → List (S76) → Int → Int → Option (Int × (List (S76)))
  | 0, _, _, _ => none
  | k + 1, x0, x1, x5 => if x5 < (x0.length : Int) then (if 0 ≤ x5 then ((some (x0.set (x5 : Int).toNat (⟨x1, (rd_T76 x0 x5).f1, (rd_T76 x0 x5).f2⟩ : S76) : List (S76))).bind fun y244 => ((some (y244.set (x5 : Int).toNat (⟨(rd_T76 y244 x5).f0, wrap64 (x1 + 1), (rd_T76 y244 x5).f2⟩ : S76) : List (S76))).bind fun y245 => ((laws_markText.f k (wrap64 ((wrap64 (x1 + 1)) + 1))).bind fun t246 => (laws_markIoS.l0 k (y245.set (x5 : Int).toNat (⟨(rd_T76 y245 x5).f0, (rd_T76 y245 x5).f1, t246⟩ : S76)) (wrap64 ((wrap64 ((wrap64 (x1 + 1)) + 1)) + 1)) (wrap64 (x5 + 1)))))) else (none)) else (some (x1, x0))
def laws_markIoS.f (k : Nat) (l0 : List (S76)) (a1 : Int) : Option (Int × (List (S76))) := laws_markIoS.l0 k l0 a1 0
theorem laws_markIoS.mono_l : ∀ k, (∀ y0 y1 y2, LeO (laws_markIoS.l0 k y0 y1 y2) (laws_markIoS.l0 (k + 1) y0 y1 y2))
  | 0 => fun _ _ _ r h => by simp [laws_markIoS.l0] at h
  | k + 1 => by
    have ih0 := laws_markIoS.mono_l k
    · intro y0 y1 y2
      unfold laws_markIoS.l0
      repeat' first
      | (with_reducible exact ih0 _ _ _)
      | (with_reducible exact laws_markText.mono _ _)
      | (with_reducible exact LeO.refl _)
      | (with_reducible exact LeO.none _)
      | (with_reducible refine LeO.ite ?_ ?_)
      | (with_reducible refine LeO.bind ?_ (fun _ => ?_))
      | exact ih0 _ _ _
      | exact laws_markText.mono _ _
      | exact LeO.none _
      | refine LeO.ite ?_ ?_
      | refine LeO.bind ?_ (fun _ => ?_)
theorem laws_markIoS.mono : ∀ a0 a1 k, LeO (laws_markIoS.f k a0 a1) (laws_markIoS.f (k + 1) a0 a1) := by
  intro a0 a1 k
  have ih0 := laws_markIoS.mono_l k
  unfold laws_markIoS.f
  repeat' first
      | (with_reducible exact ih0 _ _ _)
      | (with_reducible exact laws_markText.mono _ _)
      | (with_reducible exact LeO.refl _)
      | (with_reducible exact LeO.none _)
      | (with_reducible refine LeO.ite ?_ ?_)
      | (with_reducible refine LeO.bind ?_ (fun _ => ?_))
      | exact ih0 _ _ _
      | exact laws_markText.mono _ _
      | exact LeO.none _
      | refine LeO.ite ?_ ?_
      | refine LeO.bind ?_ (fun _ => ?_)
set_option maxHeartbeats 8000000 in
set_option maxRecDepth 100000 in
theorem laws_markIoS.calls (k : Nat) (P0_ : Nat → Prop) (u9000_ : Value) (l0 : List (S76)) (a1 : Int) (r1 : Int) (r2 : List (S76)) (w0 w : World) (hB : Below w0.heap.size w0 w) (ho0 : Kd.R k76 76 w w0.heap.size P0_ u9000_ l0) (h : laws_markIoS.f k l0 a1 = some (r1, r2)) :
    Calls Try.prog 39 #[u9000_, .int .i64 a1] w fun e w' => e = .returned (.int .i64 r1) ∧ Kd.R k76 76 w' w0.heap.size (fun k_ => (P0_ k_ ∨ w.heap.size ≤ k_)) u9000_ r2 ∧ Below w0.heap.size w0 w' ∧ Kept w w' (fun k_ => P0_ k_) := by
 have HO0 := zm (show Kd.R k76 76 w w0.heap.size (fun k_ => (P0_ k_ ∨ w.heap.size ≤ k_)) u9000_ l0 from Kd.R_mono ho0 (fun k_ hk => (.inl hk)))
 have HK := zm (Kept.refl w (fun k_ => P0_ k_))
 have HW0 := zm hB.size
 have HB := zm hB
 clear hB
 have H : (laws_markIoS.l0 k l0 a1 0) = some (r1, r2) := h
 clear h
 have H' := zm H
 clear H
 go_enter Try.func39, Try.ntmps39
 go_wp2
 go_loopg [1, 5] k (fun kq v1 v5 w' => ∃ (x0_1 : List (S76)) (x1_1 : Int) (x5_1 : Int), v1 = .int .i64 x1_1 ∧ v5 = .int .i64 x5_1 ∧ Aside0 (laws_markIoS.l0 kq x0_1 x1_1 x5_1 = some (r1, r2)) ∧ Aside0 (kq ≤ k) ∧ Aside0 (Kd.R k76 76 w' w0.heap.size (fun k_ => (P0_ k_ ∨ w.heap.size ≤ k_)) u9000_ x0_1) ∧ Aside0 (Kept w w' (fun k_ => P0_ k_)) ∧ Aside0 (Below w0.heap.size w0 w'))
 case atStart => exact ⟨(l0), (a1), (0), zr, zr, H', ⟨Nat.le_refl _⟩, ⟨by (with_reducible repeat (first | apply Kd.R_alloc | apply Kd.R_drewN | apply Kd.R_drew)); exact HO0.out⟩, ⟨zg_7 HK.out⟩, ⟨zg_0 HB.out⟩⟩
 case round =>
  clear H'
  try clear p2
  obtain ⟨x0_1, x1_1, x5_1, rfl, rfl, HA, HK1, Za, HK, HB⟩ := hrel
  cases gk with
  | zero => exact absurd HA.out (by simp [laws_markIoS.l0])
  | succ k1 =>
   have H := HA.out
   clear HA
   simp only [laws_markIoS.l0] at H
   by_cases c3 : x5_1 < (x0_1.length : Int)
   ·rw [if_pos c3] at H
    have c3b0 : decide (x5_1 < (x0_1.length : Int)) = true := decide_eq_true c3
    clear c3
    by_cases c4 : 0 ≤ x5_1
    ·rw [if_pos c4] at H
     have c4b0 : decide (0 ≤ x5_1) = true := decide_eq_true c4
     clear c4
     obtain ⟨y244, hy244⟩ : ∃ y_ : List (S76), y_ = (x0_1.set (x5_1 : Int).toNat (⟨x1_1, (rd_T76 x0_1 x5_1).f1, (rd_T76 x0_1 x5_1).f2⟩ : S76)) := ⟨_, rfl⟩
     replace H : ((some (y244.set (x5_1 : Int).toNat (⟨(rd_T76 y244 x5_1).f0, wrap64 (x1_1 + 1), (rd_T76 y244 x5_1).f2⟩ : S76) : List (S76))).bind fun y245 => ((laws_markText.f k1 (wrap64 ((wrap64 (x1_1 + 1)) + 1))).bind fun t246 => (laws_markIoS.l0 k1 (y245.set (x5_1 : Int).toNat (⟨(rd_T76 y245 x5_1).f0, (rd_T76 y245 x5_1).f1, t246⟩ : S76)) (wrap64 ((wrap64 ((wrap64 (x1_1 + 1)) + 1)) + 1)) (wrap64 (x5_1 + 1))))) = some (r1, r2) := by first | (rw [hy244]; with_reducible exact H) | (have H2_ := (Option.bind_some _ _).symm.trans H; rw [hy244]; with_reducible exact H2_) | (have H2_ := (Option.bind_some _ _).symm.trans H; with_reducible exact H2_) | with_reducible exact H | (rw [hy244]; exact H) | exact H
     have Ny244 := zm hy244
     clear hy244
     obtain ⟨y245, hy245⟩ : ∃ y_ : List (S76), y_ = (y244.set (x5_1 : Int).toNat (⟨(rd_T76 y244 x5_1).f0, wrap64 (x1_1 + 1), (rd_T76 y244 x5_1).f2⟩ : S76)) := ⟨_, rfl⟩
     replace H : ((laws_markText.f k1 (wrap64 ((wrap64 (x1_1 + 1)) + 1))).bind fun t246 => (laws_markIoS.l0 k1 (y245.set (x5_1 : Int).toNat (⟨(rd_T76 y245 x5_1).f0, (rd_T76 y245 x5_1).f1, t246⟩ : S76)) (wrap64 ((wrap64 ((wrap64 (x1_1 + 1)) + 1)) + 1)) (wrap64 (x5_1 + 1)))) = some (r1, r2) := by first | (rw [hy245]; with_reducible exact H) | (have H2_ := (Option.bind_some _ _).symm.trans H; rw [hy245]; with_reducible exact H2_) | (have H2_ := (Option.bind_some _ _).symm.trans H; with_reducible exact H2_) | with_reducible exact H | (rw [hy245]; exact H) | exact H
     have Ny245 := zm hy245
     clear hy245
     replace H := Option.bind_eq_some_iff.mp H
     obtain ⟨t246, A70, H⟩ := H
     replace H : (laws_markIoS.l0 k1 (y245.set (x5_1 : Int).toNat (⟨(rd_T76 y245 x5_1).f0, (rd_T76 y245 x5_1).f1, t246⟩ : S76)) (wrap64 ((wrap64 ((wrap64 (x1_1 + 1)) + 1)) + 1)) (wrap64 (x5_1 + 1))) = some (r1, r2) := H
     have A7 := zm A70
     clear A70
     obtain ⟨y247, hy247⟩ : ∃ y_ : List (S76), y_ = (y245.set (x5_1 : Int).toNat (⟨(rd_T76 y245 x5_1).f0, (rd_T76 y245 x5_1).f1, t246⟩ : S76)) := ⟨_, rfl⟩
     replace H : (laws_markIoS.l0 k1 y247 (wrap64 ((wrap64 ((wrap64 (x1_1 + 1)) + 1)) + 1)) (wrap64 (x5_1 + 1))) = some (r1, r2) := by first | (rw [hy247]; with_reducible exact H) | (have H2_ := (Option.bind_some _ _).symm.trans H; rw [hy247]; with_reducible exact H2_) | (have H2_ := (Option.bind_some _ _).symm.trans H; with_reducible exact H2_) | with_reducible exact H | (rw [hy247]; exact H) | exact H
     have Ny247 := zm hy247
     clear hy247
     have H' := zm H
     clear H
     obtain ⟨Ao9, co9, eo9⟩ := Kd.R_slice Za.out
     subst eo9
     have p5 : 0 ≤ (x5_1 : Int) := of_decide_eq_true (by first | (with_reducible assumption) | assumption)
     have q5 : (x5_1 : Int) < ((x0_1.length : Int) : Int) := of_decide_eq_true (by first | (with_reducible assumption) | assumption)
     obtain ⟨go5, co5, eo5, gb5, gl5, cl5, HG5⟩ := Kd.R_form Za.out (by omega)
     (first | cases eo5 | (injection eo5 with ea_ en_ ec_; (first | subst ea_ | (injection ea_ with ea_; subst ea_)); subst ec_; clear en_))
     have GB5 := zm gb5
     have GG5 := zm HG5
     clear gb5 gl5 HG5
     have HMgo5 := zm (show (P0_ go5 ∨ w.heap.size ≤ go5) from (Za.out.1 _ rfl))
     obtain ⟨ce5, hcl5, hM5, hcc5, hfr5⟩ := Kd.R_elem Za.out z76 (x5_1 : Int) p5 q5
     obtain rfl := k76_openM hM5
     have hx5_0 : wr.cell? ⟨go5, (x5_1 : Int).toNat * 3, none⟩ = some (.int .i64 ((rd_T76 x0_1 x5_1).f0)) := hcc5 0 _ rfl
     have hx5_1 : wr.cell? ⟨go5, (x5_1 : Int).toNat * 3 + 1, none⟩ = some (.int .i64 ((rd_T76 x0_1 x5_1).f1)) := hcc5 1 _ rfl
     have hx5_2 : wr.cell? ⟨go5, (x5_1 : Int).toNat * 3 + 2, none⟩ = some (.string ((rd_T76 x0_1 x5_1).f2)) := hcc5 2 _ rfl
     have hf5_0 : wr.frozen? ⟨go5, (x5_1 : Int).toNat * 3, none⟩ = false := hfr5 0
     have hf5_1 : wr.frozen? ⟨go5, (x5_1 : Int).toNat * 3 + 1, none⟩ = false := hfr5 1
     have hf5_2 : wr.frozen? ⟨go5, (x5_1 : Int).toNat * 3 + 2, none⟩ = false := hfr5 2
     clear hcl5 hcc5 hfr5 hM5
     replace p5 := eq_true p5
     replace q5 := eq_true q5
     have Ze := zm (show Kd.R k76 76 wr w0.heap.size (fun k_ => (P0_ k_ ∨ w.heap.size ≤ k_)) (.slice (some ⟨go5, 0, none⟩) x0_1.length co9) x0_1 from (zg_3 Za.out))
     obtain ⟨ce10, hcl10, hM10, hcc10, hfr10⟩ := Kd.R_elem Ze.out z76 (x5_1 : Int) (of_decide_eq_true (by first | (with_reducible assumption) | assumption)) (by have h_ : (x5_1 : Int) < ((x0_1.length : Int) : Int) := of_decide_eq_true (by first | (with_reducible assumption) | assumption); first | exact h_ | (have e_ := (Kd.R_reads' Za.out).1; omega) | simpa using h_)
     obtain rfl := k76_openM hM10
     have Zb := Kd.R_seg Ze.out (x5_1 : Int) (of_decide_eq_true (by first | (with_reducible assumption) | assumption)) (by have h_ : (x5_1 : Int) < ((x0_1.length : Int) : Int) := of_decide_eq_true (by first | (with_reducible assumption) | assumption); first | exact h_ | (have e_ := (Kd.R_reads' Za.out).1; omega) | simpa using h_) (seg := [.int .i64 x1_1]) (j := 0) hcl10 hcc10 (show 1 ≤ 3 from by decide) (x' := (⟨x1_1, (rd_T76 x0_1 x5_1).f1, (rd_T76 x0_1 x5_1).f2⟩ : S76)) (k76_mkM _ _ _ (⟨x1_1, (rd_T76 x0_1 x5_1).f1, (rd_T76 x0_1 x5_1).f2⟩ : S76) ) (fun _ hk => hk)
     have hx10_0 := hcc10 0 _ rfl
     (try simp only [show (k76).sz = 3 from rfl, Nat.mul_one, Nat.add_zero] at hx10_0)
     have hf10_0 := hfr10 0
     (try simp only [show (k76).sz = 3 from rfl, Nat.mul_one, Nat.add_zero] at hf10_0)
     clear hcl10 hcc10 hfr10 hM10
     go_wp2_with (first | ((with_reducible refine gate_store (t := 3) (p := 16) rfl ?_); refine store_event (t := 3) (p := 16) (v := ?vo_w11) (w1 := (wr.setCell ⟨go5, (x5_1 : Int).toNat * 3, none⟩ (.int .i64 x1_1))) ?hg ?ho ?hn ?hr ?_; (case ho => rfl); (case hg => rfl); (case hn => rfl); (case hr => first | (go_simp; done) | (go_simp; rfl)); intro w11 hw; have hg : wr.grownBy w11 (some go5) := (by rw [hw]; exact Zb.2); have hp_ : Kd.R k76 76 w11 w0.heap.size (fun k_ => (P0_ k_ ∨ w.heap.size ≤ k_)) (.slice (some ⟨go5, 0, none⟩) x0_1.length co9) y244 := (by rw [hw, Ny244.out]; exact Zb.1); clear Zb; have n0_ := zm (hp_); have n1_ := zm ((by rw [hw]; exact below_set (HB.out) GB5.out : Below w0.heap.size w0 w11)); have n2_ := zm (Kept.of_grown (S := (fun k_ => P0_ k_)) hg (zg_7 HK.out) (fun k_ e_ => (Za.out.1 k_ e_))); clear Za; clear HB; clear HK; have Za := n0_; have HB := n1_; have HK := n2_; clear n0_ n1_ n2_; clear hg hw hp_; have p6 : 0 ≤ (x5_1 : Int) := of_decide_eq_true (by first | (with_reducible assumption) | assumption); have q6 : (x5_1 : Int) < ((x0_1.length : Int) : Int) := of_decide_eq_true (by first | (with_reducible assumption) | assumption); obtain ⟨ce6, hcl6, hM6, hcc6, hfr6⟩ := Kd.R_elem Za.out z76 (x5_1 : Int) p6 q6; obtain rfl := k76_openM hM6; have hx6_0 : w11.cell? ⟨go5, (x5_1 : Int).toNat * 3, none⟩ = some (.int .i64 ((rd_T76 y244 x5_1).f0)) := hcc6 0 _ rfl; have hx6_1 : w11.cell? ⟨go5, (x5_1 : Int).toNat * 3 + 1, none⟩ = some (.int .i64 ((rd_T76 y244 x5_1).f1)) := hcc6 1 _ rfl; have hx6_2 : w11.cell? ⟨go5, (x5_1 : Int).toNat * 3 + 2, none⟩ = some (.string ((rd_T76 y244 x5_1).f2)) := hcc6 2 _ rfl; have hf6_0 : w11.frozen? ⟨go5, (x5_1 : Int).toNat * 3, none⟩ = false := hfr6 0; have hf6_1 : w11.frozen? ⟨go5, (x5_1 : Int).toNat * 3 + 1, none⟩ = false := hfr6 1; have hf6_2 : w11.frozen? ⟨go5, (x5_1 : Int).toNat * 3 + 2, none⟩ = false := hfr6 2; clear hcl6 hcc6 hfr6 hM6; replace p6 := eq_true p6; replace q6 := eq_true q6; have Zf := zm (show Kd.R k76 76 w11 w0.heap.size (fun k_ => (P0_ k_ ∨ w.heap.size ≤ k_)) (.slice (some ⟨go5, 0, none⟩) x0_1.length co9) y244 from (zg_3 Za.out)); obtain ⟨ce12, hcl12, hM12, hcc12, hfr12⟩ := Kd.R_elem Zf.out z76 (x5_1 : Int) (of_decide_eq_true (by first | (with_reducible assumption) | assumption)) (by have h_ : (x5_1 : Int) < ((x0_1.length : Int) : Int) := of_decide_eq_true (by first | (with_reducible assumption) | assumption); first | exact h_ | (have e_ := (Kd.R_reads' Za.out).1; omega) | simpa using h_); obtain rfl := k76_openM hM12; have Zc := Kd.R_seg Zf.out (x5_1 : Int) (of_decide_eq_true (by first | (with_reducible assumption) | assumption)) (by have h_ : (x5_1 : Int) < ((x0_1.length : Int) : Int) := of_decide_eq_true (by first | (with_reducible assumption) | assumption); first | exact h_ | (have e_ := (Kd.R_reads' Za.out).1; omega) | simpa using h_) (seg := [.int .i64 (wrap64 (x1_1 + 1))]) (j := 1) hcl12 hcc12 (show 2 ≤ 3 from by decide) (x' := (⟨(rd_T76 y244 x5_1).f0, wrap64 (x1_1 + 1), (rd_T76 y244 x5_1).f2⟩ : S76)) (k76_mkM _ _ _ (⟨(rd_T76 y244 x5_1).f0, wrap64 (x1_1 + 1), (rd_T76 y244 x5_1).f2⟩ : S76) ) (fun _ hk => hk); have hx12_1 := hcc12 1 _ rfl; (try simp only [show (k76).sz = 3 from rfl, Nat.mul_one, Nat.add_zero] at hx12_1); have hf12_1 := hfr12 1; (try simp only [show (k76).sz = 3 from rfl, Nat.mul_one, Nat.add_zero] at hf12_1); clear hcl12 hcc12 hfr12 hM12) | ((with_reducible refine gate_store (t := 3) (p := 23) rfl ?_); refine store_event (t := 3) (p := 23) (v := ?vo_w13) (w1 := (w11.setCell ⟨go5, (x5_1 : Int).toNat * 3 + 1, none⟩ (.int .i64 (wrap64 (x1_1 + 1))))) ?hg ?ho ?hn ?hr ?_; (case ho => rfl); (case hg => rfl); (case hn => rfl); (case hr => first | (go_simp; done) | (go_simp; rfl)); intro w13 hw; have hg : w11.grownBy w13 (some go5) := (by rw [hw]; exact Zc.2); have hp_ : Kd.R k76 76 w13 w0.heap.size (fun k_ => (P0_ k_ ∨ w.heap.size ≤ k_)) (.slice (some ⟨go5, 0, none⟩) x0_1.length co9) y245 := (by rw [hw, Ny245.out]; exact Zc.1); clear Zc; have n0_ := zm (hp_); have n1_ := zm ((by rw [hw]; exact below_set (HB.out) GB5.out : Below w0.heap.size w0 w13)); have n2_ := zm (Kept.of_grown (S := (fun k_ => P0_ k_)) hg (zg_7 HK.out) (fun k_ e_ => (Za.out.1 k_ e_))); clear Za; clear HB; clear HK; have Za := n0_; have HB := n1_; have HK := n2_; clear n0_ n1_ n2_; clear hg hw hp_) | ((with_reducible refine gate_callee (f := 63) rfl ?_); refine goesL_ (some 29) rfl rfl Try.func63 (by kernel_rfl) rfl #[.int .i64 (wrap64 ((wrap64 (x1_1 + 1)) + 1))] rfl zq ?_; (with_reducible refine (laws_markText.calls k1 (wrap64 ((wrap64 (x1_1 + 1)) + 1)) t246 _ A7.out).mono ?_); rintro e w14 ⟨rfl, hb⟩; refine ⟨_, rfl, ?_⟩; have n0_ := zm (Kd.R_below (zg_3 Za.out) hb); have n1_ := zm (Kept.below (S := (fun k_ => P0_ k_)) (zg_7 HK.out) hb); have n2_ := zm (below_step (zg_0 HB.out) hb); clear Za; clear HK; clear HB; have Za := n0_; have HK := n1_; have HB := n2_; clear n0_ n1_ n2_; (try clear hb); (try clear hb2); (try clear hk); (try clear hi); have p8 : 0 ≤ (x5_1 : Int) := of_decide_eq_true (by first | (with_reducible assumption) | assumption); have q8 : (x5_1 : Int) < ((x0_1.length : Int) : Int) := of_decide_eq_true (by first | (with_reducible assumption) | assumption); obtain ⟨ce8, hcl8, hM8, hcc8, hfr8⟩ := Kd.R_elem Za.out z76 (x5_1 : Int) p8 q8; obtain rfl := k76_openM hM8; have hx8_0 : w14.cell? ⟨go5, (x5_1 : Int).toNat * 3, none⟩ = some (.int .i64 ((rd_T76 y245 x5_1).f0)) := hcc8 0 _ rfl; have hx8_1 : w14.cell? ⟨go5, (x5_1 : Int).toNat * 3 + 1, none⟩ = some (.int .i64 ((rd_T76 y245 x5_1).f1)) := hcc8 1 _ rfl; have hx8_2 : w14.cell? ⟨go5, (x5_1 : Int).toNat * 3 + 2, none⟩ = some (.string ((rd_T76 y245 x5_1).f2)) := hcc8 2 _ rfl; have hf8_0 : w14.frozen? ⟨go5, (x5_1 : Int).toNat * 3, none⟩ = false := hfr8 0; have hf8_1 : w14.frozen? ⟨go5, (x5_1 : Int).toNat * 3 + 1, none⟩ = false := hfr8 1; have hf8_2 : w14.frozen? ⟨go5, (x5_1 : Int).toNat * 3 + 2, none⟩ = false := hfr8 2; clear hcl8 hcc8 hfr8 hM8; replace p8 := eq_true p8; replace q8 := eq_true q8; have Zg := zm (show Kd.R k76 76 w14 w0.heap.size (fun k_ => (P0_ k_ ∨ w.heap.size ≤ k_)) (.slice (some ⟨go5, 0, none⟩) x0_1.length co9) y245 from (zg_3 Za.out)); obtain ⟨ce15, hcl15, hM15, hcc15, hfr15⟩ := Kd.R_elem Zg.out z76 (x5_1 : Int) (of_decide_eq_true (by first | (with_reducible assumption) | assumption)) (by have h_ : (x5_1 : Int) < ((x0_1.length : Int) : Int) := of_decide_eq_true (by first | (with_reducible assumption) | assumption); first | exact h_ | (have e_ := (Kd.R_reads' Za.out).1; omega) | simpa using h_); obtain rfl := k76_openM hM15; have Zd := Kd.R_seg Zg.out (x5_1 : Int) (of_decide_eq_true (by first | (with_reducible assumption) | assumption)) (by have h_ : (x5_1 : Int) < ((x0_1.length : Int) : Int) := of_decide_eq_true (by first | (with_reducible assumption) | assumption); first | exact h_ | (have e_ := (Kd.R_reads' Za.out).1; omega) | simpa using h_) (seg := [.string t246]) (j := 2) hcl15 hcc15 (show 3 ≤ 3 from by decide) (x' := (⟨(rd_T76 y245 x5_1).f0, (rd_T76 y245 x5_1).f1, t246⟩ : S76)) (k76_mkM _ _ _ (⟨(rd_T76 y245 x5_1).f0, (rd_T76 y245 x5_1).f1, t246⟩ : S76) ) (fun _ hk => hk); have hx15_2 := hcc15 2 _ rfl; (try simp only [show (k76).sz = 3 from rfl, Nat.mul_one, Nat.add_zero] at hx15_2); have hf15_2 := hfr15 2; (try simp only [show (k76).sz = 3 from rfl, Nat.mul_one, Nat.add_zero] at hf15_2); clear hcl15 hcc15 hfr15 hM15) | ((with_reducible refine gate_store (t := 9) (p := 31) rfl ?_); refine store_event (t := 9) (p := 31) (v := ?vo_w16) (w1 := (w14.setCell ⟨go5, (x5_1 : Int).toNat * 3 + 2, none⟩ (.string t246))) ?hg ?ho ?hn ?hr ?_; (case ho => rfl); (case hg => rfl); (case hn => rfl); (case hr => first | (go_simp; done) | (go_simp; rfl)); intro w16 hw; have hg : w14.grownBy w16 (some go5) := (by rw [hw]; exact Zd.2); have hp_ : Kd.R k76 76 w16 w0.heap.size (fun k_ => (P0_ k_ ∨ w.heap.size ≤ k_)) (.slice (some ⟨go5, 0, none⟩) x0_1.length co9) y247 := (by rw [hw, Ny247.out]; exact Zd.1); clear Zd; have n0_ := zm (hp_); have n1_ := zm ((by rw [hw]; exact below_set (HB.out) GB5.out : Below w0.heap.size w0 w16)); have n2_ := zm (Kept.of_grown (S := (fun k_ => P0_ k_)) hg (zg_7 HK.out) (fun k_ e_ => (Za.out.1 k_ e_))); clear Za; clear HB; clear HK; have Za := n0_; have HB := n1_; have HK := n2_; clear n0_ n1_ n2_; clear hg hw hp_))
     go_roundg k1
     case measure => have := HK1.out; omega
     case rel => exact ⟨(y247), (wrap64 ((wrap64 ((wrap64 (x1_1 + 1)) + 1)) + 1)), (wrap64 (x5_1 + 1)), zr, zr, H', ⟨by have := HK1.out; omega⟩, ⟨by (with_reducible repeat (first | apply Kd.R_alloc | apply Kd.R_drewN | apply Kd.R_drew)); exact Za.out⟩, ⟨zg_7 HK.out⟩, ⟨zg_0 HB.out⟩⟩
    ·rw [if_neg c4] at H
     exact absurd H (by simp)
   ·rw [if_neg c3] at H
    have c3b0 : decide (x5_1 < (x0_1.length : Int)) = false := decide_eq_false c3
    clear c3
    simp only [Option.some.injEq, Prod.mk.injEq] at H
    obtain ⟨rfl, rfl⟩ := H
    obtain ⟨Ao17, co17, eo17⟩ := Kd.R_slice Za.out
    subst eo17
    go_wp2
    go_ret
    exact ⟨by first | rfl | (simp [errW_none, errW_some] <;> rfl) | (simp [*, errW_none, errW_some] <;> rfl), by (with_reducible repeat (first | apply Kd.R_alloc | apply Kd.R_drewN | apply Kd.R_drew)); exact Za.out, zg_0 HB.out, zg_7 HK.out⟩
/-! ### PIo -/
theorem rdE_Io (l : List S76) (i : Nat) (h : i < l.length) : rd_T76 l (i : Int) = l[i] := by simp [rd_T76, h]
theorem rdset_Io (l : List S76) (i : Nat) (v : S76) (h : i < l.length) : rd_T76 (l.set i v) (i : Int) = v := by simp [rd_T76, h]
theorem rdP_Io (l : List S75) (i : Nat) (h : i < l.length) : rd_T75 l (i : Int) = l[i] := by simp [rd_T75, h]
theorem szIoS_from (l : List S75) (hs : ∀ x ∈ l, x.f2.size ≤ maxLen) (hl : l.length ≤ 1048576) : ∀ d i (x : Int), 0 ≤ x → x ≤ 1048576 → i ≤ l.length → l.length - i = d → ∃ s, Ev (fun k => laws_szIoS.l0 k l x (i : Int)) s ∧ (s < 0 ∨ (s ≤ x ∧ 0 ≤ s ∧ ∀ j (h : j < l.length), i ≤ j → ((l[j].f2.size : Nat) : Int) ≤ x)) := by
  intro d
  induction d with
  | zero =>
    intro i x h0 hx hi hd
    refine ⟨x, Ev.step (f := fun _ => some x) (fun k => ?_) (ev_some _), Or.inr ⟨by omega, h0, fun j hj hij => absurd hj (by omega)⟩⟩
    simp only [laws_szIoS.l0]; rw [if_neg (by omega)]
  | succ d ih =>
    intro i x h0 hx hi hd
    have hlt : i < l.length := by omega
    have hz := hs l[i] (List.getElem_mem hlt)
    have hM : maxLen = 9223372036854775807 := rfl
    have hz0 : ((l[i].f2.size : Nat) : Int) ≤ 9223372036854775807 := by omega
    by_cases hc : x - ((l[i].f2.size : Nat) : Int) < 0
    · refine ⟨-1, Ev.step (f := fun _ => some (-1)) (fun k => ?_) (ev_some _), Or.inl (by omega)⟩
      simp only [laws_szIoS.l0, laws_szIo.f]
      rw [if_pos (by omega), if_pos (by omega), rdP_Io l i hlt, w64 (by omega) (by omega), if_pos hc, Option.bind_some, if_pos (by omega)]
    · obtain ⟨s, h1, h2⟩ := ih (i + 1) (x - ((l[i].f2.size : Nat) : Int)) (by omega) (by omega) (by omega) (by omega)
      refine ⟨s, Ev.step (f := fun k => laws_szIoS.l0 k l (x - ((l[i].f2.size : Nat) : Int)) ((i + 1 : Nat) : Int)) (fun k => ?_) h1, ?_⟩
      · simp only [laws_szIoS.l0, laws_szIo.f]
        rw [if_pos (by omega), if_pos (by omega), rdP_Io l i hlt, w64 (by omega) (by omega), if_neg hc, Option.bind_some, if_neg hc, wnext i (by omega)]
      · rcases h2 with h2 | ⟨h2, h3, h4⟩
        · exact Or.inl h2
        · refine Or.inr ⟨by omega, h3, fun j hj hij => ?_⟩
          rcases Nat.eq_or_lt_of_le hij with e | e
          · subst e; omega
          · have := h4 j hj e; omega
theorem szIoS_ev (l : List S75) (hs : ∀ x ∈ l, x.f2.size ≤ maxLen) (hm : l.length ≤ maxLen) (a : Int) (h0 : 0 ≤ a) (ha : a ≤ 1048576) : ∃ s, Ev (fun k => laws_szIoS.f k l a) s ∧ (s < 0 ∨ (s ≤ a ∧ 0 ≤ s ∧ (l.length : Int) ≤ a ∧ ∀ x ∈ l, ((x.f2.size : Nat) : Int) ≤ a)) := by
  have hM : maxLen = 9223372036854775807 := rfl
  unfold laws_szIoS.f
  rw [w64 (n := a - (l.length : Int)) (by omega) (by omega)]
  by_cases hc : a - (l.length : Int) < 0
  · exact ⟨-1, ev_pos hc (ev_some _), Or.inl (by omega)⟩
  · obtain ⟨s, h1, h2⟩ := szIoS_from l hs (by omega) l.length 0 (a - (l.length : Int)) (by omega) (by omega) (by omega) (by omega)
    refine ⟨s, ev_neg hc h1, ?_⟩
    rcases h2 with h2 | ⟨h2, h3, h4⟩
    · exact Or.inl h2
    · refine Or.inr ⟨by omega, h3, by omega, fun x hx => ?_⟩
      obtain ⟨j, hj, rfl⟩ := List.getElem_of_mem hx
      have := h4 j hj (by omega); omega
def cvIo (x : S75) : S76 := ⟨x.f0, x.f1, x.f2⟩
theorem toIoS_ev (l : List S75) (hl : l.length ≤ 1048576) : Ev (fun k => laws_toIoS.f k l) (l.map cvIo) := by
  unfold laws_toIoS.f
  refine ev_pos (by omega) (ev_pos (by omega) ?_)
  rw [Int.toNat_natCast]
  have hc : (l.map cvIo).length = (List.replicate l.length z76).length := by simp
  have h := ev_loop (g := fun k i => laws_toIoS.l0 k l ((l.map cvIo).take i ++ (List.replicate l.length z76).drop i) (i : Int)) (r := l.map cvIo) l.length ?_ ?_ l.length 0 (by omega) (by omega)
  · simpa using h
  · refine Ev.step (f := fun _ => some (l.map cvIo)) (fun k => ?_) (ev_some _)
    simp only [laws_toIoS.l0]
    rw [if_neg (by omega), List.drop_of_length_le (by simp), List.take_of_length_le (by simp)]; simp
  · intro i hi
    refine ⟨1, fun k => ⟨?_, by omega⟩⟩
    simp only [laws_toIoS.l0, laws_toIo.f, Option.bind_some]
    have hlen : ((l.map cvIo).take i ++ (List.replicate l.length z76).drop i).length = l.length := by simp; omega
    rw [if_pos (by omega), if_pos (by omega), if_pos (by rw [hlen]; omega), rdP_Io l i hi, Int.toNat_natCast, set_mid _ _ hc i (by simpa using hi) _ (by simp [cvIo]), wnext i (by omega)]
theorem eqIoS_ev (l : List S76) (hl : l.length ≤ 1000000000) : Ev (fun k => laws_eqIoS.f k l l) true := by
  unfold laws_eqIoS.f
  refine ev_pos rfl ?_
  refine ev_loop (g := fun k i => laws_eqIoS.l0 k l l (i : Int)) l.length ?_ ?_ l.length 0 (by omega) (by omega)
  · refine Ev.step (f := fun _ => some true) (fun k => ?_) (ev_some _)
    simp only [laws_eqIoS.l0]; rw [if_neg (by omega)]
  · intro i hi
    refine ⟨1, fun k => ⟨?_, by omega⟩⟩
    simp only [laws_eqIoS.l0, laws_eqIo.f]
    rw [if_pos (by omega), if_pos (by omega), if_pos (by omega), wnext i (by omega)]
    simp only [if_true, Option.bind_some]
noncomputable def mIo (n : Int) : S76 := ⟨n, n + 1, mText (n + 2)⟩
noncomputable def msIo (a : Int) (n : Nat) : List S76 := (List.range n).map (fun j : Nat => mIo (a + 3 * (j : Int)))
theorem msIo_length (a : Int) (n : Nat) : (msIo a n).length = n := by simp [msIo]
theorem msIo_get (a : Int) (n i : Nat) (h : i < n) : (msIo a n)[i]'(by rw [msIo_length]; exact h) = mIo (a + 3 * (i : Int)) := by simp [msIo]
theorem markIoS_ev (l : List S76) (a : Int) (ha : 0 ≤ a) (hl : l.length + a ≤ 10000000000000) (hl2 : l.length ≤ 1000000000000) : Ev (fun k => laws_markIoS.f k l a) (a + 3 * (l.length : Int), msIo a l.length) := by
  unfold laws_markIoS.f
  have hc := msIo_length a l.length
  have h := ev_down (g := fun k i => laws_markIoS.l0 k ((msIo a l.length).take i ++ l.drop i) (a + 3 * (i : Int)) (i : Int)) (r := (a + 3 * (l.length : Int), msIo a l.length)) l.length ?_ ?_
  · simpa using h
  · refine Ev.step (f := fun _ => some (a + 3 * (l.length : Int), msIo a l.length)) (fun k => ?_) (ev_some _)
    simp only [laws_markIoS.l0]
    rw [if_neg (by simp; omega), List.drop_of_length_le (by omega), List.take_of_length_le (by omega)]; simp
  · intro i hi h
    have hlen : ((msIo a l.length).take i ++ l.drop i).length = l.length := by simp [hc]; omega
    refine Ev.step (f := fun k => (laws_markText.f k (a + 3 * (i : Int) + 2)).bind fun t => laws_markIoS.l0 k (((msIo a l.length).take i ++ l.drop i).set i (⟨a + 3 * (i : Int), a + 3 * (i : Int) + 1, t⟩ : S76)) (a + 3 * (i : Int) + 3) ((i + 1 : Nat) : Int)) (fun k => ?_) (ev_bind (mText_ev _ (by omega)) ?_)
    · have w1 : wrap64 (a + 3 * (i : Int) + 1) = a + 3 * (i : Int) + 1 := by rw [w64 (by omega) (by omega)]; try omega
      have w2 : wrap64 (a + 3 * (i : Int) + 1 + 1) = a + 3 * (i : Int) + 2 := by rw [w64 (by omega) (by omega)]; try omega
      have w3 : wrap64 (a + 3 * (i : Int) + 2 + 1) = a + 3 * (i : Int) + 3 := by rw [w64 (by omega) (by omega)]; try omega
      simp only [laws_markIoS.l0, Option.bind_some, Int.toNat_natCast]
      rw [if_pos (by rw [hlen]; omega)]
      rw [if_pos (by omega)]
      simp only [rdset_Io _ _ _ (show i < _ by rw [hlen]; exact hi), List.set_set, w1, w2, w3, wnext i (by omega)]
    · have ev_ : (⟨a + 3 * (i : Int), a + 3 * (i : Int) + 1, mText (a + 3 * (i : Int) + 2)⟩ : S76) = mIo (a + 3 * (i : Int)) := rfl
      rw [ev_, set_mid l _ hc i hi _ (msIo_get a l.length i hi)]
      rw [show a + 3 * (i : Int) + 3 = a + 3 * ((i + 1 : Nat) : Int) by omega]
      exact h
theorem heldIoS_ev (n : Nat) (a : Int) (ha : 0 ≤ a) (hl : n + a ≤ 10000000000000) (hl2 : n ≤ 1000000000000) : Ev (fun k => laws_heldIoS.f k (msIo a n) a) (a + 3 * (n : Int)) := by
  unfold laws_heldIoS.f
  have hc := msIo_length a n
  have h := ev_down (g := fun k i => laws_heldIoS.l0 k (msIo a n) (a + 3 * (i : Int)) (i : Int)) (r := a + 3 * (n : Int)) n ?_ ?_
  · simpa using h
  · refine Ev.step (f := fun _ => some (a + 3 * (n : Int))) (fun k => ?_) (ev_some _)
    simp only [laws_heldIoS.l0]
    rw [if_neg (by omega)]
  · intro i hi h
    refine Ev.step (f := fun k => if ((rd_T76 (msIo a n) (i : Int)).f0) = a + 3 * (i : Int) then (if ((rd_T76 (msIo a n) (i : Int)).f1) = a + 3 * (i : Int) + 1 then ((laws_markText.f k (a + 3 * (i : Int) + 2)).bind fun t => if ((rd_T76 (msIo a n) (i : Int)).f2).toList = t.toList then (laws_heldIoS.l0 k (msIo a n) (a + 3 * (i : Int) + 3) ((i + 1 : Nat) : Int)) else (some (-1))) else (some (-1))) else (some (-1))) (fun k => ?_) (ev_pos (by rw [rdE_Io _ i (by omega), msIo_get a n i hi]; rfl) (ev_pos (by rw [rdE_Io _ i (by omega), msIo_get a n i hi]; rfl) (ev_bind (mText_ev _ (by omega)) (ev_pos (by rw [rdE_Io _ i (by omega), msIo_get a n i hi]; rfl) ?_))))
    · have w1 : wrap64 (a + 3 * (i : Int) + 1) = a + 3 * (i : Int) + 1 := by rw [w64 (by omega) (by omega)]; try omega
      have w2 : wrap64 (a + 3 * (i : Int) + 1 + 1) = a + 3 * (i : Int) + 2 := by rw [w64 (by omega) (by omega)]; try omega
      have w3 : wrap64 (a + 3 * (i : Int) + 2 + 1) = a + 3 * (i : Int) + 3 := by rw [w64 (by omega) (by omega)]; try omega
      simp only [laws_heldIoS.l0]
      rw [if_pos (by omega), if_pos (by omega)]
      simp only [w1, w2, w3, wnext i (by omega)]
    · rw [show a + 3 * (i : Int) + 3 = a + 3 * ((i + 1 : Nat) : Int) by omega]
      exact h
/-! ### laws_heldDisk: function 15 -/
def laws_heldDisk.f (k : Nat) (l0_0 : List ByteArray) (l0_1 : List (S76)) (a1 : Int) : Option (Int) := (laws_heldStringS.f k l0_0 a1).bind fun t260 => (if t260 < 0 then (some (-1)) else ((laws_heldIoS.f k l0_1 t260).bind fun t261 => (if t261 < 0 then (some (-1)) else (some t261))))
theorem laws_heldDisk.mono : ∀ a0 a1 a2 k, LeO (laws_heldDisk.f k a0 a1 a2) (laws_heldDisk.f (k + 1) a0 a1 a2) := by
  intro a0 a1 a2 k
  unfold laws_heldDisk.f
  repeat' first
      | (with_reducible exact laws_heldIoS.mono _ _ _)
      | (with_reducible exact laws_heldStringS.mono _ _ _)
      | (with_reducible exact LeO.refl _)
      | (with_reducible exact LeO.none _)
      | (with_reducible refine LeO.ite ?_ ?_)
      | (with_reducible refine LeO.bind ?_ (fun _ => ?_))
      | exact laws_heldIoS.mono _ _ _
      | exact laws_heldStringS.mono _ _ _
      | exact LeO.none _
      | refine LeO.ite ?_ ?_
      | refine LeO.bind ?_ (fun _ => ?_)
set_option maxHeartbeats 8000000 in
set_option maxRecDepth 100000 in
theorem laws_heldDisk.calls (k : Nat) (A0_0 : Option Addr) (c0_0 : Nat) (l0_0 : List ByteArray) (A0_1 : Option Addr) (c0_1 : Nat) (l0_1 : List (S76)) (a1 : Int) (r : Int) (w : World) (hr0_0 : Kd.C Kd.string w A0_0 l0_0.length l0_0) (hc0_0 : l0_0.length ≤ c0_0) (hr0_1 : Kd.C k76 w A0_1 l0_1.length l0_1) (hc0_1 : l0_1.length ≤ c0_1) (h : laws_heldDisk.f k l0_0 l0_1 a1 = some r) :
    Calls Try.prog 15 #[.agg #[.slice A0_0 l0_0.length c0_0, .slice A0_1 l0_1.length c0_1], .int .i64 a1] w fun e w' => e = .returned (.int .i64 r) ∧ Below w.heap.size w w' := by
 have hu29 := Try.underlying29
 have Zc := zm hr0_0
 have Zd := zm hc0_0
 clear hr0_0 hc0_0
 have Ze := zm hr0_1
 have Zf := zm hc0_1
 clear hr0_1 hc0_1
 have HB := zm (Below.refl w.heap.size w)
 have H : ((laws_heldStringS.f k l0_0 a1).bind fun t260 => (if t260 < 0 then (some (-1)) else ((laws_heldIoS.f k l0_1 t260).bind fun t261 => (if t261 < 0 then (some (-1)) else (some t261))))) = some r := h
 clear h
 replace H := Option.bind_eq_some_iff.mp H
 obtain ⟨t260, A30, H⟩ := H
 replace H : (if t260 < 0 then (some (-1)) else ((laws_heldIoS.f k l0_1 t260).bind fun t261 => (if t261 < 0 then (some (-1)) else (some t261)))) = some r := H
 have A3 := zm A30
 clear A30
 by_cases c4 : t260 < 0
 ·rw [if_pos c4] at H
  have c4b0 : decide (t260 < 0) = true := decide_eq_true c4
  clear c4
  obtain rfl := Option.some.inj H
  go_enter Try.func15, Try.ntmps15
  go_wp2_with (first | ((with_reducible refine gate_dst (N := 2) rfl ?_); refine box_event ?hg (N := 2) ?hd (cs := #[.slice A0_0 l0_0.length c0_0, .slice A0_1 l0_1.length c0_1]) (t := 29) ?hr ?_; (case hd => rfl); (case hg => rfl); (case hr => first | (go_simp; done) | (go_simp; rfl)); intro gb259 hg w5 hbox hb; have n0_ := zm (below_step (zg_0 HB.out) hb); have n1_ := zm (hbox); have n2_ := zm ((by rw [hg]; exact (below_size (zg_0 HB.out)) : w.heap.size ≤ gb259)); have n3_ := zm ((by rw [hg]; exact (below_size (zg_0 HB.out)) : w.heap.size ≤ gb259)); clear HB; have HB := n0_; have Za := n1_; have Zg := n2_; have Zb := n3_; clear n0_ n1_ n2_ n3_; clear hb hbox hg; have hcz6_0 : w5.cell? ⟨gb259, 0, none⟩ = some (.slice A0_0 l0_0.length c0_0) := (blk_cell Za.out 0).trans rfl; have hcz6_1 : w5.cell? ⟨gb259, 1, none⟩ = some (.slice A0_1 l0_1.length c0_1) := (blk_cell Za.out 1).trans rfl; have hfz6_0 := blk_frozen Za.out 0; have hfz6_1 := blk_frozen Za.out 1) | ((with_reducible refine gate_callee (f := 40) rfl ?_); refine goesL_ (some 8) rfl rfl Try.func40 (by kernel_rfl) rfl #[.slice A0_0 l0_0.length c0_0, .int .i64 a1] rfl zq ?_; (with_reducible refine (laws_heldStringS.calls k _ _ l0_0 a1 t260 _ ?side1 ?side2 A3.out).mono ?_); (case side1 => repeat (first | exact (Kd.C_below Zc.out HB.out) | (with_reducible refine Kd.C_alloc ?_ _) | (with_reducible refine Kd.C_drewN ?_ _) | (with_reducible refine Kd.C_drew ?_))); (case side2 => exact Zd.out); rintro e w7 ⟨rfl, hb⟩; refine ⟨_, rfl, ?_⟩; have n0_ := zm (blk_below (g := gb259) (o := .cells #[.slice A0_0 l0_0.length c0_0, .slice A0_1 l0_1.length c0_1] 29 (0, 0)) (zg_2 Za.out) hb); have n1_ := zm (below_step (zg_1 HB.out Zb.out) hb); clear Za; clear HB; have Za := n0_; have HB := n1_; clear n0_ n1_; (try clear hb); (try clear hb2); (try clear hk); (try clear hi)))
  go_ret
  exact ⟨by first | rfl | (simp [errW_none, errW_some] <;> rfl) | (simp [*, errW_none, errW_some] <;> rfl), zg_1 HB.out Zb.out⟩
 ·rw [if_neg c4] at H
  have c4b0 : decide (t260 < 0) = false := decide_eq_false c4
  clear c4
  replace H := Option.bind_eq_some_iff.mp H
  obtain ⟨t261, A80, H⟩ := H
  replace H : (if t261 < 0 then (some (-1)) else (some t261)) = some r := H
  have A8 := zm A80
  clear A80
  by_cases c9 : t261 < 0
  ·rw [if_pos c9] at H
   have c9b0 : decide (t261 < 0) = true := decide_eq_true c9
   clear c9
   obtain rfl := Option.some.inj H
   go_enter Try.func15, Try.ntmps15
   go_wp2_with (first | ((with_reducible refine gate_dst (N := 2) rfl ?_); refine box_event ?hg (N := 2) ?hd (cs := #[.slice A0_0 l0_0.length c0_0, .slice A0_1 l0_1.length c0_1]) (t := 29) ?hr ?_; (case hd => rfl); (case hg => rfl); (case hr => first | (go_simp; done) | (go_simp; rfl)); intro gb259 hg w10 hbox hb; have n0_ := zm (below_step (zg_0 HB.out) hb); have n1_ := zm (hbox); have n2_ := zm ((by rw [hg]; exact (below_size (zg_0 HB.out)) : w.heap.size ≤ gb259)); have n3_ := zm ((by rw [hg]; exact (below_size (zg_0 HB.out)) : w.heap.size ≤ gb259)); clear HB; have HB := n0_; have Za := n1_; have Zg := n2_; have Zb := n3_; clear n0_ n1_ n2_ n3_; clear hb hbox hg; have hcz11_0 : w10.cell? ⟨gb259, 0, none⟩ = some (.slice A0_0 l0_0.length c0_0) := (blk_cell Za.out 0).trans rfl; have hcz11_1 : w10.cell? ⟨gb259, 1, none⟩ = some (.slice A0_1 l0_1.length c0_1) := (blk_cell Za.out 1).trans rfl; have hfz11_0 := blk_frozen Za.out 0; have hfz11_1 := blk_frozen Za.out 1) | ((with_reducible refine gate_callee (f := 40) rfl ?_); refine goesL_ (some 8) rfl rfl Try.func40 (by kernel_rfl) rfl #[.slice A0_0 l0_0.length c0_0, .int .i64 a1] rfl zq ?_; (with_reducible refine (laws_heldStringS.calls k _ _ l0_0 a1 t260 _ ?side1 ?side2 A3.out).mono ?_); (case side1 => repeat (first | exact (Kd.C_below Zc.out HB.out) | (with_reducible refine Kd.C_alloc ?_ _) | (with_reducible refine Kd.C_drewN ?_ _) | (with_reducible refine Kd.C_drew ?_))); (case side2 => exact Zd.out); rintro e w12 ⟨rfl, hb⟩; refine ⟨_, rfl, ?_⟩; have n0_ := zm (blk_below (g := gb259) (o := .cells #[.slice A0_0 l0_0.length c0_0, .slice A0_1 l0_1.length c0_1] 29 (0, 0)) (zg_2 Za.out) hb); have n1_ := zm (below_step (zg_1 HB.out Zb.out) hb); clear Za; clear HB; have Za := n0_; have HB := n1_; clear n0_ n1_; (try clear hb); (try clear hb2); (try clear hk); (try clear hi); have hcz13_0 : w12.cell? ⟨gb259, 0, none⟩ = some (.slice A0_0 l0_0.length c0_0) := (blk_cell Za.out 0).trans rfl; have hcz13_1 : w12.cell? ⟨gb259, 1, none⟩ = some (.slice A0_1 l0_1.length c0_1) := (blk_cell Za.out 1).trans rfl; have hfz13_0 := blk_frozen Za.out 0; have hfz13_1 := blk_frozen Za.out 1) | ((with_reducible refine gate_callee (f := 41) rfl ?_); refine goesL_ (some 14) rfl rfl Try.func41 (by kernel_rfl) rfl #[.slice A0_1 l0_1.length c0_1, .int .i64 t260] rfl zq ?_; (with_reducible refine (laws_heldIoS.calls k _ _ l0_1 t260 t261 _ ?side1 ?side2 A8.out).mono ?_); (case side1 => repeat (first | exact (Kd.C_below Ze.out HB.out) | (with_reducible refine Kd.C_alloc ?_ _) | (with_reducible refine Kd.C_drewN ?_ _) | (with_reducible refine Kd.C_drew ?_))); (case side2 => exact Zf.out); rintro e w14 ⟨rfl, hb⟩; refine ⟨_, rfl, ?_⟩; have n0_ := zm (blk_below (g := gb259) (o := .cells #[.slice A0_0 l0_0.length c0_0, .slice A0_1 l0_1.length c0_1] 29 (0, 0)) (zg_2 Za.out) hb); have n1_ := zm (below_step (zg_1 HB.out Zb.out) hb); clear Za; clear HB; have Za := n0_; have HB := n1_; clear n0_ n1_; (try clear hb); (try clear hb2); (try clear hk); (try clear hi)))
   go_ret
   exact ⟨by first | rfl | (simp [errW_none, errW_some] <;> rfl) | (simp [*, errW_none, errW_some] <;> rfl), zg_1 HB.out Zb.out⟩
  ·rw [if_neg c9] at H
   have c9b0 : decide (t261 < 0) = false := decide_eq_false c9
   clear c9
   obtain rfl := Option.some.inj H
   go_enter Try.func15, Try.ntmps15
   go_wp2_with (first | ((with_reducible refine gate_dst (N := 2) rfl ?_); refine box_event ?hg (N := 2) ?hd (cs := #[.slice A0_0 l0_0.length c0_0, .slice A0_1 l0_1.length c0_1]) (t := 29) ?hr ?_; (case hd => rfl); (case hg => rfl); (case hr => first | (go_simp; done) | (go_simp; rfl)); intro gb259 hg w15 hbox hb; have n0_ := zm (below_step (zg_0 HB.out) hb); have n1_ := zm (hbox); have n2_ := zm ((by rw [hg]; exact (below_size (zg_0 HB.out)) : w.heap.size ≤ gb259)); have n3_ := zm ((by rw [hg]; exact (below_size (zg_0 HB.out)) : w.heap.size ≤ gb259)); clear HB; have HB := n0_; have Za := n1_; have Zg := n2_; have Zb := n3_; clear n0_ n1_ n2_ n3_; clear hb hbox hg; have hcz16_0 : w15.cell? ⟨gb259, 0, none⟩ = some (.slice A0_0 l0_0.length c0_0) := (blk_cell Za.out 0).trans rfl; have hcz16_1 : w15.cell? ⟨gb259, 1, none⟩ = some (.slice A0_1 l0_1.length c0_1) := (blk_cell Za.out 1).trans rfl; have hfz16_0 := blk_frozen Za.out 0; have hfz16_1 := blk_frozen Za.out 1) | ((with_reducible refine gate_callee (f := 40) rfl ?_); refine goesL_ (some 8) rfl rfl Try.func40 (by kernel_rfl) rfl #[.slice A0_0 l0_0.length c0_0, .int .i64 a1] rfl zq ?_; (with_reducible refine (laws_heldStringS.calls k _ _ l0_0 a1 t260 _ ?side1 ?side2 A3.out).mono ?_); (case side1 => repeat (first | exact (Kd.C_below Zc.out HB.out) | (with_reducible refine Kd.C_alloc ?_ _) | (with_reducible refine Kd.C_drewN ?_ _) | (with_reducible refine Kd.C_drew ?_))); (case side2 => exact Zd.out); rintro e w17 ⟨rfl, hb⟩; refine ⟨_, rfl, ?_⟩; have n0_ := zm (blk_below (g := gb259) (o := .cells #[.slice A0_0 l0_0.length c0_0, .slice A0_1 l0_1.length c0_1] 29 (0, 0)) (zg_2 Za.out) hb); have n1_ := zm (below_step (zg_1 HB.out Zb.out) hb); clear Za; clear HB; have Za := n0_; have HB := n1_; clear n0_ n1_; (try clear hb); (try clear hb2); (try clear hk); (try clear hi); have hcz18_0 : w17.cell? ⟨gb259, 0, none⟩ = some (.slice A0_0 l0_0.length c0_0) := (blk_cell Za.out 0).trans rfl; have hcz18_1 : w17.cell? ⟨gb259, 1, none⟩ = some (.slice A0_1 l0_1.length c0_1) := (blk_cell Za.out 1).trans rfl; have hfz18_0 := blk_frozen Za.out 0; have hfz18_1 := blk_frozen Za.out 1) | ((with_reducible refine gate_callee (f := 41) rfl ?_); refine goesL_ (some 14) rfl rfl Try.func41 (by kernel_rfl) rfl #[.slice A0_1 l0_1.length c0_1, .int .i64 t260] rfl zq ?_; (with_reducible refine (laws_heldIoS.calls k _ _ l0_1 t260 t261 _ ?side1 ?side2 A8.out).mono ?_); (case side1 => repeat (first | exact (Kd.C_below Ze.out HB.out) | (with_reducible refine Kd.C_alloc ?_ _) | (with_reducible refine Kd.C_drewN ?_ _) | (with_reducible refine Kd.C_drew ?_))); (case side2 => exact Zf.out); rintro e w19 ⟨rfl, hb⟩; refine ⟨_, rfl, ?_⟩; have n0_ := zm (blk_below (g := gb259) (o := .cells #[.slice A0_0 l0_0.length c0_0, .slice A0_1 l0_1.length c0_1] 29 (0, 0)) (zg_2 Za.out) hb); have n1_ := zm (below_step (zg_1 HB.out Zb.out) hb); clear Za; clear HB; have Za := n0_; have HB := n1_; clear n0_ n1_; (try clear hb); (try clear hb2); (try clear hk); (try clear hi)))
   go_ret
   exact ⟨by first | rfl | (simp [errW_none, errW_some] <;> rfl) | (simp [*, errW_none, errW_some] <;> rfl), zg_1 HB.out Zb.out⟩
/-! ### laws_markDisk: function 14 -/
def laws_markDisk.f (k : Nat) (l0_0 : List ByteArray) (l0_1 : List (S76)) (a1 : Int) : Option (Int × List ByteArray × (List (S76))) := (laws_markStringS.f k l0_0 a1).bind fun bt249 => ((laws_markIoS.f k l0_1 bt249.1).bind fun bt251 => (some (bt251.1, bt249.2, bt251.2)))
theorem laws_markDisk.mono : ∀ a0 a1 a2 k, LeO (laws_markDisk.f k a0 a1 a2) (laws_markDisk.f (k + 1) a0 a1 a2) := by
  intro a0 a1 a2 k
  unfold laws_markDisk.f
  repeat' first
      | (with_reducible exact laws_markIoS.mono _ _ _)
      | (with_reducible exact laws_markStringS.mono _ _ _)
      | (with_reducible exact LeO.refl _)
      | (with_reducible exact LeO.none _)
      | (with_reducible refine LeO.ite ?_ ?_)
      | (with_reducible refine LeO.bind ?_ (fun _ => ?_))
      | exact laws_markIoS.mono _ _ _
      | exact laws_markStringS.mono _ _ _
      | exact LeO.none _
      | refine LeO.ite ?_ ?_
      | refine LeO.bind ?_ (fun _ => ?_)
set_option maxHeartbeats 8000000 in
set_option maxRecDepth 100000 in
theorem laws_markDisk.calls (k : Nat) (P0_0_ : Nat → Prop) (u9000_ : Value) (l0_0 : List ByteArray) (P0_1_ : Nat → Prop) (u9001_ : Value) (l0_1 : List (S76)) (a1 : Int) (r1 : Int) (r2 : List ByteArray) (r3 : List (S76)) (w0 w : World) (hB : Below w0.heap.size w0 w) (ho0_0 : Kd.R Kd.string 9 w w0.heap.size P0_0_ u9000_ l0_0) (ho0_1 : Kd.R k76 76 w w0.heap.size P0_1_ u9001_ l0_1) (h : laws_markDisk.f k l0_0 l0_1 a1 = some (r1, r2, r3)) :
    Calls Try.prog 14 #[.agg #[u9000_, u9001_], .int .i64 a1] w fun e w' => e = .returned (.int .i64 r1) ∧ Kd.R Kd.string 9 w' w0.heap.size (fun k_ => ((P0_0_ k_ ∨ P0_1_ k_) ∨ w.heap.size ≤ k_)) u9000_ r2 ∧ Kd.R k76 76 w' w0.heap.size (fun k_ => ((P0_0_ k_ ∨ P0_1_ k_) ∨ w.heap.size ≤ k_)) u9001_ r3 ∧ Below w0.heap.size w0 w' ∧ Kept w w' (fun k_ => P0_0_ k_ ∨ P0_1_ k_) := by
 have hu29 := Try.underlying29
 have Zb := zm (show Kd.R Kd.string 9 w w0.heap.size (fun k_ => ((P0_0_ k_ ∨ P0_1_ k_) ∨ w.heap.size ≤ k_)) u9000_ l0_0 from Kd.R_mono ho0_0 (fun k_ hk => (.inl (.inl hk))))
 have Zc := zm (show Kd.R k76 76 w w0.heap.size (fun k_ => ((P0_0_ k_ ∨ P0_1_ k_) ∨ w.heap.size ≤ k_)) u9001_ l0_1 from Kd.R_mono ho0_1 (fun k_ hk => (.inl (.inr hk))))
 have HK := zm (Kept.refl w (fun k_ => P0_0_ k_ ∨ P0_1_ k_))
 have HW0 := zm hB.size
 have HB := zm hB
 clear hB
 have H : ((laws_markStringS.f k l0_0 a1).bind fun bt249 => ((laws_markIoS.f k l0_1 bt249.1).bind fun bt251 => (some (bt251.1, bt249.2, bt251.2)))) = some (r1, r2, r3) := h
 clear h
 replace H := Option.bind_eq_some_iff.mp H
 obtain ⟨⟨t249, t250⟩, A30, H⟩ := H
 replace H : ((laws_markIoS.f k l0_1 t249).bind fun bt251 => (some (bt251.1, t250, bt251.2))) = some (r1, r2, r3) := H
 have A3 := zm A30
 clear A30
 replace H := Option.bind_eq_some_iff.mp H
 obtain ⟨⟨t251, t252⟩, A40, H⟩ := H
 replace H : (some (t251, t250, t252)) = some (r1, r2, r3) := H
 have A4 := zm A40
 clear A40
 simp only [Option.some.injEq, Prod.mk.injEq] at H
 obtain ⟨rfl, rfl, rfl⟩ := H
 obtain ⟨Ao5, co5, eo5⟩ := Kd.R_slice Zb.out
 subst eo5
 obtain ⟨Ao6, co6, eo6⟩ := Kd.R_slice Zc.out
 subst eo6
 go_enter Try.func14, Try.ntmps14
 go_wp2_with (first | ((with_reducible refine gate_dst (N := 2) rfl ?_); refine box_event ?hg (N := 2) ?hd (cs := #[.slice Ao5 l0_0.length co5, .slice Ao6 l0_1.length co6]) (t := 29) ?hr ?_; (case hd => rfl); (case hg => rfl); (case hr => first | (go_simp; done) | (go_simp; rfl)); intro gb248 hg w7 hbox hb; have n0_ := zm (Kd.R_below (zg_3 Zb.out) hb); have n1_ := zm (Kd.R_below (zg_3 Zc.out) hb); have n2_ := zm (Kept.below (S := (fun k_ => P0_0_ k_ ∨ P0_1_ k_)) (zg_7 HK.out) hb); have n3_ := zm (below_step (zg_0 HB.out) hb); have n4_ := zm (hbox); have n5_ := zm ((by rw [hg]; exact (by first | exact HK.out.1 | exact (show Kept w _ (fun k_ => P0_0_ k_ ∨ P0_1_ k_) from zg_7 HK.out).1) : w.heap.size ≤ gb248)); have n6_ := zm ((by rw [hg]; exact (below_size (zg_0 HB.out)) : w0.heap.size ≤ gb248)); clear Zb; clear Zc; clear HK; clear HB; have Zb := n0_; have Zc := n1_; have HK := n2_; have HB := n3_; have Za := n4_; have Zd := n5_; have Ze := n6_; clear n0_ n1_ n2_ n3_ n4_ n5_ n6_; clear hb hbox hg; have hcz8_0 : w7.cell? ⟨gb248, 0, none⟩ = some (.slice Ao5 l0_0.length co5) := (blk_cell Za.out 0).trans rfl; have hcz8_1 : w7.cell? ⟨gb248, 1, none⟩ = some (.slice Ao6 l0_1.length co6) := (blk_cell Za.out 1).trans rfl; have hfz8_0 := blk_frozen Za.out 0; have hfz8_1 := blk_frozen Za.out 1) | ((with_reducible refine gate_callee (f := 38) rfl ?_); refine goesL_ (some 8) rfl rfl Try.func38 (by kernel_rfl) rfl #[.slice Ao5 l0_0.length co5, .int .i64 a1] rfl zq ?_; (with_reducible refine (laws_markStringS.calls k (fun k_ => some k_ = (.slice Ao5 l0_0.length co5 : Value).ownBlock) (.slice Ao5 l0_0.length co5) l0_0 a1 t249 t250 w0 _ ?side1 ?side2 A3.out).mono ?_); (case side1 => repeat (first | (with_reducible first | exact HB.out | apply below_alloc | apply pw_below_drewN | apply below_drew1 | refine below_set ?_ Ze.out) | exact HB.out)); (case side2 => exact Kd.R_tight rfl Zb.out); rintro e w9 ⟨rfl, hy0, hb, hkp⟩; refine ⟨_, rfl, ?_⟩; have n0_ := zm (Kd.R_reok rfl hy0 (fun k_ e_ => Zb.out.1 k_ e_)); have n1_ := zm (Kd.R_mono (ok' := fun k_ => ((P0_0_ k_ ∨ P0_1_ k_) ∨ w.heap.size ≤ k_)) (Kd.R_keptB ((Kd.R_apart' Zc.out (Kd.R_typed Zb.out) (by decide))) hkp (fun k_ hk_ hs_ => (hk_.2) hs_)) (fun k_ hk_ => hk_.1.1)); have n2_ := zm (blk_kept (zg_2 Za.out) hkp (fun hs_ => (fun e_ => (Kd.R_ne Zb.out Za.out (by decide)) e_) hs_)); have n3_ := zm (Kept.then_ (S := (fun k_ => P0_0_ k_ ∨ P0_1_ k_)) (zg_8 HK.out Zd.out) hkp (fun k_ hs_ => (fun e_ => (Zb.out.1 k_ e_.symm)) hs_)); have n4_ := zm (hb); clear Zb; clear Zc; clear Za; clear HK; clear HB; have Zb := n0_; have Zc := n1_; have Za := n2_; have HK := n3_; have HB := n4_; clear n0_ n1_ n2_ n3_ n4_; (try clear hb); (try clear hkp); (try clear hy0); have hcz10_0 : w9.cell? ⟨gb248, 0, none⟩ = some (.slice Ao5 l0_0.length co5) := (blk_cell Za.out 0).trans rfl; have hcz10_1 : w9.cell? ⟨gb248, 1, none⟩ = some (.slice Ao6 l0_1.length co6) := (blk_cell Za.out 1).trans rfl; have hfz10_0 := blk_frozen Za.out 0; have hfz10_1 := blk_frozen Za.out 1) | ((with_reducible refine gate_callee (f := 39) rfl ?_); refine goesL_ (some 12) rfl rfl Try.func39 (by kernel_rfl) rfl #[.slice Ao6 l0_1.length co6, .int .i64 t249] rfl zq ?_; (with_reducible refine (laws_markIoS.calls k (fun k_ => some k_ = (.slice Ao6 l0_1.length co6 : Value).ownBlock) (.slice Ao6 l0_1.length co6) l0_1 t249 t251 t252 w0 _ ?side1 ?side2 A4.out).mono ?_); (case side1 => repeat (first | (with_reducible first | exact HB.out | apply below_alloc | apply pw_below_drewN | apply below_drew1 | refine below_set ?_ Ze.out) | exact HB.out)); (case side2 => exact Kd.R_tight rfl Zc.out); rintro e w11 ⟨rfl, hy0, hb, hkp⟩; refine ⟨_, rfl, ?_⟩; have n0_ := zm (Kd.R_mono (ok' := fun k_ => ((P0_0_ k_ ∨ P0_1_ k_) ∨ w.heap.size ≤ k_)) (Kd.R_keptB ((Kd.R_apart' Zb.out (Kd.R_typed Zc.out) (by decide))) hkp (fun k_ hk_ hs_ => (hk_.2) hs_)) (fun k_ hk_ => hk_.1.1)); have n1_ := zm (Kd.R_reok rfl hy0 (fun k_ e_ => Zc.out.1 k_ e_)); have n2_ := zm (blk_kept (zg_2 Za.out) hkp (fun hs_ => (fun e_ => (Kd.R_ne Zc.out Za.out (by decide)) e_) hs_)); have n3_ := zm (Kept.then_ (S := (fun k_ => P0_0_ k_ ∨ P0_1_ k_)) (zg_8 HK.out Zd.out) hkp (fun k_ hs_ => (fun e_ => (Zc.out.1 k_ e_.symm)) hs_)); have n4_ := zm (hb); clear Zb; clear Zc; clear Za; clear HK; clear HB; have Zb := n0_; have Zc := n1_; have Za := n2_; have HK := n3_; have HB := n4_; clear n0_ n1_ n2_ n3_ n4_; (try clear hb); (try clear hkp); (try clear hy0)))
 go_ret
 exact ⟨by first | rfl | (simp [errW_none, errW_some] <;> rfl) | (simp [*, errW_none, errW_some] <;> rfl), by (with_reducible repeat (first | apply Kd.R_alloc | apply Kd.R_drewN | apply Kd.R_drew)); exact Zb.out, by (with_reducible repeat (first | apply Kd.R_alloc | apply Kd.R_drewN | apply Kd.R_drew)); exact Zc.out, zg_1 HB.out Ze.out, zg_8 HK.out Zd.out⟩
/-! ### Disk -/
def ioOK (x : S76) : Bool := inB x.f0 0 3 && (inB x.f1 0 63 && decide ((x.f2.size : Int) ≤ 80))
def secOK (x : ByteArray) : Bool := decide ((x.size : Int) ≤ 80)
def diskOK (d : List ByteArray) (l : List S76) : Bool := decide ((d.length : Int) = 64) && (decide ((l.length : Int) ≤ 200) && (d.all secOK && l.all ioOK))
theorem l01Io_eq (x : S76) : spec_l01Io.f x.f0 x.f1 x.f2 = some (ioOK x) := by
  simp only [spec_l01Io.f, l01In_eq, Option.bind_some]
  unfold ioOK; exact and_opt (and_opt rfl)
theorem DiskOK_1_eq (x : S76) : impl_DiskOK_1.f x.f0 x.f1 x.f2 = some (ioOK x) := by
  simp only [impl_DiskOK_1.f, impl_isHost.f, impl_isPlace.f, impl_isSector.f, within_eq, Option.bind_some]
  unfold ioOK; exact and_opt (and_opt rfl)
theorem impl_DiskOK_eq (d : List ByteArray) (l : List S76) : impl_DiskOK.f d l = some (diskOK d l) := by
  have h1 : all64_impl_isSector.f d () = some (d.all secOK) := by unfold all64_impl_isSector.f; exact allO_some _ _ (fun x _ => rfl)
  have h2 : all66_impl_DiskOK_1.f l () = some (l.all ioOK) := by unfold all66_impl_DiskOK_1.f; exact allO_some _ _ (fun x _ => DiskOK_1_eq x)
  unfold impl_DiskOK.f diskOK
  rw [h1, h2]
  by_cases e1 : (d.length : Int) = 64 <;> by_cases e2 : (l.length : Int) ≤ 200 <;> cases d.all secOK <;> simp [e1, e2]
theorem spec_DiskOK_ev (d : List ByteArray) (l : List S76) (hd : d.length ≤ 1000000000) (hl : l.length ≤ 1000000000) : Ev (fun k => spec_DiskOK.f k d l) (diskOK d l) := by
  have hI : Ev (fun k => spec_DiskOK.l1 k ((0 : Nat) : Int) d l) (l.all ioOK && true) := by
    refine ev_all (g := fun k i => spec_DiskOK.l1 k (i : Int) d l) l ioOK true ?_ ?_
    · refine Ev.step (f := fun _ => some true) (fun k => ?_) (ev_some _)
      simp only [spec_DiskOK.l1]; rw [if_neg (by omega)]
    · intro i hi k
      simp only [spec_DiskOK.l1]
      rw [if_pos (by omega), if_pos (by omega), rdE_Io l i hi, l01Io_eq, Option.bind_some, wnext i (by omega)]
  have hS : Ev (fun k => spec_DiskOK.l0 k ((0 : Nat) : Int) d l) (d.all secOK && (l.all ioOK && true)) := by
    refine ev_all (g := fun k i => spec_DiskOK.l0 k (i : Int) d l) d secOK _ ?_ ?_
    · refine Ev.step (f := fun k => spec_DiskOK.l1 k ((0 : Nat) : Int) d l) (fun k => ?_) hI
      simp only [spec_DiskOK.l0]; rw [if_neg (by omega)]; rfl
    · intro i hi k
      simp only [spec_DiskOK.l0]
      rw [if_pos (by omega), if_pos (by omega), rdE_String d i hi, wnext i (by omega)]
      unfold secOK
      by_cases hz : (d[i].size : Int) > 80
      · rw [if_pos hz, if_neg (by simp; omega)]
      · rw [if_neg hz, if_pos (by simp; omega)]
  rw [Bool.and_true] at hS
  unfold spec_DiskOK.f diskOK
  by_cases e1 : (d.length : Int) = 64
  · rw [decide_eq_true e1, Bool.true_and]
    refine ev_pos e1 (Ev.succ ?_)
    simp only [spec_DiskOK.j0, decide_eq_true_eq]
    by_cases e2 : (l.length : Int) ≤ 200
    · refine ev_neg (by omega) ?_
      rw [decide_eq_true e2, Bool.true_and]; exact hS
    · refine ev_pos (by omega) ?_
      rw [decide_eq_false e2, Bool.false_and]; exact ev_some _
  · rw [decide_eq_false e1, Bool.false_and]
    refine ev_neg e1 (Ev.succ ?_)
    simp only [spec_DiskOK.j0, if_true]; exact ev_some _
theorem cvStringS (d : List ByteArray) : d.map cvString = d := by induction d with
  | nil => rfl
  | cons x xs ih => rw [List.map_cons, ih]; rfl
theorem szDisk_ev (d : List ByteArray) (l : List S75) (hd1 : d.length ≤ maxLen) (hd2 : ∀ x ∈ d, x.size ≤ maxLen) (hl1 : l.length ≤ maxLen) (hl2 : ∀ x ∈ l, x.f2.size ≤ maxLen) : ∃ s, Ev (fun k => laws_szDisk.f k d l 1048576) s ∧ (s < 0 ∨ (d.length ≤ 1048576 ∧ l.length ≤ 1048576 ∧ (∀ x ∈ d, x.size ≤ 1048576) ∧ ∀ x ∈ l, x.f2.size ≤ 1048576)) := by
  unfold laws_szDisk.f
  obtain ⟨s, h1, h2⟩ := szStringS_ev d hd2 hd1 1048576 (by omega) (by omega)
  rcases h2 with h2 | ⟨h2, h3, h4, h5⟩
  · exact ⟨-1, ev_bind h1 (ev_pos h2 (ev_some _)), Or.inl (by omega)⟩
  · obtain ⟨s', h1', h2'⟩ := szIoS_ev l hl2 hl1 s h3 h2
    by_cases hs : s' < 0
    · exact ⟨-1, ev_bind h1 (ev_neg (by omega) (ev_bind h1' (ev_pos hs (ev_some _)))), Or.inl (by omega)⟩
    · rcases h2' with h2' | ⟨h2', h3', h4', h5'⟩
      · exact absurd h2' hs
      · exact ⟨s', ev_bind h1 (ev_neg (by omega) (ev_bind h1' (ev_neg hs (ev_some _)))), Or.inr ⟨by omega, by omega, fun x hx => by have := h5 x hx; omega, fun x hx => by have := h5' x hx; omega⟩⟩
theorem toDisk_ev (d : List ByteArray) (l : List S75) (hd : d.length ≤ 1048576) (hl : l.length ≤ 1048576) : Ev (fun k => laws_toDisk.f k d l) (d, l.map cvIo) := by
  unfold laws_toDisk.f
  have h := toStringS_ev d hd
  rw [cvStringS] at h
  exact ev_bind h (ev_bind (toIoS_ev l hl) (ev_some _))
theorem eqDisk_ev (d : List ByteArray) (l : List S76) (hd : d.length ≤ 1000000000) (hl : l.length ≤ 1000000000) : Ev (fun k => laws_eqDisk.f k d l d l) true := by
  unfold laws_eqDisk.f
  exact ev_bind (eqStringS_ev d hd) (ev_pos rfl (ev_bind (eqIoS_ev l hl) (ev_pos rfl (ev_some _))))
theorem markDisk_ev (d : List ByteArray) (l : List S76) (hd : d.length ≤ 1000000000) (hl : l.length ≤ 1000000000) : ∃ m d' l', (0 : Int) ≤ m ∧ Ev (fun k => laws_markDisk.f k d l 1) (m, d', l') ∧ Ev (fun k => laws_heldDisk.f k d' l' 1) m := by
  refine ⟨_, _, _, ?_, ev_bind (markStringS_ev d 1 (by omega) (by omega) (by omega)) (ev_bind (markIoS_ev l _ (by omega) (by omega) (by omega)) (ev_some _)), ?_⟩
  · dsimp only; omega
  · exact ev_bind (heldStringS_ev d.length 1 (by omega) (by omega) (by omega)) (ev_neg (by omega) (ev_bind (heldIoS_ev l.length _ (by omega) (by omega) (by omega)) (ev_neg (by omega) (ev_some _))))
/-! ### impl_Disk_codes: function 34 -/
def impl_Disk_codes.f (l0_0 : List ByteArray) (l0_1 : List (S76)) (a1 : Int) : Option (Int) := (impl_DiskOK.f l0_0 l0_1).bind fun t205 => ((impl_isHost.f a1).bind fun t206 => ((impl_first.f (([Any.b (!t205), Any.n 1, Any.b (!t206), Any.n 4] : List Any))).bind fun t210 => (some t210)))
set_option maxHeartbeats 8000000 in
set_option maxRecDepth 100000 in
theorem impl_Disk_codes.calls (A0_0 : Option Addr) (c0_0 : Nat) (l0_0 : List ByteArray) (A0_1 : Option Addr) (c0_1 : Nat) (l0_1 : List (S76)) (a1 : Int) (r : Int) (w : World) (hr0_0 : Kd.C Kd.string w A0_0 l0_0.length l0_0) (hc0_0 : l0_0.length ≤ c0_0) (hr0_1 : Kd.C k76 w A0_1 l0_1.length l0_1) (hc0_1 : l0_1.length ≤ c0_1) (h : impl_Disk_codes.f l0_0 l0_1 a1 = some r) :
    Calls Try.prog 34 #[.agg #[.slice A0_0 l0_0.length c0_0, .slice A0_1 l0_1.length c0_1], .int .i64 a1] w fun e w' => e = .returned (.int .i64 r) ∧ Below w.heap.size w w' := by
 have hu29 := Try.underlying29
 have HR0_0 := zm hr0_0
 have HC0_0 := zm hc0_0
 clear hr0_0 hc0_0
 have HR0_1 := zm hr0_1
 have HC0_1 := zm hc0_1
 clear hr0_1 hc0_1
 have HB := zm (Below.refl w.heap.size w)
 have H : ((impl_DiskOK.f l0_0 l0_1).bind fun t205 => ((impl_isHost.f a1).bind fun t206 => ((impl_first.f (([Any.b (!t205), Any.n 1, Any.b (!t206), Any.n 4] : List Any))).bind fun t210 => (some t210)))) = some r := h
 clear h
 replace H := Option.bind_eq_some_iff.mp H
 obtain ⟨t205, A30, H⟩ := H
 replace H : ((impl_isHost.f a1).bind fun t206 => ((impl_first.f (([Any.b (!t205), Any.n 1, Any.b (!t206), Any.n 4] : List Any))).bind fun t210 => (some t210))) = some r := H
 have A3 := zm A30
 clear A30
 replace H := Option.bind_eq_some_iff.mp H
 obtain ⟨t206, A40, H⟩ := H
 replace H : ((impl_first.f (([Any.b (!t205), Any.n 1, Any.b (!t206), Any.n 4] : List Any))).bind fun t210 => (some t210)) = some r := H
 have A4 := zm A40
 clear A40
 obtain ⟨y207, hy207⟩ : ∃ y_ : List Any, y_ = (([Any.b (!t205), Any.n 1, Any.b (!t206), Any.n 4] : List Any)) := ⟨_, rfl⟩
 replace H : ((impl_first.f y207).bind fun t210 => (some t210)) = some r := by first | (rw [hy207]; with_reducible exact H) | (have H2_ := (Option.bind_some _ _).symm.trans H; rw [hy207]; with_reducible exact H2_) | (have H2_ := (Option.bind_some _ _).symm.trans H; with_reducible exact H2_) | with_reducible exact H | (rw [hy207]; exact H) | exact H
 have Ny207 := zm hy207
 clear hy207
 replace H := Option.bind_eq_some_iff.mp H
 obtain ⟨t210, A50, H⟩ := H
 replace H : (some t210) = some r := H
 have A5 := zm A50
 clear A50
 obtain rfl := Option.some.inj H
 go_enter Try.func34, Try.ntmps34
 go_wp2_with (first | ((with_reducible refine gate_dst (N := 2) rfl ?_); refine box_event ?hg (N := 2) ?hd (cs := #[.slice A0_0 l0_0.length c0_0, .slice A0_1 l0_1.length c0_1]) (t := 29) ?hr ?_; (case hd => rfl); (case hg => rfl); (case hr => first | (go_simp; done) | (go_simp; rfl)); intro gb204 hg w6 hbox hb; have n0_ := zm (below_step (zg_0 HB.out) hb); have n1_ := zm (hbox); have n2_ := zm ((by rw [hg]; exact (below_size (zg_0 HB.out)) : w.heap.size ≤ gb204)); have n3_ := zm ((by rw [hg]; exact (below_size (zg_0 HB.out)) : w.heap.size ≤ gb204)); clear HB; have HB := n0_; have BK204 := n1_; have GW204 := n2_; have GE204 := n3_; clear n0_ n1_ n2_ n3_; clear hb hbox hg; have hcz7_0 : w6.cell? ⟨gb204, 0, none⟩ = some (.slice A0_0 l0_0.length c0_0) := (blk_cell BK204.out 0).trans rfl; have hcz7_1 : w6.cell? ⟨gb204, 1, none⟩ = some (.slice A0_1 l0_1.length c0_1) := (blk_cell BK204.out 1).trans rfl; have hfz7_0 := blk_frozen BK204.out 0; have hfz7_1 := blk_frozen BK204.out 1) | ((with_reducible refine gate_callee (f := 45) rfl ?_); refine goesL_ (some 6) rfl rfl Try.func45 (by kernel_rfl) rfl #[.agg #[.slice A0_0 l0_0.length c0_0, .slice A0_1 l0_1.length c0_1]] rfl zq ?_; (with_reducible refine (impl_DiskOK.calls _ _ l0_0 _ _ l0_1 t205 _ ?side1 ?side2 ?side3 ?side4 A3.out).mono ?_); (case side1 => repeat (first | exact (Kd.C_below HR0_0.out HB.out) | (with_reducible refine Kd.C_alloc ?_ _) | (with_reducible refine Kd.C_drewN ?_ _) | (with_reducible refine Kd.C_drew ?_))); (case side2 => exact HC0_0.out); (case side3 => repeat (first | exact (Kd.C_below HR0_1.out HB.out) | (with_reducible refine Kd.C_alloc ?_ _) | (with_reducible refine Kd.C_drewN ?_ _) | (with_reducible refine Kd.C_drew ?_))); (case side4 => exact HC0_1.out); rintro e w8 ⟨rfl, hb⟩; refine ⟨_, rfl, ?_⟩; have n0_ := zm (blk_below (g := gb204) (o := .cells #[.slice A0_0 l0_0.length c0_0, .slice A0_1 l0_1.length c0_1] 29 (0, 0)) (zg_2 BK204.out) hb); have n1_ := zm (below_step (zg_1 HB.out GE204.out) hb); clear BK204; clear HB; have BK204 := n0_; have HB := n1_; clear n0_ n1_; (try clear hb); (try clear hb2); (try clear hk); (try clear hi)) | ((with_reducible refine gate_callee (f := 46) rfl ?_); refine goesL_ (some 11) rfl rfl Try.func46 (by kernel_rfl) rfl #[.int .i64 a1] rfl zq ?_; (with_reducible refine (impl_isHost.calls a1 t206 _ A4.out).mono ?_); rintro e w' ⟨rfl, ⟨nd, rfl⟩⟩; refine ⟨_, rfl, ?_⟩) | ((with_reducible refine gate_dst (N := 15) rfl ?_); refine Kd.R_lit kAny _ 20 ?hg (N := 15) ?hd (xs := ([Any.b (!t205), Any.n 1, Any.b (!t206), Any.n 4] : List Any)) (inner := [.iface 4 (.bool (!t205)), .iface 3 (.int .i64 1), .iface 4 (.bool (!t206)), .iface 3 (.int .i64 4)]) (ok := fun _ => True) (okp := fun _ => True) ?hr ?hp (fun _ hk => hk) trivial (Below.refl _ _) (Nat.le_refl _) (by simp) ?_; (case hd => rfl); (case hg => rfl); (case hr => first | (go_simp; done) | (go_simp; rfl)); (case hp => exact (Reps.one (show Kd.M kAny _ _ _ (Any.b (!t205)) [.iface 4 (.bool (!t205))] from rfl) (Reps.one (show Kd.M kAny _ _ _ (Any.n 1) [.iface 3 (.int .i64 1)] from rfl) (Reps.one (show Kd.M kAny _ _ _ (Any.b (!t206)) [.iface 4 (.bool (!t206))] from rfl) (Reps.one (show Kd.M kAny _ _ _ (Any.n 4) [.iface 3 (.int .i64 4)] from rfl) (Reps.none _ _)))))); intro v208 w9 ho10 hb hg_ hnew_; clear hg_ hnew_; (first | rw [← Ny207.out] at ho10 | (simp only [Int.reduceToNat] at ho10; rw [← Ny207.out] at ho10)); have n0_ := zm (Kd.R_lower ho10 (below_size (zg_1 HB.out GE204.out))); have n1_ := zm (blk_below (g := gb204) (o := .cells #[.slice A0_0 l0_0.length c0_0, .slice A0_1 l0_1.length c0_1] 29 (0, 0)) (zg_2 BK204.out) hb); have n2_ := zm (below_step (zg_1 HB.out GE204.out) hb); clear BK204; clear HB; have HO209 := n0_; have BK204 := n1_; have HB := n2_; clear n0_ n1_ n2_; clear hb ho10; obtain ⟨Ao11, co11, eo11⟩ := Kd.R_slice HO209.out; subst eo11) | ((with_reducible refine gate_callee (f := 44) rfl ?_); refine goesL_ (some 16) rfl rfl Try.func44 (by kernel_rfl) rfl #[.slice Ao11 y207.length co11] rfl zq ?_; (with_reducible refine (impl_first.calls _ _ y207 t210 _ ?side1 ?side2 A5.out).mono ?_); (case side1 => repeat (first | exact (Kd.R_reads' HO209.out).2.2 | (with_reducible refine Kd.C_alloc ?_ _) | (with_reducible refine Kd.C_drewN ?_ _) | (with_reducible refine Kd.C_drew ?_))); (case side2 => exact (Kd.R_reads' HO209.out).2.1); rintro e w' ⟨rfl, ⟨nd, rfl⟩⟩; refine ⟨_, rfl, ?_⟩))
 go_ret
 exact ⟨by first | rfl | (simp [errW_none, errW_some] <;> rfl) | (simp [*, errW_none, errW_some] <;> rfl), zg_1 HB.out GE204.out⟩
/-! ### impl_Io_71: function 71 -/
def impl_Io_71.f (l0 : List S76) : Option (List S76) := if l0.length < 4398046511104 then some l0 else none
set_option maxHeartbeats 1000000 in
set_option maxRecDepth 100000 in
theorem impl_Io_71.calls (A0 : Option Addr) (c0 : Nat) (l0 : List S76) (r : List S76) (w : World) (hr0 : Kd.C k76 w A0 l0.length l0) (hc0 : l0.length ≤ c0) (h : impl_Io_71.f l0 = some r) :
    Calls Try.prog 71 #[.slice A0 l0.length c0] w fun e w' => ∃ v : Value, e = .returned v ∧ Kd.R k76 76 w' w.heap.size (fun _ => True) v r ∧ Below w.heap.size w w' := by
  have hlim : l0.length < 4398046511104 := by
    unfold impl_Io_71.f at h; split at h
    · assumption
    · cases h
  have hres : l0 = r := by unfold impl_Io_71.f at h; rw [if_pos hlim] at h; exact Option.some.inj h
  subst hres
  have HR0 := Aside0.mk hr0
  have HB := Aside0.mk (Below.refl w.heap.size w)
  have LM := Aside0.mk hlim
  have heq := fun (wx : World) (a : Option Addr) => Lib.run_eql_slice_nil (P := Try.prog) wx 27 76 a l0.length c0 0 0 Try.underlying27
  clear hr0 h hlim
  cases A0 with
  | none =>
    have hl : l0 = [] := by
      by_cases hn : 0 < l0.length
      · obtain ⟨ad, ha, _⟩ := HR0.out.2.2 hn
        cases ha
      · exact List.eq_nil_of_length_eq_zero (by omega)
    subst hl
    simp only [List.length_nil] at heq
    clear HR0 LM
    go_enter Try.func71, Try.ntmps71
    go_wp2
    go_ret
    exact ⟨_, rfl, Kd.R_nil _ _ _ _ _, HB.out⟩
  | some a =>
    go_enter Try.func71, Try.ntmps71
    go_wp2_with (first | ((with_reducible refine gate_dst (N := 5) rfl ?_); refine Kd.R_lit k76 _ 76 ?hg (N := 5) ?hd (xs := ([] : List S76)) (inner := []) (ok := fun _ => True) (okp := fun _ => True) ?hr ?hp (fun _ hk => hk) trivial (Below.refl _ _) (Nat.le_refl _) (by simp) ?_; (case hd => rfl); (case hg => rfl); (case hr => first | (go_simp; done) | (go_simp; rfl)); (case hp => exact (Reps.none _ _)); intro v5 w2 ho hb hg_ hnew_; clear hg_ hnew_; have HO := Aside0.mk ho; have HB2 := Aside0.mk hb; clear ho hb) | ((with_reducible refine gate_builtin (b := .append) (xs := #[.tmp 5, .tmp 6]) rfl ?_); at_builtin; refine Kd.R_append_rows k76 (w0 := w) w.heap.size rfl (.tmp 5) (.tmp 6) 27 76 (.agg #[(.int .i64 0), (.int .i64 0), (.string ⟨#[]⟩)]) 32 rfl Try.underlying27 info76 rfl (by decide) (by omega) v5 ([] : List S76) l0 _ _ _ (fun _ => True) (fun _ => False) rfl rfl ?aO ?aR (fun _ _ h => h) (fun _ h => h.elim) ?aF ?aB ?aS ?aL ?_; (case aR => exact Kd.C_below HR0.out HB2.out); (case aB => exact HB2.out); (case aF => exact (fun _ _ => trivial)); (case aO => exact HO.out); (case aS => exact (below_size HB2.out)); (case aL => have := LM.out; simp; omega); intro v7 w3 ho hb hg hat; have HO3 := Aside0.mk ho; have HB3 := Aside0.mk hb; clear ho hb hg hat))
    go_ret
    exact ⟨_, rfl, by simpa using HO3.out, HB3.out⟩
/-! ### slices_Clone_string_string: function 70 -/
def slices_Clone_string_string.f (l0 : List ByteArray) : Option (List ByteArray) := if l0.length < 8796093022208 then some l0 else none
set_option maxHeartbeats 1000000 in
set_option maxRecDepth 100000 in
theorem slices_Clone_string_string.calls (A0 : Option Addr) (c0 : Nat) (l0 : List ByteArray) (r : List ByteArray) (w : World) (hr0 : Kd.C Kd.string w A0 l0.length l0) (hc0 : l0.length ≤ c0) (h : slices_Clone_string_string.f l0 = some r) :
    Calls Try.prog 70 #[.slice A0 l0.length c0] w fun e w' => ∃ v : Value, e = .returned v ∧ Kd.R Kd.string 9 w' w.heap.size (fun _ => True) v r ∧ Below w.heap.size w w' := by
  have hlim : l0.length < 8796093022208 := by
    unfold slices_Clone_string_string.f at h; split at h
    · assumption
    · cases h
  have hres : l0 = r := by unfold slices_Clone_string_string.f at h; rw [if_pos hlim] at h; exact Option.some.inj h
  subst hres
  have HR0 := Aside0.mk hr0
  have HB := Aside0.mk (Below.refl w.heap.size w)
  have LM := Aside0.mk hlim
  have heq := fun (wx : World) (a : Option Addr) => Lib.run_eql_slice_nil (P := Try.prog) wx 22 9 a l0.length c0 0 0 Try.underlying22
  clear hr0 h hlim
  cases A0 with
  | none =>
    have hl : l0 = [] := by
      by_cases hn : 0 < l0.length
      · obtain ⟨ad, ha, _⟩ := HR0.out.2.2 hn
        cases ha
      · exact List.eq_nil_of_length_eq_zero (by omega)
    subst hl
    simp only [List.length_nil] at heq
    clear HR0 LM
    go_enter Try.func70, Try.ntmps70
    go_wp2
    go_ret
    exact ⟨_, rfl, Kd.R_nil _ _ _ _ _, HB.out⟩
  | some a =>
    go_enter Try.func70, Try.ntmps70
    go_wp2_with (first | ((with_reducible refine gate_dst (N := 5) rfl ?_); refine Kd.R_lit Kd.string _ 9 ?hg (N := 5) ?hd (xs := ([] : List ByteArray)) (inner := []) (ok := fun _ => True) (okp := fun _ => True) ?hr ?hp (fun _ hk => hk) trivial (Below.refl _ _) (Nat.le_refl _) (by simp) ?_; (case hd => rfl); (case hg => rfl); (case hr => first | (go_simp; done) | (go_simp; rfl)); (case hp => exact (Reps.none _ _)); intro v5 w2 ho hb hg_ hnew_; clear hg_ hnew_; have HO := Aside0.mk ho; have HB2 := Aside0.mk hb; clear ho hb) | ((with_reducible refine gate_builtin (b := .append) (xs := #[.tmp 5, .tmp 6]) rfl ?_); at_builtin; refine Kd.R_append_rows Kd.string (w0 := w) w.heap.size rfl (.tmp 5) (.tmp 6) 22 9 (.string ⟨#[]⟩) 16 rfl Try.underlying22 info9 rfl (by decide) (by omega) v5 ([] : List ByteArray) l0 _ _ _ (fun _ => True) (fun _ => False) rfl rfl ?aO ?aR (fun _ _ h => h) (fun _ h => h.elim) ?aF ?aB ?aS ?aL ?_; (case aR => exact Kd.C_below HR0.out HB2.out); (case aB => exact HB2.out); (case aF => exact (fun _ _ => trivial)); (case aO => exact HO.out); (case aS => exact (below_size HB2.out)); (case aL => have := LM.out; simp; omega); intro v7 w3 ho hb hg hat; have HO3 := Aside0.mk ho; have HB3 := Aside0.mk hb; clear ho hb hg hat))
    go_ret
    exact ⟨_, rfl, by simpa using HO3.out, HB3.out⟩
/-! ### impl_Disk_copied: function 51 -/
def impl_Disk_copied.f (l0_0 : List ByteArray) (l0_1 : List (S76)) : Option (List ByteArray × (List (S76))) := (slices_Clone_string_string.f l0_0).bind fun t213 => ((impl_Io_71.f l0_1).bind fun t216 => (some (t213, t216)))
def impl_Disk_copied.T1 : Bool × List (List Nat × List Nat) := (true, [([], []), ([0], [0]), ([1], [1]), ([], []), ([3], [3]), ([4, 2], [4]), ([2, 5], [2, 5]), ([6, 5, 0, 1, 2, 3, 4, 5, 6], [6])])
def impl_Disk_copied.B1 : List Nat := [0, 1, 3, 0, 8, 31, 63, 127]
theorem impl_Disk_copied.tab1 : rtab .any (opsOf Try.f51 1) = impl_Disk_copied.T1 := by kernel_rfl
theorem impl_Disk_copied.bits1 : waitsOk impl_Disk_copied.T1.2 impl_Disk_copied.B1 = true := by kernel_rfl
set_option maxHeartbeats 8000000 in
set_option maxRecDepth 100000 in
theorem impl_Disk_copied.calls (A0_0 : Option Addr) (c0_0 : Nat) (l0_0 : List ByteArray) (A0_1 : Option Addr) (c0_1 : Nat) (l0_1 : List (S76)) (r1 : List ByteArray) (r2 : List (S76)) (w : World) (hr0_0 : Kd.C Kd.string w A0_0 l0_0.length l0_0) (hc0_0 : l0_0.length ≤ c0_0) (hr0_1 : Kd.C k76 w A0_1 l0_1.length l0_1) (hc0_1 : l0_1.length ≤ c0_1) (h : impl_Disk_copied.f l0_0 l0_1 = some (r1, r2)) :
    Calls Try.prog 51 #[.agg #[.slice A0_0 l0_0.length c0_0, .slice A0_1 l0_1.length c0_1]] w fun e w' => ∃ v0_ v1_ : Value, e = .returned (.agg #[v0_, v1_]) ∧ Kd.R Kd.string 9 w' w.heap.size (fun _ => True) v0_ r1 ∧ Kd.R k76 76 w' w.heap.size (fun _ => True) v1_ r2 ∧ Below w.heap.size w w' := by
 have hu29 := Try.underlying29
 have Zi := zm hr0_0
 have Zj := zm hc0_0
 clear hr0_0 hc0_0
 have Zk := zm hr0_1
 have Zl := zm hc0_1
 clear hr0_1 hc0_1
 have HB := zm (Below.refl w.heap.size w)
 have H : ((slices_Clone_string_string.f l0_0).bind fun t213 => ((impl_Io_71.f l0_1).bind fun t216 => (some (t213, t216)))) = some (r1, r2) := h
 clear h
 replace H := Option.bind_eq_some_iff.mp H
 obtain ⟨t213, A20, H⟩ := H
 replace H : ((impl_Io_71.f l0_1).bind fun t216 => (some (t213, t216))) = some (r1, r2) := H
 have A2 := zm A20
 clear A20
 replace H := Option.bind_eq_some_iff.mp H
 obtain ⟨t216, A30, H⟩ := H
 replace H : (some (t213, t216)) = some (r1, r2) := H
 have A3 := zm A30
 clear A30
 simp only [Option.some.injEq, Prod.mk.injEq] at H
 obtain ⟨rfl, rfl⟩ := H
 go_enter Try.func51, Try.ntmps51
 try go_wp2_with (first | ((with_reducible refine gate_dst (N := 1) rfl ?_); refine box_event ?hg (N := 1) ?hd (cs := #[.slice A0_0 l0_0.length c0_0, .slice A0_1 l0_1.length c0_1]) (t := 29) ?hr ?_; (case hd => rfl); (case hg => rfl); (case hr => first | (go_simp; done) | (go_simp; rfl)); intro gb211 hg w4 hbox hb; have n0_ := zm (below_step (zg_0 HB.out) hb); have n1_ := zm (hbox); have n2_ := zm ((by rw [hg]; exact (below_size (zg_0 HB.out)) : w.heap.size ≤ gb211)); have n3_ := zm ((by rw [hg]; exact (below_size (zg_0 HB.out)) : w.heap.size ≤ gb211)); clear HB; have HB := n0_; have Za := n1_; have Zm := n2_; have Zd := n3_; clear n0_ n1_ n2_ n3_; clear hb hbox hg) | ((with_reducible refine gate_dst (N := 2) rfl ?_); refine box_event ?hg (N := 2) ?hd (cs := #[.slice none 0 0, .slice none 0 0]) (t := 29) ?hr ?_; (case hd => rfl); (case hg => rfl); (case hr => first | (go_simp; done) | (go_simp; rfl)); intro gb212 hg w5 hbox hb; have n0_ := zm (blk_below (g := gb211) (o := .cells #[.slice A0_0 l0_0.length c0_0, .slice A0_1 l0_1.length c0_1] 29 (0, 0)) (zg_2 Za.out) hb); have n1_ := zm (below_step (zg_1 HB.out Zd.out) hb); have n2_ := zm (hbox); have n3_ := zm ((by rw [hg]; exact (below_size (zg_1 HB.out Zd.out)) : w.heap.size ≤ gb212)); have n4_ := zm ((by rw [hg]; exact (below_size (zg_1 HB.out Zd.out)) : w.heap.size ≤ gb212)); have n5_ := zm ((by rw [hg]; exact Nat.ne_of_lt (blk_lt (g := gb211) (o := .cells #[.slice A0_0 l0_0.length c0_0, .slice A0_1 l0_1.length c0_1] 29 (0, 0)) (zg_2 Za.out)) : gb211 ≠ gb212)); have n6_ := zm ((by rw [hg]; exact Nat.ne_of_gt (blk_lt (g := gb211) (o := .cells #[.slice A0_0 l0_0.length c0_0, .slice A0_1 l0_1.length c0_1] 29 (0, 0)) (zg_2 Za.out)) : gb212 ≠ gb211)); clear Za; clear HB; have Za := n0_; have HB := n1_; have Zb := n2_; have Zn := n3_; have Zf := n4_; have Zc := n5_; have Ze := n6_; clear n0_ n1_ n2_ n3_ n4_ n5_ n6_; clear hb hbox hg))
 have n0_ := zm (blk_drew Za.out)
 have n1_ := zm (blk_drew Zb.out)
 have n2_ := zm (below_drew1 HB.out)
 clear Za
 clear Zb
 clear HB
 have Za := n0_
 have Zb := n1_
 have HB := n2_
 clear n0_ n1_ n2_
 refine start_ (n := 8) (S := fun w' => w'.cell? ⟨gb211, 0, none⟩ = some (.slice A0_0 l0_0.length c0_0) ∧ w'.cell? ⟨gb211, 1, none⟩ = some (.slice A0_1 l0_1.length c0_1)) (ds := []) #[false, false, false, false, false, false, false, false] (by kernel_rfl) rfl rfl ⟨(blk_cell Za.out 0).trans rfl, (blk_cell Za.out 1).trans rfl⟩ (fun hHeld => ?_); refine with_tabW impl_Disk_copied.tab1 impl_Disk_copied.bits1 (fun HT_ HW_ => ?_)
 generalize w5.drew = w6 at Za Zb HB hHeld ⊢
 refine pure_ (i := 0) (N := some 3) (v := ?_) (a' := ?_) #[true, false, false, false, false, false, false, false] rfl rfl (any_of HT_.out (by kernel_rfl)) (fun _ _ _ h => h) (Or.inl ⟨by rfl, ?_⟩) ?_ ?_
 rotate_left
 ·intro w'
  go_simp
  with_reducible rfl
 rotate_left
 ·simp only [Act.put, zs, zz, zt, i64_w, i32_w]
  rfl
 refine pure_ (i := 3) (N := some 6) (v := ?_) (a' := ?_) #[true, false, false, true, false, false, false, false] rfl rfl (any_of HT_.out (by kernel_rfl)) (fun _ _ _ h => h) (Or.inl ⟨by rfl, ?_⟩) ?_ ?_
 rotate_left
 ·intro w'
  go_simp
  with_reducible rfl
 rotate_left
 ·simp only [Act.put, zs, zz, zt, i64_w, i32_w]
  rfl
 refine take_ (i := 1) (N := some 4) (v := ?_) (a' := ?_) #[true, true, false, true, false, false, false, false] rfl rfl (take_ofW HT_.out HW_.out (by kernel_rfl)) (fun _ _ _ h => h) (Or.inl ⟨by rfl, ?_⟩) hHeld ?_ ?_
 rotate_left
 ·rintro w' ⟨s0, s1⟩
  go_simp
  with_reducible rfl
 rotate_left
 ·simp only [Act.put, zs, zz, zt, i64_w, i32_w]
  rfl
 refine take_ (i := 4) (N := some 7) (v := ?_) (a' := ?_) #[true, true, false, true, true, false, false, false] rfl rfl (take_ofW HT_.out HW_.out (by kernel_rfl)) (fun _ _ _ h => h) (Or.inl ⟨by rfl, ?_⟩) hHeld ?_ ?_
 rotate_left
 ·rintro w' ⟨s0, s1⟩
  go_simp
  with_reducible rfl
 rotate_left
 ·simp only [Act.put, zs, zz, zt, i64_w, i32_w]
  rfl
 refine one_ (i := 2) (N := some 5) #[true, true, true, true, true, false, false, false] rfl rfl (one_of HT_.out (by kernel_rfl)) (by decide) (fun K hK => ?_)
 refine goes_ Try.func70 (by kernel_rfl) rfl #[.slice A0_0 l0_0.length c0_0] (by rfl) rfl rfl zq ?_
 with_reducible refine (slices_Clone_string_string.calls _ _ l0_0 t213 _ ?side1 ?side2 A2.out).mono ?_
 (case side1 => repeat (first | exact (Kd.C_below Zi.out HB.out) | (with_reducible refine Kd.C_alloc ?_ _) | (with_reducible refine Kd.C_drewN ?_ _) | (with_reducible refine Kd.C_drew ?_)))
 (case side2 => exact Zj.out)
 rintro e w7 ⟨v214, rfl, ho0, hb⟩
 refine ⟨_, rfl, ?_⟩
 have n0_ := zm (Kd.R_lower ho0 (below_size (zg_4 HB.out Zd.out Zf.out)))
 have n1_ := zm (blk_below (g := gb211) (o := .cells #[.slice A0_0 l0_0.length c0_0, .slice A0_1 l0_1.length c0_1] 29 (0, 0)) (zg_2 Za.out) hb)
 have n2_ := zm (blk_below (g := gb212) (o := .cells #[.slice none 0 0, .slice none 0 0] 29 (0, 0)) (zg_2 Zb.out) hb)
 have n3_ := zm (below_step (zg_4 HB.out Zd.out Zf.out) hb)
 clear Za
 clear Zb
 clear HB
 have Zg := n0_
 have Za := n1_
 have Zb := n2_
 have HB := n3_
 clear n0_ n1_ n2_ n3_
 (try clear hb)
 (try clear hb2)
 (try clear hk)
 (try clear hi)
 (try clear ho0)
 refine hK.out _ _ ⟨(blk_cell Za.out 0).trans rfl, (blk_cell Za.out 1).trans rfl⟩ (fun hHeld => ?_)
 clear hK K
 refine norm_ (a' := ?_) ?_ ?_
 rotate_left
 ·show Act.put _ (some 5) _ = _
  simp only [Act.put, zs, zz, zt, i64_w, i32_w]
  rfl
 refine one_ (i := 5) (N := some 8) #[true, true, true, true, true, true, false, false] rfl rfl (one_of HT_.out (by kernel_rfl)) (by decide) (fun K hK => ?_)
 refine goes_ Try.func71 (by kernel_rfl) rfl #[.slice A0_1 l0_1.length c0_1] (by rfl) rfl rfl zq ?_
 with_reducible refine (impl_Io_71.calls _ _ l0_1 t216 _ ?side1 ?side2 A3.out).mono ?_
 (case side1 => repeat (first | exact (Kd.C_below Zk.out HB.out) | (with_reducible refine Kd.C_alloc ?_ _) | (with_reducible refine Kd.C_drewN ?_ _) | (with_reducible refine Kd.C_drew ?_)))
 (case side2 => exact Zl.out)
 rintro e w8 ⟨v217, rfl, ho0, hb⟩
 refine ⟨_, rfl, ?_⟩
 have n0_ := zm (Kd.R_below (zg_3 Zg.out) hb)
 have n1_ := zm (Kd.R_lower ho0 (below_size (zg_4 HB.out Zd.out Zf.out)))
 have n2_ := zm (blk_below (g := gb211) (o := .cells #[.slice A0_0 l0_0.length c0_0, .slice A0_1 l0_1.length c0_1] 29 (0, 0)) (zg_2 Za.out) hb)
 have n3_ := zm (blk_below (g := gb212) (o := .cells #[.slice none 0 0, .slice none 0 0] 29 (0, 0)) (zg_2 Zb.out) hb)
 have n4_ := zm (below_step (zg_4 HB.out Zd.out Zf.out) hb)
 clear Zg
 clear Za
 clear Zb
 clear HB
 have Zg := n0_
 have Zh := n1_
 have Za := n2_
 have Zb := n3_
 have HB := n4_
 clear n0_ n1_ n2_ n3_ n4_
 (try clear hb)
 (try clear hb2)
 (try clear hk)
 (try clear hi)
 (try clear ho0)
 obtain ⟨Ao9, co9, eo9⟩ := Kd.R_slice Zh.out
 (first | subst eo9 | (injection eo9 with f1_ f2_ f3_; have f4_ := f1_.symm; have f5_ := f3_.symm; clear f1_ f2_ f3_; subst f4_; subst f5_))
 obtain ⟨Ao10, co10, eo10⟩ := Kd.R_slice Zg.out
 (first | subst eo10 | (injection eo10 with f1_ f2_ f3_; have f4_ := f1_.symm; have f5_ := f3_.symm; clear f1_ f2_ f3_; subst f4_; subst f5_))
 refine hK.out _ _ ⟨(blk_cell Za.out 0).trans rfl, (blk_cell Za.out 1).trans rfl⟩ (fun hHeld => ?_)
 clear hK K
 refine norm_ (a' := ?_) ?_ ?_
 rotate_left
 ·show Act.put _ (some 8) _ = _
  simp only [Act.put, zs, zz, zt, i64_w, i32_w]
  rfl
 refine pure_ (i := 6) (N := some 9) (v := ?_) (a' := ?_) #[true, true, true, true, true, true, true, false] rfl rfl (any_of HT_.out (by kernel_rfl)) (fun _ _ _ h => h) (Or.inl ⟨by rfl, ?_⟩) ?_ ?_
 rotate_left
 ·intro w'
  go_simp
  with_reducible rfl
 rotate_left
 ·simp only [Act.put, zs, zz, zt, i64_w, i32_w]
  rfl
 refine one_ (i := 7) (N := none) #[true, true, true, true, true, true, true, true] rfl rfl (one_of HT_.out (by kernel_rfl)) (by decide) (fun K hK => ?_)
 have hs11 : w8.cell? ⟨gb212, 0, none⟩ = some (.slice none 0 0) := (blk_cell Zb.out 0).trans rfl
 have hfs11 := blk_frozen Zb.out 0
 have hns11_0 := Zc.out
 have hms11_0 := Ze.out
 have hs12 : w8.cell? ⟨gb212, 1, none⟩ = some (.slice none 0 0) := (blk_cell Zb.out 1).trans rfl
 have hfs12 := blk_frozen Zb.out 1
 have hns12_0 := Zc.out
 have hms12_0 := Ze.out
 refine skip_ (w1 := ?_) (by rfl) rfl ?_ ?_
 rotate_left
 ·go_simp
  rfl
 refine hK.out _ _ ⟨((cell_far (p := ⟨gb212, _, none⟩) Zc.out _).trans (((cell_far (p := ⟨gb212, _, none⟩) Zc.out _).trans (hHeld.1)))), ((cell_far (p := ⟨gb212, _, none⟩) Zc.out _).trans (((cell_far (p := ⟨gb212, _, none⟩) Zc.out _).trans (hHeld.2))))⟩ (fun hHeld => ?_)
 clear hK K
 refine done_ (done_of HT_.out (by kernel_rfl)) ?_
 try go_wp2
 refine bodyPost_ret (results_cell_row rfl _ _ gb212 29 #[.slice Ao10 t213.length co10, .slice Ao9 t216.length co9] (0, 0) _ rfl (by (with_reducible repeat (first | refine blk_drewN ?_ _ | refine blk_drew ?_ | refine blk_alloc ?_ _)); refine blk_put (cs := #[.slice Ao10 t213.length co10, .slice none 0 0]) ?_ 1 _ rfl; (with_reducible repeat (first | refine blk_drewN ?_ _ | refine blk_drew ?_ | refine blk_alloc ?_ _)); refine blk_put (cs := #[.slice none 0 0, .slice none 0 0]) ?_ 0 _ rfl; (with_reducible repeat (first | refine blk_drewN ?_ _ | refine blk_drew ?_ | refine blk_alloc ?_ _)); exact Zb.out) Try.underlying29 rfl (by kernel_rfl)) rfl ?_
 exact ⟨_, _, by first | rfl | (simp [errW_none, errW_some] <;> rfl) | (simp [*, errW_none, errW_some] <;> rfl), by (with_reducible repeat (first | apply Kd.R_alloc | apply Kd.R_drewN | apply Kd.R_drew)); exact Kd.R_mono (Kd.R_far (p := ⟨gb212, 1, none⟩) (Kd.R_far (p := ⟨gb212, 0, none⟩) (Kd.R_types Zg.out Zb.out (by decide)) (fun _ hk => hk.2) (.slice Ao10 t213.length co10)) (fun _ hk => hk.2) (.slice Ao9 t216.length co9)) (fun _ hk => trivial), by (with_reducible repeat (first | apply Kd.R_alloc | apply Kd.R_drewN | apply Kd.R_drew)); exact Kd.R_mono (Kd.R_far (p := ⟨gb212, 1, none⟩) (Kd.R_far (p := ⟨gb212, 0, none⟩) (Kd.R_types Zh.out Zb.out (by decide)) (fun _ hk => hk.2) (.slice Ao10 t213.length co10)) (fun _ hk => hk.2) (.slice Ao9 t216.length co9)) (fun _ hk => trivial), zg_4 HB.out Zd.out Zf.out⟩
end Go.Proofs.Ytadelojhfepkeaa.Q
