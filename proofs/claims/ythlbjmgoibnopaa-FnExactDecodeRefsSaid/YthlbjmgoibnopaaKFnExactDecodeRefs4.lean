/- What laws.FnExactDecodeRefs reaches, part 4: the functions as Lean functions, the proofs that the program's functions answer so, and plain laws about them. -/
import Derived.Test.YthlbjmgoibnopaaKFnExactDecodeRefs1
import Derived.Test.YthlbjmgoibnopaaKFnExactDecodeRefs2
import Derived.Test.YthlbjmgoibnopaaKFnExactDecodeRefs3
namespace Go.Proofs.Ythlbjmgoibnopaa.Q
open Go.RowKit Go.Proofs.Ythlbjmgoibnopaa.Ext Go.Proofs.YthlbjmgoibnopaaW.PrintWords Go.Proofs.YthlbjmgoibnopaaW.PrintLast Go.Proofs.YthlbjmgoibnopaaW.PrintMore
attribute [local go_sem] max2_int min2_int max_two min_two max_three min_three max_four min_four   -- for this text's walks alone
set_option linter.unusedVariables false
set_option linter.unusedSimpArgs false

set_option linter.unusedVariables false
set_option linter.unusedSimpArgs false
/-! ### OpenI -/
theorem isNumber_eq (n : Int) : impl_isNumber.f n = some (inB n 0 2147483647) := by simp only [impl_isNumber.f, within_eq, Option.bind_some]
theorem all_number (l : List Int) : all173_impl_isNumber.f l () = some (l.all (fun n => inB n 0 2147483647)) := by
  unfold all173_impl_isNumber.f; exact allO_some _ _ (fun x _ => isNumber_eq x)
theorem impl_areInts_eq (l : List Int) : impl_areInts.f l = some (intsOK l) := by
  unfold impl_areInts.f intsOK
  by_cases h : (l.length : Int) ≤ 16
  · rw [if_pos h, all_number]; simp [h]
  · rw [if_neg h]; simp [h]
theorem intsOK_take (l : List Int) : intsOK (l.take 17) = intsOK l := by
  by_cases h : l.length ≤ 16
  · rw [List.take_of_length_le (by omega)]
  · have h1 : intsOK l = false := by simp [intsOK]; intro _; omega
    have h2 : intsOK (l.take 17) = false := by simp [intsOK]; intro _; omega
    rw [h1, h2]
theorem impl_unpack_end (t : ByteArray) (l : List Int) : (if ((t.size : Int) % 4) = 0 then ((impl_areInts.f l).bind fun t529 => (some (l, t529))) else (some (l, false))) = some (l, decide (t.size % 4 = 0) && intsOK l) := by
  by_cases h : t.size % 4 = 0
  · rw [if_pos (by omega), impl_areInts_eq]; simp [h]
  · rw [if_neg (by omega)]; simp [h]
theorem impl_unpack_from (t : ByteArray) (ht : t.size ≤ 1000000000) (d : Nat) : ∀ (k j : Nat), j ≤ 17 → j ≤ t.size / 4 → 17 - j = d → d < k →
    impl_unpack.l0 k t ((numsP t).take j) ((4 * j : Nat) : Int) = some ((numsP t).take 17, decide (t.size % 4 = 0) && intsOK ((numsP t).take 17)) := by
  induction d with
  | zero =>
    intro k j hj hj2 hd hk
    obtain ⟨k, rfl⟩ : ∃ m, k = m + 1 := ⟨k - 1, by omega⟩
    obtain rfl : j = 17 := by omega
    simp only [impl_unpack.l0]
    by_cases h : wrap64 (((4 * 17 : Nat) : Int) + 4) ≤ (t.size : Int)
    · rw [if_pos h, if_neg (by omega)]; exact impl_unpack_end t _
    · rw [if_neg h]; exact impl_unpack_end t _
  | succ d ih =>
    intro k j hj hj2 hd hk
    obtain ⟨k, rfl⟩ : ∃ m, k = m + 1 := ⟨k - 1, by omega⟩
    have hi : 4 * j < 1000000000000 := by omega
    have hlen : ((numsP t).take j).length ≤ t.size / 4 := by rw [List.length_take, numsP_length]; omega
    have e4 : wrap64 (((4 * j : Nat) : Int) + 4) = ((4 * j + 4 : Nat) : Int) := up_to _ hi 4 (by omega)
    have e3 : wrap64 (((4 * j : Nat) : Int) + 3) = ((4 * j + 3 : Nat) : Int) := up_to _ hi 3 (by omega)
    have e2 : wrap64 (((4 * j : Nat) : Int) + 2) = ((4 * j + 2 : Nat) : Int) := up_to _ hi 2 (by omega)
    have e1 : wrap64 (((4 * j : Nat) : Int) + 1) = ((4 * j + 1 : Nat) : Int) := up_to _ hi 1 (by omega)
    simp only [impl_unpack.l0]
    rw [e4, e3, e2, e1]
    by_cases h : 4 * j + 4 ≤ t.size
    · rw [if_pos (by omega), if_pos (by omega), if_pos (by omega), if_pos (by omega), if_pos (by omega), if_pos (by omega), if_pos (by omega), if_pos (by omega), if_pos (by omega), if_pos (by omega), if_pos (by omega)]
      rw [four_down (bt_nn _ _) (bt_lt _ _) (bt_nn _ _) (bt_lt _ _) (bt_nn _ _) (bt_lt _ _) (bt_nn _ _) (bt_lt _ _)]
      have := ih k (j + 1) (by omega) (by omega) (by omega) (by omega)
      rw [numsP_take t j (by omega)] at this
      exact this
    · rw [if_neg (by omega)]
      have e : (numsP t).take j = (numsP t).take 17 := by
        rw [List.take_of_length_le (by rw [numsP_length]; omega), List.take_of_length_le (by rw [numsP_length]; omega)]
      rw [e]; exact impl_unpack_end t _
theorem impl_unpack_ev (t : ByteArray) (ht : t.size ≤ 1000000000) : Ev (fun k => impl_unpack.f k t) ((numsP t).take 17, decide (t.size % 4 = 0) && intsOK (numsP t)) :=
  ⟨18, fun k hk => by have := impl_unpack_from t ht 17 k 0 (by omega) (by omega) (by omega) (by omega); rw [intsOK_take] at this; simpa [impl_unpack.f] using this⟩
def openL (t : ByteArray) : List Int := if t.size < 4 ∨ t.size > 80 ∨ inB (bt t 0) 1 9 = false then [] else (recNums t).take 17
theorem recOK_openL {t : ByteArray} {kind : Int} (h : recOK t kind = true) : openL t = recNums t := by
  obtain ⟨h1, h2, h3, h4, h5, h6⟩ := recOK_iff.1 h
  have hl : (recNums t).length ≤ 16 := by
    simp only [intsOK, Bool.and_eq_true, decide_eq_true_eq] at h5
    omega
  have hs : t.size ≤ 80 := by
    unfold recNums at hl; rw [numsP_length] at hl; rw [ext_size] at hl h4; omega
  unfold openL
  rw [if_neg (by rw [h2]; simp [h3]; omega), List.take_of_length_le (by omega)]
theorem recOK_long {t : ByteArray} {kind : Int} (h : t.size > 80) : recOK t kind = false := by
  refine recOK_no (fun hr => ?_)
  obtain ⟨h1, h2, h3, h4, h5, h6⟩ := hr
  simp only [intsOK, Bool.and_eq_true, decide_eq_true_eq] at h5
  have := h5.2
  unfold recNums at this
  rw [numsP_length] at this; rw [ext_size] at this h4; omega
theorem impl_open_ev (t : ByteArray) (kind : Int) (ht : t.size ≤ 1000000000) : Ev (fun k => impl_open.f k t kind) (openL t, recOK t kind) := by
  unfold impl_open.f impl_opened.f
  have hbad : ∀ (g : Nat → Option (Int × List Int × Bool)), openL t = [] → recOK t kind = false → Ev g (0, [], false) → Ev (fun k => (g k).bind fun bt537 => (if bt537.2.2 = true then (some (bt537.2.1, (bt537.1 == kind))) else (some (bt537.2.1, false)))) (openL t, recOK t kind) := by
    intro g h1 h2 hg
    rw [h1, h2]
    exact ev_bind hg (ev_neg (by simp) (ev_some _))
  by_cases h1 : t.size < 4
  · refine hbad _ (by simp [openL, h1]) (recOK_no (by omega)) (ev_pos (by omega) (Ev.step (f := fun _ => some (0, [], false)) (fun k => by simp [impl_opened.j0]) (ev_some _)))
  · by_cases h2 : t.size > 80
    · refine hbad _ (by simp [openL, h2]) (recOK_long h2) (ev_neg (by omega) (ev_pos (by omega) (Ev.step (f := fun _ => some (0, [], false)) (fun k => by simp [impl_opened.j0]) (ev_some _))))
    · by_cases h3 : inB (bt t 0) 1 9 = true
      · have hL : openL t = (recNums t).take 17 := by unfold openL; rw [if_neg (by simp [h3]; omega)]
        have hO : Ev (fun k => if (t.size : Int) < 4 then impl_opened.j0 k t true else (if (t.size : Int) > 80 then impl_opened.j0 k t true else (if 0 < (t.size : Int) then ((impl_isKind.f (wrap64 (bt t 0))).bind fun t531 => (impl_opened.j0 k t (!t531))) else none))) (bt t 0, openL t, bodyOK t (bt t 0)) := by
          refine ev_neg (by omega) (ev_neg (by omega) (ev_pos (by omega) ?_))
          rw [bt0]
          simp only [impl_isKind.f, within_eq, Option.bind_some, h3, Bool.not_true]
          refine Ev.step (f := fun k => (impl_unpack.f k (t.extract 4 t.size)).bind fun bt532 => (if bt532.2 = true then ((impl_seal.f k (bt t 0) bt532.1).bind fun t536 => (some (bt t 0, bt532.1, (t536.toList == t.toList)))) else (some (bt t 0, bt532.1, false)))) (fun k => ?_) ?_
          · simp only [impl_opened.j0, Bool.false_eq_true, if_false, bt0]; rw [if_pos (by omega)]
            congr 1; funext b; rw [if_pos (by omega)]
          · refine ev_bind (impl_unpack_ev _ (by rw [ext_size]; omega)) ?_
            show Ev (fun n => if (decide ((t.extract 4 t.size).size % 4 = 0) && intsOK (recNums t)) = true then ((impl_seal.f n (bt t 0) ((recNums t).take 17)).bind fun t536 => (some (bt t 0, (recNums t).take 17, (t536.toList == t.toList)))) else some (bt t 0, (recNums t).take 17, false)) _
            rw [hL]
            by_cases h4 : (t.extract 4 t.size).size % 4 = 0 ∧ intsOK (recNums t) = true
            · have hl : (recNums t).length ≤ 16 := by
                have := h4.2
                simp only [intsOK, Bool.and_eq_true, decide_eq_true_eq] at this
                omega
              have ht17 : (recNums t).take 17 = recNums t := List.take_of_length_le (by omega)
              refine ev_pos (by simp only [h4.1, h4.2, decide_true, Bool.and_self]) ?_
              rw [ht17]
              refine ev_bind (impl_seal_ev (bt t 0) _ (by omega)) ?_
              have e : (((sealP (bt t 0) (recNums t)).toList == t.toList) : Bool) = bodyOK t (bt t 0) := by
                rw [Bool.eq_iff_iff, bodyOK_iff]; simp only [beq_iff_eq, toList_inj]
                exact ⟨fun h => ⟨h4.1, h4.2, h⟩, fun h => h.2.2⟩
              rw [e]
              exact ev_some _
            · refine ev_neg (by simp only [Bool.and_eq_true, decide_eq_true_eq]; exact h4) ?_
              have : bodyOK t (bt t 0) = false := by
                cases hb : bodyOK t (bt t 0) with
                | false => rfl
                | true => have := bodyOK_iff.1 hb; exact absurd ⟨this.1, this.2.1⟩ h4
              rw [this]
              exact ev_some _
        refine ev_bind hO ?_
        show Ev (fun n => if bodyOK t (bt t 0) = true then some (openL t, bt t 0 == kind) else some (openL t, false)) _
        by_cases h5 : bodyOK t (bt t 0) = true
        · refine ev_pos h5 ?_
          by_cases h6 : bt t 0 = kind
          · have hr : recOK t kind = true := recOK_iff.2 ⟨by omega, h6, by rw [← h6]; exact h3, by rw [← h6]; exact bodyOK_iff.1 h5⟩
            rw [hr]
            simp only [h6, beq_self_eq_true]
            exact ev_some _
          · rw [recOK_no (fun h => h6 h.2.1)]
            have : (bt t 0 == kind) = false := by simp [h6]
            rw [this]
            exact ev_some _
        · refine ev_neg h5 ?_
          rw [recOK_no (fun h => h5 (bodyOK_iff.2 (by have := h.2.2.2; rw [← h.2.1] at this; exact this)))]
          exact ev_some _
      · have h3' : inB (bt t 0) 1 9 = false := by simpa using h3
        refine hbad _ (by simp [openL, h3']) (recOK_no (fun h => h3 (by have := h.2.2.1; rw [← h.2.1] at this; exact this))) (ev_neg (by omega) (ev_neg (by omega) (ev_pos (by omega) ?_)))
        rw [bt0]
        simp only [impl_isKind.f, within_eq, Option.bind_some, h3', Bool.not_false]
        exact Ev.step (f := fun _ => some (0, [], false)) (fun k => by simp [impl_opened.j0]) (ev_some _)
/-! ### First -/
theorem first1 (b : Bool) (c : Int) : impl_first.f [Any.b b, Any.n c] = some (if b = true then c else 0) := by
  unfold impl_first.f; cases b <;> simp [firstO]
theorem first2 (b b' : Bool) (c c' : Int) : impl_first.f [Any.b b, Any.n c, Any.b b', Any.n c'] = some (if b = true then c else if b' = true then c' else 0) := by
  unfold impl_first.f; cases b <;> cases b' <;> simp [firstO]
theorem first3 (b b' b'' : Bool) (c c' c'' : Int) : impl_first.f [Any.b b, Any.n c, Any.b b', Any.n c', Any.b b'', Any.n c''] = some (if b = true then c else if b' = true then c' else if b'' = true then c'' else 0) := by
  unfold impl_first.f; cases b <;> cases b' <;> cases b'' <;> simp [firstO]
theorem first4 (b b' b'' b3 : Bool) (c c' c'' c3 : Int) : impl_first.f [Any.b b, Any.n c, Any.b b', Any.n c', Any.b b'', Any.n c'', Any.b b3, Any.n c3] = some (if b = true then c else if b' = true then c' else if b'' = true then c'' else if b3 = true then c3 else 0) := by
  unfold impl_first.f; cases b <;> cases b' <;> cases b'' <;> cases b3 <;> simp [firstO]
theorem isLongText_eq (t : ByteArray) : impl_isLongText.f t = some (decide ((t.size : Int) > 65536)) := by unfold impl_isLongText.f; rfl
/-! ### Mark -/
theorem ev_loop {α : Type} {g : Nat → Nat → Option α} {r : α} (n : Nat) (hend : Ev (fun k => g k n) r) (hstep : ∀ i, i < n → ∃ c, ∀ k, g (k + c) i = g k (i + 1) ∧ 1 ≤ c) : ∀ d i, i ≤ n → n - i = d → Ev (fun k => g k i) r := by
  intro d
  induction d with
  | zero =>
    intro i hi hd
    have e : i = n := by omega
    rw [e]; exact hend
  | succ d ih =>
    intro i hi hd
    obtain ⟨K, hK⟩ := ih (i + 1) (by omega) (by omega)
    obtain ⟨c, hc⟩ := hstep i (by omega)
    refine ⟨K + c, fun k hk => ?_⟩
    obtain ⟨m, rfl⟩ : ∃ m, k = m + c := ⟨k - c, by omega⟩
    show g (m + c) i = _
    rw [(hc m).1]; exact hK m (by omega)
theorem rdn (l : List Int) (i : Nat) (h : i < l.length) : rd l (i : Int) = l[i] := by simp [rd, h]
theorem wnext (i : Nat) (h : i < 1000000000000000000) : wrap64 ((i : Int) + 1) = ((i + 1 : Nat) : Int) := by rw [w64 (by omega) (by omega)]; omega
theorem eqIntS_ev (l : List Int) (hl : l.length ≤ 1000000000) : Ev (fun k => laws_eqIntS.f k l l) true := by
  unfold laws_eqIntS.f
  refine ev_pos rfl ?_
  refine ev_loop (g := fun k i => laws_eqIntS.l0 k l l (i : Int)) l.length ?_ ?_ l.length 0 (by omega) (by omega)
  · refine Ev.step (f := fun _ => some true) (fun k => ?_) (ev_some _)
    simp only [laws_eqIntS.l0]; rw [if_neg (by omega)]
  · intro i hi
    refine ⟨1, fun k => ⟨?_, by omega⟩⟩
    simp only [laws_eqIntS.l0]
    rw [if_pos (by omega), if_pos (by omega), if_pos (by omega), if_pos trivial, wnext i (by omega)]
/-- Consecutive numbers from a on, as many as a list has. -/
def countUp (a : Int) (n : Nat) : List Int := (List.range n).map (fun j : Nat => a + (j : Int))
theorem countUp_length (a : Int) (n : Nat) : (countUp a n).length = n := by simp [countUp]
theorem countUp_get (a : Int) (n i : Nat) (h : i < n) : (countUp a n)[i]'(by rw [countUp_length]; exact h) = a + (i : Int) := by simp [countUp]
theorem set_mid {α : Type} (l m : List α) (hlm : m.length = l.length) (i : Nat) (h : i < l.length) (x : α) (hx : m[i]'(by omega) = x) : (m.take i ++ l.drop i).set i x = m.take (i + 1) ++ l.drop (i + 1) := by
  subst hx
  rw [List.drop_eq_getElem_cons h, List.set_append_right _ _ (by rw [List.length_take]; omega)]
  have : i - (m.take i).length = 0 := by rw [List.length_take]; omega
  rw [this, List.set_cons_zero, List.take_succ_eq_append_getElem (by omega), List.append_assoc]
  rfl
theorem markIntS_ev (l : List Int) (a : Int) (ha : 0 ≤ a) (hl : l.length + a ≤ 1000000000000) : Ev (fun k => laws_markIntS.f k l a) (a + (l.length : Int), countUp a l.length) := by
  unfold laws_markIntS.f
  have hc := countUp_length a l.length
  have h := ev_loop (g := fun k i => laws_markIntS.l0 k ((countUp a l.length).take i ++ l.drop i) (a + (i : Int)) (i : Int)) (r := (a + (l.length : Int), countUp a l.length)) l.length ?_ ?_ l.length 0 (by omega) (by omega)
  · simpa using h
  · refine Ev.step (f := fun _ => some (a + (l.length : Int), countUp a l.length)) (fun k => ?_) (ev_some _)
    simp only [laws_markIntS.l0]
    rw [if_neg (by simp; omega), List.drop_of_length_le (by omega), List.take_of_length_le (by omega)]; simp
  · intro i hi
    refine ⟨1, fun k => ⟨?_, by omega⟩⟩
    simp only [laws_markIntS.l0]
    have hlen : ((countUp a l.length).take i ++ l.drop i).length = l.length := by simp [hc]; omega
    rw [if_pos (by rw [hlen]; omega), if_pos (by omega), Int.toNat_natCast, set_mid l _ hc i hi _ (countUp_get a l.length i hi), wnext i (by omega), w64 (by omega) (by omega)]
    rw [show a + (i : Int) + 1 = a + ((i + 1 : Nat) : Int) by omega]
theorem heldIntS_ev (n : Nat) (a : Int) (ha : 0 ≤ a) (hl : n + a ≤ 1000000000000) : Ev (fun k => laws_heldIntS.f k (countUp a n) a) (a + (n : Int)) := by
  unfold laws_heldIntS.f
  have hc := countUp_length a n
  have h := ev_loop (g := fun k i => laws_heldIntS.l0 k (countUp a n) (a + (i : Int)) (i : Int)) (r := a + (n : Int)) n ?_ ?_ n 0 (by omega) (by omega)
  · simpa using h
  · refine Ev.step (f := fun _ => some (a + (n : Int))) (fun k => ?_) (ev_some _)
    simp only [laws_heldIntS.l0]
    rw [if_neg (by omega)]
  · intro i hi
    refine ⟨1, fun k => ⟨?_, by omega⟩⟩
    simp only [laws_heldIntS.l0]
    rw [if_pos (by omega), if_pos (by omega), rdn _ i (by omega), countUp_get a n i hi, if_pos rfl, wnext i (by omega), w64 (by omega) (by omega)]
    rw [show a + (i : Int) + 1 = a + ((i + 1 : Nat) : Int) by omega]
/-! ### RefsD -/
def dv (n : Int) : Int := wrap64 (Int.tdiv n 16)
def six (n : Int) : List Int := [Int.tmod n 16, Int.tmod (dv n) 16, Int.tmod (dv (dv n)) 16, Int.tmod (dv (dv (dv n))) 16, Int.tmod (dv (dv (dv (dv n)))) 16, Int.tmod (dv (dv (dv (dv (dv n))))) 16]
def rest6 (n : Int) : Int := dv (dv (dv (dv (dv (dv n)))))
def fits (n : Int) : Bool := !decide (rest6 n > 0)
def refsP (l : List Int) : List Int × Bool := if l.all fits = true then (l.flatMap six, true) else ([], false)
theorem sx_len (l : List Int) : (l.flatMap six).length = 6 * l.length := by
  induction l with
  | nil => rfl
  | cons x xs ih => simp only [List.flatMap_cons, List.length_append, ih, List.length_cons]; simp [six]; omega
theorem wlit (i : Int) (h0 : 0 ≤ i) (h : i < 100) : wrap64 (i + 1) = i + 1 := by rw [w64 (by omega) (by omega)]
theorem spec_six (l out : List Int) (i : Int) (n : Int) (h : out.length + 6 < 17592186044416) (k : Nat) (hk : 7 ≤ k) :
    spec_l08Decode.l1 k l out i n 0 = if rest6 n > 0 then some ([], false) else spec_l08Decode.l0 (k - 7) l (out ++ six n) (wrap64 (i + 1)) := by
  obtain ⟨k, rfl⟩ : ∃ m, k = m + 7 := ⟨k - 7, by omega⟩
  simp only [spec_l08Decode.l1, wlit 0 (by omega) (by omega), wlit (0 + 1) (by omega) (by omega), wlit (0 + 1 + 1) (by omega) (by omega), wlit (0 + 1 + 1 + 1) (by omega) (by omega), wlit (0 + 1 + 1 + 1 + 1) (by omega) (by omega), wlit (0 + 1 + 1 + 1 + 1 + 1) (by omega) (by omega), List.length_append, List.length_cons, List.length_nil]
  rw [if_pos (by omega), if_pos (by omega), if_pos (by omega), if_pos (by omega), if_pos (by omega), if_pos (by omega), if_pos (by omega), if_pos (by omega), if_pos (by omega), if_pos (by omega), if_pos (by omega), if_pos (by omega), if_neg (by omega)]
  simp only [List.append_assoc, List.cons_append, List.nil_append]
  rfl
theorem impl_six (l out : List Int) (m i : Int) (n : Int) (h : out.length + 6 < 17592186044416) (k : Nat) (hk : 7 ≤ k) :
    impl_refsOf.l1 k out n l m i 0 = if rest6 n > 0 then some ([], false) else impl_refsOf.l0 (k - 7) (out ++ six n) l m (wrap64 (i + 1)) := by
  obtain ⟨k, rfl⟩ : ∃ m, k = m + 7 := ⟨k - 7, by omega⟩
  simp only [impl_refsOf.l1, wlit 0 (by omega) (by omega), wlit (0 + 1) (by omega) (by omega), wlit (0 + 1 + 1) (by omega) (by omega), wlit (0 + 1 + 1 + 1) (by omega) (by omega), wlit (0 + 1 + 1 + 1 + 1) (by omega) (by omega), wlit (0 + 1 + 1 + 1 + 1 + 1) (by omega) (by omega), List.length_append, List.length_cons, List.length_nil]
  rw [if_pos (by omega), if_pos (by omega), if_pos (by omega), if_pos (by omega), if_pos (by omega), if_pos (by omega), if_pos (by omega), if_pos (by omega), if_pos (by omega), if_pos (by omega), if_pos (by omega), if_pos (by omega), if_neg (by omega)]
  simp only [List.append_assoc, List.cons_append, List.nil_append]
  rfl
theorem spec_refs_from (l : List Int) (hl : l.length ≤ 1000000) (d : Nat) : ∀ (i : Nat), i ≤ l.length → l.length - i = d → (l.take i).all fits = true →
    Ev (fun k => spec_l08Decode.l0 k l ((l.take i).flatMap six) (i : Int)) (refsP l) := by
  induction d with
  | zero =>
    intro i hi hd ha
    have e : l.take i = l := List.take_of_length_le (by omega)
    rw [e] at ha ⊢
    refine Ev.step (f := fun _ => some (l.flatMap six, true)) (fun k => ?_) ?_
    · simp only [spec_l08Decode.l0]; rw [if_neg (by omega)]
    · unfold refsP; rw [if_pos ha]; exact ev_some _
  | succ d ih =>
    intro i hi hd ha
    have hlt : i < l.length := by omega
    have hs := sx_len (l.take i)
    have hti : (l.take i).length = i := by rw [List.length_take]; omega
    have hk : ∀ k, 8 ≤ k → spec_l08Decode.l0 k l ((l.take i).flatMap six) (i : Int) = if rest6 l[i] > 0 then some ([], false) else spec_l08Decode.l0 (k - 8) l ((l.take (i + 1)).flatMap six) ((i + 1 : Nat) : Int) := by
      intro k hk
      obtain ⟨k, rfl⟩ : ∃ m, k = m + 1 := ⟨k - 1, by omega⟩
      simp only [spec_l08Decode.l0]
      rw [if_pos (by omega), if_pos (by omega), spec_six _ _ _ _ (by omega) _ (by omega), rdn l i hlt, wnext i (by omega), List.take_succ_eq_append_getElem hlt, List.flatMap_append]
      simp
    by_cases hf : rest6 l[i] > 0
    · have : refsP l = ([], false) := by
        unfold refsP; rw [if_neg]; intro h
        have := List.all_eq_true.1 h l[i] (List.getElem_mem hlt)
        simp [fits] at this; omega
      rw [this]
      exact ⟨8, fun k h8 => by show spec_l08Decode.l0 k l _ _ = _; rw [hk k h8, if_pos hf]⟩
    · obtain ⟨K, hK⟩ := ih (i + 1) (by omega) (by omega) (by rw [List.take_succ_eq_append_getElem hlt, List.all_append, ha]; simp [fits]; omega)
      refine ⟨K + 8, fun k h8 => ?_⟩
      show spec_l08Decode.l0 k l _ _ = _
      rw [hk k (by omega), if_neg hf]; exact hK (k - 8) (by omega)
theorem impl_refs_from (l : List Int) (hl : l.length ≤ 1000000) (d : Nat) : ∀ (i : Nat), i ≤ l.length → l.length - i = d → (l.take i).all fits = true →
    Ev (fun k => impl_refsOf.l0 k ((l.take i).flatMap six) l (l.length : Int) (i : Int)) (refsP l) := by
  induction d with
  | zero =>
    intro i hi hd ha
    have e : l.take i = l := List.take_of_length_le (by omega)
    rw [e] at ha ⊢
    refine Ev.step (f := fun _ => some (l.flatMap six, true)) (fun k => ?_) ?_
    · simp only [impl_refsOf.l0]; rw [if_neg (by omega)]
    · unfold refsP; rw [if_pos ha]; exact ev_some _
  | succ d ih =>
    intro i hi hd ha
    have hlt : i < l.length := by omega
    have hs := sx_len (l.take i)
    have hti : (l.take i).length = i := by rw [List.length_take]; omega
    have hk : ∀ k, 8 ≤ k → impl_refsOf.l0 k ((l.take i).flatMap six) l (l.length : Int) (i : Int) = if rest6 l[i] > 0 then some ([], false) else impl_refsOf.l0 (k - 8) ((l.take (i + 1)).flatMap six) l (l.length : Int) ((i + 1 : Nat) : Int) := by
      intro k hk
      obtain ⟨k, rfl⟩ : ∃ m, k = m + 1 := ⟨k - 1, by omega⟩
      simp only [impl_refsOf.l0]
      rw [if_pos (by omega), if_pos (by omega), if_pos (by omega), impl_six _ _ _ _ _ (by omega) _ (by omega), rdn l i hlt, wnext i (by omega), List.take_succ_eq_append_getElem hlt, List.flatMap_append]
      simp
    by_cases hf : rest6 l[i] > 0
    · have : refsP l = ([], false) := by
        unfold refsP; rw [if_neg]; intro h
        have := List.all_eq_true.1 h l[i] (List.getElem_mem hlt)
        simp [fits] at this; omega
      rw [this]
      exact ⟨8, fun k h8 => by show impl_refsOf.l0 k _ _ _ _ = _; rw [hk k h8, if_pos hf]⟩
    · obtain ⟨K, hK⟩ := ih (i + 1) (by omega) (by omega) (by rw [List.take_succ_eq_append_getElem hlt, List.all_append, ha]; simp [fits]; omega)
      refine ⟨K + 8, fun k h8 => ?_⟩
      show impl_refsOf.l0 k _ _ _ _ = _
      rw [hk k (by omega), if_neg hf]; exact hK (k - 8) (by omega)
def refsAt (t : ByteArray) : List Int × Bool := if recOK t 2 = true ∧ (recNums t).length = 4 then refsP (recNums t) else ([], false)
theorem spec_l08Decode_ev (t : ByteArray) (ht : t.size ≤ 1000000000) : Ev (fun k => spec_l08Decode.f k t) (refsAt t) := by
  unfold spec_l08Decode.f refsAt
  refine ev_bind (spec_open_ev t 2 ht) ?_
  by_cases h1 : recOK t 2 = true
  · simp only [h1, if_true]
    by_cases h2 : (recNums t).length = 4
    · have e : (((recNums t).length : Int) != 4) = false := by simp [h2]
      rw [if_pos ⟨trivial, h2⟩]
      simp only [e]
      refine Ev.step (f := fun k => spec_l08Decode.l0 k (recNums t) ([] : List Int) 0) (fun k => by simp only [spec_l08Decode.j0, Bool.false_eq_true, if_false]) ?_
      have := spec_refs_from (recNums t) (by omega) 4 0 (by omega) (by omega) (by simp)
      simpa using this
    · have e : (((recNums t).length : Int) != 4) = true := by simp; omega
      rw [if_neg (fun h => h2 h.2)]
      simp only [e]
      exact Ev.step (f := fun _ => some ([], false)) (fun k => by simp [spec_l08Decode.j0]) (ev_some _)
  · have hr : (if recOK t 2 = true ∧ (recNums t).length = 4 then refsP (recNums t) else (([] : List Int), false)) = ([], false) := if_neg (fun h => h1 h.1)
    rw [hr]
    simp only [if_neg h1, Bool.false_eq_true, if_false]
    exact Ev.step (f := fun _ => some ([], false)) (fun k => by simp [spec_l08Decode.j0]) (ev_some _)
theorem impl_refsOf_ev (t : ByteArray) (ht : t.size ≤ 1000000000) : Ev (fun k => impl_refsOf.f k t) (refsAt t) := by
  unfold impl_refsOf.f refsAt
  refine ev_bind (impl_open_ev t 2 ht) ?_
  by_cases h1 : recOK t 2 = true
  · simp only [h1, if_true, recOK_openL h1]
    by_cases h2 : (recNums t).length = 4
    · have e : (((recNums t).length : Int) != 4) = false := by simp [h2]
      rw [if_pos ⟨trivial, h2⟩]
      simp only [e]
      refine Ev.step (f := fun k => impl_refsOf.l0 k ([] : List Int) (recNums t) ((recNums t).length : Int) 0) (fun k => by simp only [impl_refsOf.j0, Bool.false_eq_true, if_false]) ?_
      have := impl_refs_from (recNums t) (by omega) 4 0 (by omega) (by omega) (by simp)
      simpa using this
    · have e : (((recNums t).length : Int) != 4) = true := by simp; omega
      rw [if_neg (fun h => h2 h.2)]
      simp only [e]
      exact Ev.step (f := fun _ => some ([], false)) (fun k => by simp [impl_refsOf.j0]) (ev_some _)
  · have h1' : recOK t 2 = false := by simpa using h1
    rw [if_neg (fun h => h1 h.1)]
    simp only [h1', Bool.false_eq_true, if_false]
    exact Ev.step (f := fun _ => some ([], false)) (fun k => by simp [impl_refsOf.j0]) (ev_some _)
theorem refsAt_len (t : ByteArray) : (refsAt t).1.length ≤ 24 := by
  unfold refsAt refsP
  split
  · rename_i h
    split
    · show ((recNums t).flatMap six).length ≤ 24; rw [sx_len]; omega
    · simp
  · simp
end Go.Proofs.Ythlbjmgoibnopaa.Q
