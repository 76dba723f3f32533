/- What laws.FnExactDecodeLeader reaches, part 6: the functions as Lean functions, the proofs that the program's functions answer so, and plain laws about them. -/
import Derived.Test.YthlbjmgoibnopaaKFnExactDecodeLeader1
import Derived.Test.YthlbjmgoibnopaaKFnExactDecodeLeader2
import Derived.Test.YthlbjmgoibnopaaKFnExactDecodeLeader3
import Derived.Test.YthlbjmgoibnopaaKFnExactDecodeLeader4
import Derived.Test.YthlbjmgoibnopaaKFnExactDecodeLeader5
namespace Go.Proofs.Ythlbjmgoibnopaa.Q
open Go.RowKit Go.Proofs.Ythlbjmgoibnopaa.Ext Go.Proofs.YthlbjmgoibnopaaW.PrintWords Go.Proofs.YthlbjmgoibnopaaW.PrintLast Go.Proofs.YthlbjmgoibnopaaW.PrintMore
attribute [local go_sem] max2_int min2_int max_two min_two max_three min_three max_four min_four   -- for this text's walks alone
set_option linter.unusedVariables false
set_option linter.unusedSimpArgs false

set_option linter.unusedVariables false
set_option linter.unusedSimpArgs false
/-! ### OpenI -/
theorem isNumber_eq (n : Int) : impl_isNumber.f n = some (inB n 0 2147483647) := by simp only [impl_isNumber.f, within_eq, Option.bind_some]
theorem all_number (l : List Int) : all173_impl_isNumber.f l () = some (l.all (fun n => inB n 0 2147483647)) := by
  unfold all173_impl_isNumber.f; exact allO_some _ _ (fun x _ => isNumber_eq x)
theorem impl_areInts_eq (l : List Int) : impl_areInts.f l = some (intsOK l) := by
  unfold impl_areInts.f intsOK
  by_cases h : (l.length : Int) ≤ 16
  · rw [if_pos h, all_number]; simp [h]
  · rw [if_neg h]; simp [h]
theorem intsOK_take (l : List Int) : intsOK (l.take 17) = intsOK l := by
  by_cases h : l.length ≤ 16
  · rw [List.take_of_length_le (by omega)]
  · have h1 : intsOK l = false := by simp [intsOK]; intro _; omega
    have h2 : intsOK (l.take 17) = false := by simp [intsOK]; intro _; omega
    rw [h1, h2]
theorem impl_unpack_end (t : ByteArray) (l : List Int) : (if ((t.size : Int) % 4) = 0 then ((impl_areInts.f l).bind fun t529 => (some (l, t529))) else (some (l, false))) = some (l, decide (t.size % 4 = 0) && intsOK l) := by
  by_cases h : t.size % 4 = 0
  · rw [if_pos (by omega), impl_areInts_eq]; simp [h]
  · rw [if_neg (by omega)]; simp [h]
theorem impl_unpack_from (t : ByteArray) (ht : t.size ≤ 1000000000) (d : Nat) : ∀ (k j : Nat), j ≤ 17 → j ≤ t.size / 4 → 17 - j = d → d < k →
    impl_unpack.l0 k t ((numsP t).take j) ((4 * j : Nat) : Int) = some ((numsP t).take 17, decide (t.size % 4 = 0) && intsOK ((numsP t).take 17)) := by
  induction d with
  | zero =>
    intro k j hj hj2 hd hk
    obtain ⟨k, rfl⟩ : ∃ m, k = m + 1 := ⟨k - 1, by omega⟩
    obtain rfl : j = 17 := by omega
    simp only [impl_unpack.l0]
    by_cases h : wrap64 (((4 * 17 : Nat) : Int) + 4) ≤ (t.size : Int)
    · rw [if_pos h, if_neg (by omega)]; exact impl_unpack_end t _
    · rw [if_neg h]; exact impl_unpack_end t _
  | succ d ih =>
    intro k j hj hj2 hd hk
    obtain ⟨k, rfl⟩ : ∃ m, k = m + 1 := ⟨k - 1, by omega⟩
    have hi : 4 * j < 1000000000000 := by omega
    have hlen : ((numsP t).take j).length ≤ t.size / 4 := by rw [List.length_take, numsP_length]; omega
    have e4 : wrap64 (((4 * j : Nat) : Int) + 4) = ((4 * j + 4 : Nat) : Int) := up_to _ hi 4 (by omega)
    have e3 : wrap64 (((4 * j : Nat) : Int) + 3) = ((4 * j + 3 : Nat) : Int) := up_to _ hi 3 (by omega)
    have e2 : wrap64 (((4 * j : Nat) : Int) + 2) = ((4 * j + 2 : Nat) : Int) := up_to _ hi 2 (by omega)
    have e1 : wrap64 (((4 * j : Nat) : Int) + 1) = ((4 * j + 1 : Nat) : Int) := up_to _ hi 1 (by omega)
    simp only [impl_unpack.l0]
    rw [e4, e3, e2, e1]
    by_cases h : 4 * j + 4 ≤ t.size
    · rw [if_pos (by omega), if_pos (by omega), if_pos (by omega), if_pos (by omega), if_pos (by omega), if_pos (by omega), if_pos (by omega), if_pos (by omega), if_pos (by omega), if_pos (by omega), if_pos (by omega)]
      rw [four_down (bt_nn _ _) (bt_lt _ _) (bt_nn _ _) (bt_lt _ _) (bt_nn _ _) (bt_lt _ _) (bt_nn _ _) (bt_lt _ _)]
      have := ih k (j + 1) (by omega) (by omega) (by omega) (by omega)
      rw [numsP_take t j (by omega)] at this
      exact this
    · rw [if_neg (by omega)]
      have e : (numsP t).take j = (numsP t).take 17 := by
        rw [List.take_of_length_le (by rw [numsP_length]; omega), List.take_of_length_le (by rw [numsP_length]; omega)]
      rw [e]; exact impl_unpack_end t _
theorem impl_unpack_ev (t : ByteArray) (ht : t.size ≤ 1000000000) : Ev (fun k => impl_unpack.f k t) ((numsP t).take 17, decide (t.size % 4 = 0) && intsOK (numsP t)) :=
  ⟨18, fun k hk => by have := impl_unpack_from t ht 17 k 0 (by omega) (by omega) (by omega) (by omega); rw [intsOK_take] at this; simpa [impl_unpack.f] using this⟩
def openL (t : ByteArray) : List Int := if t.size < 4 ∨ t.size > 80 ∨ inB (bt t 0) 1 9 = false then [] else (recNums t).take 17
theorem recOK_openL {t : ByteArray} {kind : Int} (h : recOK t kind = true) : openL t = recNums t := by
  obtain ⟨h1, h2, h3, h4, h5, h6⟩ := recOK_iff.1 h
  have hl : (recNums t).length ≤ 16 := by
    simp only [intsOK, Bool.and_eq_true, decide_eq_true_eq] at h5
    omega
  have hs : t.size ≤ 80 := by
    unfold recNums at hl; rw [numsP_length] at hl; rw [ext_size] at hl h4; omega
  unfold openL
  rw [if_neg (by rw [h2]; simp [h3]; omega), List.take_of_length_le (by omega)]
theorem recOK_long {t : ByteArray} {kind : Int} (h : t.size > 80) : recOK t kind = false := by
  refine recOK_no (fun hr => ?_)
  obtain ⟨h1, h2, h3, h4, h5, h6⟩ := hr
  simp only [intsOK, Bool.and_eq_true, decide_eq_true_eq] at h5
  have := h5.2
  unfold recNums at this
  rw [numsP_length] at this; rw [ext_size] at this h4; omega
theorem impl_open_ev (t : ByteArray) (kind : Int) (ht : t.size ≤ 1000000000) : Ev (fun k => impl_open.f k t kind) (openL t, recOK t kind) := by
  unfold impl_open.f impl_opened.f
  have hbad : ∀ (g : Nat → Option (Int × List Int × Bool)), openL t = [] → recOK t kind = false → Ev g (0, [], false) → Ev (fun k => (g k).bind fun bt537 => (if bt537.2.2 = true then (some (bt537.2.1, (bt537.1 == kind))) else (some (bt537.2.1, false)))) (openL t, recOK t kind) := by
    intro g h1 h2 hg
    rw [h1, h2]
    exact ev_bind hg (ev_neg (by simp) (ev_some _))
  by_cases h1 : t.size < 4
  · refine hbad _ (by simp [openL, h1]) (recOK_no (by omega)) (ev_pos (by omega) (Ev.step (f := fun _ => some (0, [], false)) (fun k => by simp [impl_opened.j0]) (ev_some _)))
  · by_cases h2 : t.size > 80
    · refine hbad _ (by simp [openL, h2]) (recOK_long h2) (ev_neg (by omega) (ev_pos (by omega) (Ev.step (f := fun _ => some (0, [], false)) (fun k => by simp [impl_opened.j0]) (ev_some _))))
    · by_cases h3 : inB (bt t 0) 1 9 = true
      · have hL : openL t = (recNums t).take 17 := by unfold openL; rw [if_neg (by simp [h3]; omega)]
        have hO : Ev (fun k => if (t.size : Int) < 4 then impl_opened.j0 k t true else (if (t.size : Int) > 80 then impl_opened.j0 k t true else (if 0 < (t.size : Int) then ((impl_isKind.f (wrap64 (bt t 0))).bind fun t531 => (impl_opened.j0 k t (!t531))) else none))) (bt t 0, openL t, bodyOK t (bt t 0)) := by
          refine ev_neg (by omega) (ev_neg (by omega) (ev_pos (by omega) ?_))
          rw [bt0]
          simp only [impl_isKind.f, within_eq, Option.bind_some, h3, Bool.not_true]
          refine Ev.step (f := fun k => (impl_unpack.f k (t.extract 4 t.size)).bind fun bt532 => (if bt532.2 = true then ((impl_seal.f k (bt t 0) bt532.1).bind fun t536 => (some (bt t 0, bt532.1, (t536.toList == t.toList)))) else (some (bt t 0, bt532.1, false)))) (fun k => ?_) ?_
          · simp only [impl_opened.j0, Bool.false_eq_true, if_false, bt0]; rw [if_pos (by omega)]
            congr 1; funext b; rw [if_pos (by omega)]
          · refine ev_bind (impl_unpack_ev _ (by rw [ext_size]; omega)) ?_
            show Ev (fun n => if (decide ((t.extract 4 t.size).size % 4 = 0) && intsOK (recNums t)) = true then ((impl_seal.f n (bt t 0) ((recNums t).take 17)).bind fun t536 => (some (bt t 0, (recNums t).take 17, (t536.toList == t.toList)))) else some (bt t 0, (recNums t).take 17, false)) _
            rw [hL]
            by_cases h4 : (t.extract 4 t.size).size % 4 = 0 ∧ intsOK (recNums t) = true
            · have hl : (recNums t).length ≤ 16 := by
                have := h4.2
                simp only [intsOK, Bool.and_eq_true, decide_eq_true_eq] at this
                omega
              have ht17 : (recNums t).take 17 = recNums t := List.take_of_length_le (by omega)
              refine ev_pos (by simp only [h4.1, h4.2, decide_true, Bool.and_self]) ?_
              rw [ht17]
              refine ev_bind (impl_seal_ev (bt t 0) _ (by omega)) ?_
              have e : (((sealP (bt t 0) (recNums t)).toList == t.toList) : Bool) = bodyOK t (bt t 0) := by
                rw [Bool.eq_iff_iff, bodyOK_iff]; simp only [beq_iff_eq, toList_inj]
                exact ⟨fun h => ⟨h4.1, h4.2, h⟩, fun h => h.2.2⟩
              rw [e]
              exact ev_some _
            · refine ev_neg (by simp only [Bool.and_eq_true, decide_eq_true_eq]; exact h4) ?_
              have : bodyOK t (bt t 0) = false := by
                cases hb : bodyOK t (bt t 0) with
                | false => rfl
                | true => have := bodyOK_iff.1 hb; exact absurd ⟨this.1, this.2.1⟩ h4
              rw [this]
              exact ev_some _
        refine ev_bind hO ?_
        show Ev (fun n => if bodyOK t (bt t 0) = true then some (openL t, bt t 0 == kind) else some (openL t, false)) _
        by_cases h5 : bodyOK t (bt t 0) = true
        · refine ev_pos h5 ?_
          by_cases h6 : bt t 0 = kind
          · have hr : recOK t kind = true := recOK_iff.2 ⟨by omega, h6, by rw [← h6]; exact h3, by rw [← h6]; exact bodyOK_iff.1 h5⟩
            rw [hr]
            simp only [h6, beq_self_eq_true]
            exact ev_some _
          · rw [recOK_no (fun h => h6 h.2.1)]
            have : (bt t 0 == kind) = false := by simp [h6]
            rw [this]
            exact ev_some _
        · refine ev_neg h5 ?_
          rw [recOK_no (fun h => h5 (bodyOK_iff.2 (by have := h.2.2.2; rw [← h.2.1] at this; exact this)))]
          exact ev_some _
      · have h3' : inB (bt t 0) 1 9 = false := by simpa using h3
        refine hbad _ (by simp [openL, h3']) (recOK_no (fun h => h3 (by have := h.2.2.1; rw [← h.2.1] at this; exact this))) (ev_neg (by omega) (ev_neg (by omega) (ev_pos (by omega) ?_)))
        rw [bt0]
        simp only [impl_isKind.f, within_eq, Option.bind_some, h3', Bool.not_false]
        exact Ev.step (f := fun _ => some (0, [], false)) (fun k => by simp [impl_opened.j0]) (ev_some _)
/-! ### Leader -/
def leaderOK (a b c : Int) : Bool := inB a 0 1000000 && ((b == -1 && c == 0) || (decide (a > 0) && (inB b 0 3 && inB c 1 1000000)))
theorem spec_LeaderOK_eq (a b c : Int) : spec_LeaderOK.f a b c = some (leaderOK a b c) := by
  simp only [spec_LeaderOK.f, spec_l04Host.f, l01In_eq, Option.bind_some]
  refine and_opt ?_
  by_cases h1 : b = -1 <;> by_cases h2 : c = 0 <;> by_cases h3 : a > 0 <;> cases h4 : inB b 0 3 <;> cases h5 : inB c 1 1000000 <;> simp [h1, h2, h3]
theorem impl_LeaderOK_eq (a b c : Int) : impl_LeaderOK.f a b c = some (leaderOK a b c) := by
  simp only [impl_LeaderOK.f, impl_isVer.f, impl_nobody.f, impl_isHost.f, impl_isGen.f, within_eq, Option.bind_some]
  refine and_opt ?_
  by_cases h1 : b = -1 <;> by_cases h2 : c = 0 <;> by_cases h3 : a > 0 <;> cases h4 : inB b 0 3 <;> cases h5 : inB c 1 1000000 <;> simp [h1, h2, h3]
/-! ### LeaderD -/
def isLeader (t : ByteArray) : Bool := recOK t 6 && (decide ((recNums t).length = 3) && leaderOK (rd (recNums t) 0) (wrap64 (rd (recNums t) 1 - 1)) (rd (recNums t) 2))
def leaderAt (z : Int) (t : ByteArray) : Int × Int × Int × Bool := if isLeader t = true then (rd (recNums t) 0, wrap64 (rd (recNums t) 1 - 1), rd (recNums t) 2, true) else (0, z, 0, false)
theorem spec_l06Decode_ev (t : ByteArray) (ht : t.size ≤ 1000000000) : Ev (fun k => spec_l06Decode.f k t) (leaderAt (-1) t) := by
  unfold spec_l06Decode.f
  refine ev_bind (spec_open_ev t 6 ht) ?_
  unfold leaderAt isLeader
  by_cases h1 : recOK t 6 = true
  · simp only [h1, if_true, Bool.true_and]
    by_cases h2 : (recNums t).length = 3
    · have e : (((recNums t).length : Int) != 3) = false := by simp [h2]
      simp only [e, decide_eq_true h2, Bool.true_and]
      refine Ev.step (f := fun _ => if leaderOK (rd (recNums t) 0) (wrap64 (rd (recNums t) 1 - 1)) (rd (recNums t) 2) = true then some (rd (recNums t) 0, wrap64 (rd (recNums t) 1 - 1), rd (recNums t) 2, true) else some (0, (-1), 0, false)) (fun k => ?_) ?_
      · simp only [spec_l06Decode.j0, Bool.false_eq_true, if_false, spec_LeaderOK_eq, Option.bind_some]
        rw [if_pos (by omega), if_pos (by omega), if_pos (by omega)]
      · cases leaderOK (rd (recNums t) 0) (wrap64 (rd (recNums t) 1 - 1)) (rd (recNums t) 2)
        · exact ev_some _
        · exact ev_some _
    · have e : (((recNums t).length : Int) != 3) = true := by simp; omega
      simp only [e, decide_eq_false h2, Bool.false_and, Bool.false_eq_true, if_false]
      exact Ev.step (f := fun _ => some (0, (-1), 0, false)) (fun k => by simp [spec_l06Decode.j0]) (ev_some _)
  · have h1' : recOK t 6 = false := by simpa using h1
    simp only [h1', Bool.false_and, Bool.false_eq_true, if_false]
    exact Ev.step (f := fun _ => some (0, (-1), 0, false)) (fun k => by simp [spec_l06Decode.j0]) (ev_some _)
theorem impl_leaderOf_ev (t : ByteArray) (ht : t.size ≤ 1000000000) : Ev (fun k => impl_leaderOf.f k t) (leaderAt 0 t) := by
  unfold impl_leaderOf.f
  refine ev_bind (impl_open_ev t 6 ht) ?_
  unfold leaderAt isLeader
  by_cases h1 : recOK t 6 = true
  · simp only [h1, if_true, Bool.true_and, recOK_openL h1]
    by_cases h2 : (recNums t).length = 3
    · refine ev_pos (by omega) (ev_pos (by omega) (ev_pos (by omega) (ev_pos (by omega) ?_)))
      simp only [decide_eq_true h2, Bool.true_and, impl_LeaderOK_eq, Option.bind_some]
      cases leaderOK (rd (recNums t) 0) (wrap64 (rd (recNums t) 1 - 1)) (rd (recNums t) 2)
      · exact ev_some _
      · exact ev_some _
    · simp only [decide_eq_false h2, Bool.false_and, Bool.false_eq_true, if_false]
      exact ev_neg (by omega) (ev_some _)
  · have h1' : recOK t 6 = false := by simpa using h1
    simp only [h1', Bool.false_and, Bool.false_eq_true, if_false]
    exact ev_some _
/-! ### LeaderE -/
def decLeader (t : ByteArray) : Int × Int × Int × Int := if (t.size : Int) > 65536 then (0, 0, 0, 2) else if isLeader t = true then (rd (recNums t) 0, wrap64 (rd (recNums t) 1 - 1), rd (recNums t) 2, 0) else (0, 0, 0, 3)
theorem spec_DecodeLeader_ev (t : ByteArray) (ht : t.size ≤ 1048576) : Ev (fun k => spec_DecodeLeader.f k t) (decLeader t) := by
  unfold spec_DecodeLeader.f decLeader
  by_cases h1 : (t.size : Int) > 65536
  · rw [if_pos h1]; exact ev_pos h1 (ev_some _)
  · rw [if_neg h1]
    refine ev_neg h1 (ev_bind (spec_l06Decode_ev t (by omega)) ?_)
    unfold leaderAt
    cases h2 : isLeader t
    · exact ev_some _
    · exact ev_some _
theorem impl_DecodeLeader_ev (t : ByteArray) (ht : t.size ≤ 1048576) : Ev (fun k => impl_DecodeLeader.f k t) (decLeader t) := by
  unfold impl_DecodeLeader.f decLeader
  refine ev_bind (impl_leaderOf_ev t (by omega)) ?_
  simp only [isLongText_eq, Option.bind_some, first2]
  unfold leaderAt
  by_cases h1 : (t.size : Int) > 65536
  · simp only [h1, decide_true, if_true]
    exact ev_neg (by omega) (ev_some _)
  · simp only [h1, decide_false, Bool.false_eq_true, if_false]
    cases h2 : isLeader t
    · exact ev_some _
    · exact ev_some _
end Go.Proofs.Ythlbjmgoibnopaa.Q
