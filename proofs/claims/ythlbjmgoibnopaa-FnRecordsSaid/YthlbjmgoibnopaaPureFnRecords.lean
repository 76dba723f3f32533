/- laws.FnRecords answers true, for every input within the bounds that any input that came in has. -/
import Derived.Test.YthlbjmgoibnopaaStFnRecords
namespace Go.Proofs.Ythlbjmgoibnopaa.Q.FnRecords
open Go.RowKit Go.Proofs.Ythlbjmgoibnopaa.Ext Go.Proofs.Ythlbjmgoibnopaa.Q Go.Proofs.YthlbjmgoibnopaaW.PrintWords Go.Proofs.YthlbjmgoibnopaaW.PrintLast Go.Proofs.YthlbjmgoibnopaaW.PrintMore
set_option linter.unusedVariables false
set_option linter.unusedSimpArgs false
theorem number_ok (l : List Int) (h : ∀ x ∈ l, 0 ≤ x ∧ x ≤ 255) (at_ seed : Int) (n : Nat) (hs : srcOK at_ seed n) (hn : n ≤ 10000000000) :
    ∃ r a s, spec_l00Src_number.f l at_ seed = some (r, a, s) ∧ 0 ≤ r ∧ r ≤ 2147483647 ∧ srcOK a s (n + 9) := by
  unfold spec_l00Src_number.f
  obtain ⟨x, a1, s1, e1, x0, -, x1, o1⟩ := next_ok l h _ _ _ hs (by omega) 9
  rw [e1]; simp only [Option.bind_some]
  obtain ⟨y, a2, s2, e2, y0, -, y1, o2⟩ := next_ok l h _ _ _ o1 (by omega) 70000
  rw [e2]; simp only [Option.bind_some]
  obtain ⟨i, a3, s3, e3, i0, -, i1, o3⟩ := next_ok l h _ _ _ o2 (by omega) 9
  rw [e3]; simp only [Option.bind_some]
  have x1' := x1 (by omega)
  have y1' := y1 (by omega)
  have i1' := i1 (by omega)
  have ei : wrap64 (Int.tdiv i 4) = i / 4 := by rw [Int.tdiv_eq_ediv_of_nonneg i0]; exact w64 (by omega) (by omega)
  rw [ei]
  rw [if_pos (by omega), if_pos (by simp; omega)]
  have hv : 0 ≤ rd ([x, y, 2147483647] : List Int) (i / 4) ∧ rd ([x, y, 2147483647] : List Int) (i / 4) ≤ 2147483647 := by
    have : i / 4 = 0 ∨ i / 4 = 1 ∨ i / 4 = 2 := by omega
    rcases this with e | e | e <;> rw [e]
    · exact ⟨by show (0 : Int) ≤ x; omega, by show x ≤ (2147483647 : Int); omega⟩
    · exact ⟨by show (0 : Int) ≤ y; omega, by show y ≤ (2147483647 : Int); omega⟩
    · exact ⟨by show (0 : Int) ≤ 2147483647; omega, by show (2147483647 : Int) ≤ 2147483647; omega⟩
  exact ⟨_, _, _, rfl, hv.1, hv.2, o3⟩
theorem numbers_from (l : List Int) (h : ∀ x ∈ l, 0 ≤ x ∧ x ≤ 255) : ∀ (d : Nat) (out : List Int) (at_ seed : Int) (n : Nat), out.length + d ≤ 100 → n + 9 * d ≤ 10000000000 → (∀ x ∈ out, 0 ≤ x ∧ x ≤ 2147483647) → srcOK at_ seed n → ∃ r a s, Ev (fun k => spec_l00Src_numbers.l0 k out (d : Int) l at_ seed) (r, a, s) ∧ r.length = out.length + d ∧ ∀ x ∈ r, 0 ≤ x ∧ x ≤ 2147483647 := by
  intro d
  induction d with
  | zero =>
    intro out at_ seed n hl hn ho hs
    refine ⟨out, at_, seed, Ev.step (f := fun _ => some (out, at_, seed)) (fun k => ?_) (ev_some _), rfl, ho⟩
    simp only [spec_l00Src_numbers.l0]; rw [if_neg (by omega)]
  | succ d ih =>
    intro out at_ seed n hl hn ho hs
    obtain ⟨r, a, s, e, r0, r1, o⟩ := number_ok l h at_ seed n hs (by omega)
    obtain ⟨r', a', s', e', hl', ho'⟩ := ih (out ++ [r]) a s (n + 9) (by simp; omega) (by omega) (by
      intro x hx
      rcases List.mem_append.1 hx with hx | hx
      · exact ho x hx
      · rw [List.mem_singleton.1 hx]; exact ⟨r0, r1⟩) o
    refine ⟨r', a', s', Ev.step (f := fun k => spec_l00Src_numbers.l0 k (out ++ [r]) (d : Int) l a s) (fun k => ?_) e', by rw [hl']; simp; omega, ho'⟩
    simp only [spec_l00Src_numbers.l0]
    rw [if_pos (by omega), e, Option.bind_some, if_pos (by omega), w64 (by omega) (by omega), show ((d + 1 : Nat) : Int) - 1 = (d : Int) by omega]
theorem numbers_ok (l : List Int) (h : ∀ x ∈ l, 0 ≤ x ∧ x ≤ 255) : ∃ r, Ev (fun k => spec_NumbersOf.f k l) r ∧ r.length ≤ 6 ∧ ∀ x ∈ r, 0 ≤ x ∧ x ≤ 2147483647 := by
  unfold spec_NumbersOf.f spec_l00Source.f spec_l00Src_numbers.f
  simp only [Option.bind_some]
  obtain ⟨m, a1, s1, e1, m0, -, m1, o1⟩ := next_ok l h _ _ _ (source_ok l) (by omega) 7
  rw [e1]; simp only [Option.bind_some]
  have m1' := m1 (by omega)
  obtain ⟨r, a, s, e, hl, hr⟩ := numbers_from l h m.toNat [] a1 s1 3 (by simp; omega) (by omega) (by simp) o1
  rw [show ((m.toNat : Nat) : Int) = m by omega] at e
  refine ⟨r, ev_bind e (ev_some _), by rw [hl]; simp; omega, hr⟩
theorem sameInts_ev (l : List Int) (hl : l.length ≤ 1000000000) : Ev (fun k => laws_sameInts.f k l l) true := by
  unfold laws_sameInts.f
  refine ev_pos rfl ?_
  refine ev_loop (g := fun k i => laws_sameInts.l0 k l l (i : Int)) l.length ?_ ?_ l.length 0 (by omega) (by omega)
  · refine Ev.step (f := fun _ => some true) (fun k => ?_) (ev_some _)
    simp only [laws_sameInts.l0]; rw [if_neg (by omega)]
  · intro i hi
    refine ⟨1, fun k => ⟨?_, by omega⟩⟩
    simp only [laws_sameInts.l0]
    rw [if_pos (by omega), if_pos (by omega), if_pos (by omega), if_pos trivial, wnext i (by omega)]
theorem open_ev (t : ByteArray) (kind : Int) (ht : t.size ≤ 65536) (hk : inB kind 1 9 = true) : Ev (fun k => impl_OpenRecord.f k t kind) (if recOK t kind = true then (recNums t, 0) else ([], 3)) := by
  unfold impl_OpenRecord.f
  refine ev_bind (impl_open_ev t kind (by omega)) ?_
  simp only [isLongText_eq, impl_isKind.f, within_eq, Option.bind_some, first3]
  have h1 : ¬ (t.size : Int) > 65536 := by omega
  simp only [h1, decide_false, Bool.false_eq_true, if_false, hk, Bool.not_true]
  by_cases h3 : recOK t kind = true
  · simp only [h3, Bool.not_true, Bool.false_eq_true, if_false, if_true, recOK_openL h3]
    exact ev_some _
  · have h3' : recOK t kind = false := by simpa using h3
    simp only [h3', Bool.not_false, if_true, Bool.false_eq_true, if_false]
    exact ev_neg (by omega) (ev_some _)
theorem recOK_other (kind kind' : Int) (l : List Int) (h0 : 0 ≤ kind) (h1 : kind < 256) (hne : kind' ≠ kind) : recOK (sealP kind l) kind' = false := by
  refine recOK_no (fun hc => hne ?_)
  rw [← hc.2.1, bt_head0 kind l h0 h1]
theorem recOK_more (kind : Int) (l : List Int) (kind' : Int) : recOK (sealP kind l ++ (⟨#[120]⟩ : ByteArray)) kind' = false := by
  refine recOK_no (fun hc => ?_)
  have h4 := hc.2.2.2.1
  rw [ext_size, ba_size_append, sealP_size] at h4
  have : (⟨#[120]⟩ : ByteArray).size = 1 := rfl
  rw [this] at h4
  omega
theorem pure : st := by
  intro c m hc hm
  refine Ev.rounds ?_
  have hc' := bytes_of (l := c) (fun x hx => hc.2 x hx)
  have hm' := bytes_of (l := m) (fun x hx => hm.2 x hx)
  have key : ∀ b, Ev (fun k => laws_FnRecords.j0 k c m b) true := by
    intro b
    refine Ev.succ ?_
    simp only [laws_FnRecords.j0]
    cases b
    · simp only [Bool.false_eq_true, if_false]
      obtain ⟨l, eL, hl6, hlr⟩ := numbers_ok c hc'
      refine ev_bind eL ?_
      obtain ⟨q, eq, q0, -, q1⟩ := at_ok m hm' 0 (by omega) (by omega) 9
      have q1' := q1 (by omega)
      simp only [eq, Option.bind_some]
      rw [w64 (n := 1 + q) (by omega) (by omega)]
      have ek : wrap64 (Int.tmod (1 + q) 9 + 1) = (1 + q) % 9 + 1 := by rw [Int.tmod_eq_emod_of_nonneg (by omega)]; exact w64 (by omega) (by omega)
      rw [ek]
      generalize hkd : 1 + q = kind at *
      have hk : inB kind 1 9 = true := inB_iff.2 (by omega)
      have hk2 : inB (kind % 9 + 1) 1 9 = true := inB_iff.2 (by omega)
      have hI : Ev (fun k => impl_SealRecord.f k kind l) (sealP kind l, 0) := by
        unfold impl_SealRecord.f
        have h1 : ¬ (l.length : Int) > 4096 := by omega
        simp only [impl_isLong_int.f, impl_isKind.f, within_eq, impl_areInts_eq, Option.bind_some, hk, if_true, intsOK_of l (by omega) hlr, first2, h1, decide_false, Bool.false_eq_true, if_false, Bool.not_true]
        exact ev_bind (impl_seal_ev kind l (by omega)) (ev_some _)
      have hS : Ev (fun k => spec_SealRecord.f k kind l) (sealP kind l, 0) := by
        unfold spec_SealRecord.f
        refine ev_neg (by omega) ?_
        simp only [spec_l02Kind.f, l01In_eq, Option.bind_some, hk, if_true]
        refine ev_bind (spec_ints_ev l (by omega)) ?_
        rw [intsOK_of l (by omega) hlr]
        exact ev_pos rfl (ev_bind (spec_seal_ev kind l (by omega)) (ev_some _))
      have hz : (sealP kind l).size = 4 + 4 * l.length := sealP_size _ _
      have hr := recNums_seal kind l (fun x hx => ⟨(hlr x hx).1, by have := (hlr x hx).2; omega⟩)
      have hrok := recOK_seal kind l hk (by omega) hlr
      have hO := open_ev (sealP kind l) kind (by rw [hz]; omega) hk
      rw [hrok, if_pos rfl, hr] at hO
      have hO2 := open_ev (sealP kind l) (kind % 9 + 1) (by rw [hz]; omega) hk2
      rw [recOK_other kind _ l (by omega) (by omega) (by omega), if_neg (by decide)] at hO2
      refine ev_bind hI (ev_bind hS (ev_bind hO (ev_bind hO2 (ev_pos rfl (ev_pos rfl (ev_pos rfl (ev_bind (sameInts_ev l (by omega)) (ev_pos rfl (ev_pos rfl ?_)))))))))
      have ez : (((sealP kind l).size : Int) != wrap64 (4 + wrap64 (4 * (l.length : Int)))) = false := by
        rw [w64 (n := 4 * (l.length : Int)) (by omega) (by omega), w64 (by omega) (by omega), hz]
        simp
      dsimp only
      rw [ez]
      refine Ev.succ ?_
      simp only [laws_FnRecords.j1, Bool.false_eq_true, if_false]
      have hK : Ev (fun k => impl_KindOf.f k (sealP kind l)) (kind, 0) := by
        unfold impl_KindOf.f
        refine ev_bind (impl_opened_ok _ kind (by rw [hz]; omega) hrok) ?_
        have h1 : ¬ ((sealP kind l).size : Int) > 65536 := by rw [hz]; omega
        simp only [isLongText_eq, Option.bind_some, first2, h1, decide_false, Bool.false_eq_true, if_false, Bool.not_true]
        exact ev_some _
      refine ev_bind hK ?_
      obtain ⟨n, en, n0, n2, n1⟩ := at_ok m hm' 1 (by omega) (by omega) ((sealP kind l).size : Int)
      have n1' := n1 (by rw [hz]; omega)
      simp only [en, Option.bind_some]
      refine ev_pos n0 (ev_pos (by omega) ?_)
      have hz3 : ((sealP kind l).extract 0 n.toNat).size ≤ 65536 := by rw [ByteArray.size_extract, hz]; omega
      have hO3 := open_ev ((sealP kind l).extract 0 n.toNat) kind hz3 hk
      rw [recOK_cut kind l n.toNat (by omega) (by omega) kind, if_neg (by decide)] at hO3
      have hz4 : (sealP kind l ++ (⟨#[120]⟩ : ByteArray)).size ≤ 65536 := by
        rw [ba_size_append, hz]; show 4 + 4 * l.length + 1 ≤ 65536; omega
      have hO4 := open_ev (sealP kind l ++ (⟨#[120]⟩ : ByteArray)) kind hz4 hk
      rw [recOK_more, if_neg (by decide)] at hO4
      have hU1 : Ev (fun k => impl_SumOf.f k (sealP kind l)) (sumP (sealP kind l)) := by
        unfold impl_SumOf.f
        have h1 : ¬ ((sealP kind l).size : Int) > 65536 := by rw [hz]; omega
        simp only [isLongText_eq, Option.bind_some, h1, decide_false, Bool.false_eq_true, if_false]
        exact ev_bind (impl_sum_ev _ (by rw [hz]; omega)) (ev_some _)
      have hU2 : Ev (fun k => spec_SumOf.f k (sealP kind l)) (sumP (sealP kind l)) := by
        unfold spec_SumOf.f
        exact ev_neg (by rw [hz]; omega) (ev_bind (spec_sum_ev _ (by rw [hz]; omega)) (ev_some _))
      refine ev_bind hO3 (ev_pos (by rw [hz]; omega) (ev_bind hO4 (ev_pos (by first | rfl | trivial) (ev_pos (by first | rfl | trivial) (ev_pos (by first | rfl | trivial) (ev_pos (by first | rfl | trivial) (ev_bind hU1 (ev_bind hU2 ?_))))))))
      simp only [beq_self_eq_true]
      exact ev_some _
    · simp only [if_true]; exact ev_some _
  unfold laws_FnRecords.f
  by_cases h : (c.length : Int) > 1048576
  · exact ev_pos h (key _)
  · exact ev_neg h (key _)

end Go.Proofs.Ythlbjmgoibnopaa.Q.FnRecords
