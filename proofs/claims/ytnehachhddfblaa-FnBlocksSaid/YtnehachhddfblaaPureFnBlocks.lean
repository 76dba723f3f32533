/- laws.FnBlocks answers true, for every input within the bounds that any input that came in has. -/
import Derived.Test.YtnehachhddfblaaStFnBlocks
namespace Go.Proofs.Ytnehachhddfblaa.Q.FnBlocks
open Go.RowKit Go.Proofs.Ytnehachhddfblaa.Ext Go.Proofs.Ytnehachhddfblaa.Q Go.Proofs.YtnehachhddfblaaW.PrintWords Go.Proofs.YtnehachhddfblaaW.PrintLast Go.Proofs.YtnehachhddfblaaW.PrintMore
set_option linter.unusedVariables false
set_option linter.unusedSimpArgs false
theorem block_ok (l : List Int) (h : ∀ x ∈ l, 0 ≤ x ∧ x ≤ 255) : ∃ a b c d, spec_BlockOf.f l = some (a, b, c, d) ∧ blockOK a b c d = true := by
  unfold spec_BlockOf.f spec_l00Source.f spec_l00Src_block.f
  simp only [Option.bind_some]
  obtain ⟨g, a1, s1, e1, g0, -, g1, o1⟩ := next_ok l h _ _ _ (source_ok l) (by omega) 3
  rw [e1]; simp only [Option.bind_some]
  obtain ⟨i, a2, s2, e2, i0, -, i1, o2⟩ := next_ok l h _ _ _ o1 (by omega) 2
  rw [e2]; simp only [Option.bind_some]
  have i1' := i1 (by omega)
  have g1' := g1 (by omega)
  rw [if_pos i0, if_pos (by simp; omega)]
  obtain ⟨m, a3, s3, e3, m0, -, m1, o3⟩ := next_ok l h _ _ _ o2 (by omega) 12
  rw [e3]; simp only [Option.bind_some]
  have m1' := m1 (by omega)
  rw [w64 (n := m + 1) (by omega) (by omega)]
  obtain ⟨b, a4, s4, e4, b0, -, b1, o4⟩ := next_ok l h _ _ _ o3 (by omega) (m + 1)
  rw [e4]; simp only [Option.bind_some]
  have b1' := b1 (by omega)
  have hv : 0 ≤ rd ([0, g] : List Int) i ∧ rd ([0, g] : List Int) i ≤ 2 := by
    have : i = 0 ∨ i = 1 := by omega
    rcases this with rfl | rfl
    · exact ⟨by show (0 : Int) ≤ 0; omega, by show (0 : Int) ≤ 2; omega⟩
    · exact ⟨by show (0 : Int) ≤ g; omega, by show g ≤ (2 : Int); omega⟩
  generalize rd ([0, g] : List Int) i = v at hv ⊢
  by_cases hb : b > 0
  · rw [if_pos hb]
    obtain ⟨p, a5, s5, e5, p0, -, p1, o5⟩ := next_ok l h _ _ _ o4 (by omega) 9
    rw [e5]; simp only [Option.bind_some]
    have p1' := p1 (by omega)
    refine ⟨_, _, _, _, rfl, ?_⟩
    unfold blockOK inB
    simp only [Bool.and_eq_true, decide_eq_true_eq, Bool.or_eq_true, beq_iff_eq]
    omega
  · rw [if_neg hb]
    refine ⟨_, _, _, _, rfl, ?_⟩
    have hb' : b = 0 := by omega
    subst hb'
    unfold blockOK inB
    simp only [Bool.and_eq_true, decide_eq_true_eq, Bool.or_eq_true, beq_iff_eq]
    exact ⟨⟨by omega, by omega⟩, ⟨by omega, by omega⟩, ⟨by omega, by omega⟩, ⟨by omega, by omega⟩, Or.inr trivial⟩
theorem pure : st := by
  intro c m hc hm
  refine Ev.rounds ?_
  have hc' := bytes_of (l := c) (fun x hx => hc.2 x hx)
  have hm' := bytes_of (l := m) (fun x hx => hm.2 x hx)
  have key : ∀ b, Ev (fun k => laws_FnBlocks.j0 k c m b) true := by
    intro b
    refine Ev.succ ?_
    simp only [laws_FnBlocks.j0]
    cases b
    · simp only [Bool.false_eq_true, if_false]
      obtain ⟨a, b, c', d, e, hok⟩ := block_ok c hc'
      simp only [e, Option.bind_some]
      have hI := impl_EncodeBlock_ev a b c' d
      have hS := spec_EncodeBlock_ev a b c' d
      rw [hok, if_pos rfl] at hI hS
      have hin : ∀ x ∈ ([a, b, c', d] : List Int), 0 ≤ x ∧ x ≤ 2147483647 := by
        unfold blockOK inB at hok
        simp only [Bool.and_eq_true, decide_eq_true_eq, Bool.or_eq_true, beq_iff_eq] at hok
        intro x hx
        simp only [List.mem_cons, List.not_mem_nil, or_false] at hx
        rcases hx with rfl | rfl | rfl | rfl <;> omega
      have hz : (sealP 5 [a, b, c', d]).size = 20 := sealP_size _ _
      have hr := recNums_seal 5 [a, b, c', d] (fun x hx => ⟨(hin x hx).1, by have := (hin x hx).2; omega⟩)
      have hrok := recOK_seal 5 [a, b, c', d] rfl (by simp) hin
      have hb : isBlock (sealP 5 [a, b, c', d]) = true := by
        unfold isBlock; rw [hrok, hr]; simp only [Bool.true_and]
        exact hok
      have hdec : decBlock (sealP 5 [a, b, c', d]) = (a, b, c', d, 0) := by
        unfold decBlock; rw [if_neg (by rw [hz]; omega), if_pos hb, hr]; rfl
      have hD := impl_DecodeBlock_ev (sealP 5 [a, b, c', d]) (by rw [hz]; omega)
      rw [hdec] at hD
      refine ev_bind hI (ev_bind hS (ev_bind hD (ev_pos rfl (ev_pos rfl (ev_pos rfl ?_)))))
      simp only [beq_self_eq_true, Bool.not_true, Bool.or_self, Bool.false_eq_true, if_false, impl_BlockOK_eq, Option.bind_some, hok, if_true]
      have hz2 : ((sealP 5 [a, b, c', d]).size : Int) = 20 := by rw [hz]; rfl
      refine Ev.succ ?_
      simp only [laws_FnBlocks.j1, hz2]
      obtain ⟨n, en, n0, -, n1⟩ := at_ok m hm' 0 (by omega) (by omega) 20
      have n1' := n1 (by omega)
      refine ev_neg (by decide) ?_
      simp only [en, Option.bind_some]
      refine ev_pos n0 (ev_pos (by omega) ?_)
      have hcut := recOK_cut 5 [a, b, c', d] n.toNat (by simp) (by rw [hz]; omega) 5
      have hz3 : ((sealP 5 [a, b, c', d]).extract 0 n.toNat).size ≤ 20 := by rw [ByteArray.size_extract]; omega
      have hD2 := impl_DecodeBlock_ev ((sealP 5 [a, b, c', d]).extract 0 n.toNat) (by omega)
      have hd2 : decBlock ((sealP 5 [a, b, c', d]).extract 0 n.toNat) = (0, 0, 0, 0, 3) := by
        unfold decBlock isBlock; rw [if_neg (by omega), hcut]; rfl
      rw [hd2] at hD2
      exact ev_bind hD2 (ev_some _)
    · simp only [if_true]; exact ev_some _
  unfold laws_FnBlocks.f
  by_cases h : (c.length : Int) > 1048576
  · exact ev_pos h (key _)
  · exact ev_neg h (key _)

end Go.Proofs.Ytnehachhddfblaa.Q.FnBlocks
