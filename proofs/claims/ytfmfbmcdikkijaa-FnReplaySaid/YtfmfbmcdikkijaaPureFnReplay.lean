import Derived.Test.YtfmfbmcdikkijaaStFnReplay
namespace Go.Proofs.Ytfmfbmcdikkijaa.Q.FnReplay
open Go.RowKit Go.Proofs.Ytfmfbmcdikkijaa.Ext Go.Proofs.Ytfmfbmcdikkijaa.Q Go.Proofs.YtfmfbmcdikkijaaW.PrintWords Go.Proofs.YtfmfbmcdikkijaaW.PrintLast Go.Proofs.YtfmfbmcdikkijaaW.PrintMore
set_option linter.unusedVariables false
set_option linter.unusedSimpArgs false
theorem fine_plan {h : Int} (h0 : 0 ≤ h) (h1 : h ≤ 3) (L : List S45) (hn : L.length ≤ 4) (hL : ∀ u ∈ L, updDrawn u) : (∀ m ∈ appM h L, fineM m) ∧ ∀ m ∈ planM h L, fineM m := by
  have hd : ∀ n, fineM (hdM h n) := fun n => .inr ⟨rfl, by show 0 ≤ 39 + 6 * h; omega, by show 39 + 6 * h ≤ 63; omega, by show (sealP 7 [n, 5]).size ≤ 80; rw [sealP_size]; show 4 + 4 * 2 ≤ 80; omega⟩
  have hA : ∀ m ∈ appM h L, fineM m := by
    intro m hm
    unfold appM at hm
    rcases List.mem_append.1 hm with hm | hm
    · obtain ⟨u, hu, rfl⟩ := List.mem_map.1 hm
      have := hL u hu
      unfold updDrawn at this
      exact .inr ⟨rfl, by show 0 ≤ u.f0; omega, by show u.f0 ≤ 63; omega, by show u.f1.size ≤ 80; omega⟩
    · simp only [List.mem_cons, List.not_mem_nil, or_false] at hm
      rcases hm with rfl | rfl | rfl
      · exact .inl rfl
      · exact hd 0
      · exact .inl rfl
  refine ⟨hA, fun m hm => ?_⟩
  unfold planM at hm
  rcases List.mem_append.1 hm with hm | hm
  · rcases List.mem_append.1 hm with hm | hm
    · obtain ⟨i, hi, rfl⟩ := List.mem_map.1 hm
      have hi := List.mem_range.1 hi
      have hx : L.getD i ⟨0, ByteArray.empty⟩ = L[i] := by simp [hi]
      have := hL _ (List.getElem_mem hi)
      unfold updDrawn at this
      refine .inr ⟨rfl, by show 0 ≤ 39 + 6 * h + 1 + (i : Int); omega, by show 39 + 6 * h + 1 + (i : Int) ≤ 63; omega, ?_⟩
      show (encU (L.getD i ⟨0, ByteArray.empty⟩)).size ≤ 80
      rw [hx]; unfold encU; rw [ba_size_append, sealP_size]; show 4 + 4 * 1 + _ ≤ 80; omega
    · simp only [List.mem_cons, List.not_mem_nil, or_false] at hm
      rcases hm with rfl | rfl | rfl
      · exact .inl rfl
      · exact hd _
      · exact .inl rfl
  · exact hA m hm
theorem sameT_ev (l : List ByteArray) (hl : l.length ≤ 1000000) : Ev (fun k => laws_sameTexts.f k l l) true := sameTexts_ev l (by omega)
/-- One replay, and another behind a crash in its midst: of what was left, S. -/
theorem again_ev {S : List ByteArray} (hk : diskOK S [] = true) {h o p : Int} (h0 : 0 ≤ h) (h1 : h ≤ 3) (o0 : 0 ≤ o) (o1 : o ≤ 3) (p0 : 0 ≤ p) (p1 : p ≤ 3) (L : List S45) (hn : L.length ≤ 4) (hL : ∀ u ∈ L, updDrawn u) (hp : 0 < L.length ∨ S[slN h]? = some (⟨#[]⟩ : ByteArray))
    (hS : S[slN h]? = some (⟨#[]⟩ : ByteArray) ∨ waitsB h L S ∨ S[slN h]? = some (sealP 7 [0, 5])) (j : Nat) (hj : j ≤ 3) :
    ∃ first : List S52, Ev (fun k => impl_ReplayPlan.f k S [] o h) (first, 0) ∧ first.length ≤ 10 ∧ ∃ S1 : List ByteArray, S1.length = 64 ∧ Ev (fun k => impl_MovesDo.f k S [] o first) (S1, [], 0) ∧
      ∀ i, i ≤ first.length → ∃ (s : List ByteArray) (q : List S75) (X : List ByteArray) (second : List S52), Ev (fun k => impl_MovesDo.f k S [] o (first.take i)) (s, q, 0) ∧ impl_LoseHost.f s q o (j : Int) = some (X, [], 0) ∧ Ev (fun k => impl_ReplayPlan.f k X [] p h) (second, 0) ∧ Ev (fun k => impl_MovesDo.f k X [] p second) (S1, [], 0) := by
  have hl64 := (disk_in hk).1
  have nothing : (∀ a : Int, 0 ≤ a → a ≤ 3 → Ev (fun k => impl_ReplayPlan.f k S [] a h) ([], 0)) → _ := fun hN => by
    have hD : ∀ a : Int, 0 ≤ a → a ≤ 3 → Ev (fun k => impl_MovesDo.f k S [] a []) (S, [], 0) := fun a b0 b1 => (movesDo_ev hk b0 b1 [] (by simp) (by simp)).1
    exact (⟨[], hN o o0 o1, by simp, S, hl64, hD o o0 o1, fun i _ => ⟨S, [], S, [], by simpa using hD o o0 o1, by
      have := lose_eq hk o0 o1 j (by omega)
      simpa [landS, landP] using this, hN p p0 p1, hD p p0 p1⟩⟩ : ∃ first : List S52, Ev (fun k => impl_ReplayPlan.f k S [] o h) (first, 0) ∧ first.length ≤ 10 ∧ ∃ S1 : List ByteArray, S1.length = 64 ∧ Ev (fun k => impl_MovesDo.f k S [] o first) (S1, [], 0) ∧
      ∀ i, i ≤ first.length → ∃ (s : List ByteArray) (q : List S75) (X : List ByteArray) (second : List S52), Ev (fun k => impl_MovesDo.f k S [] o (first.take i)) (s, q, 0) ∧ impl_LoseHost.f s q o (j : Int) = some (X, [], 0) ∧ Ev (fun k => impl_ReplayPlan.f k X [] p h) (second, 0) ∧ Ev (fun k => impl_MovesDo.f k X [] p second) (S1, [], 0))
  rcases hS with hA | hB | hC
  · exact nothing (fun a b0 b1 => none_ev hk b0 b1 h0 h1 (.inl hA))
  · have hp' : 0 < L.length := by
      rcases hp with hp | hp
      · exact hp
      · have hB1 := hB.1
        rw [hp] at hB1
        exact absurd (Option.some.inj hB1).symm (fun e => seal_ne (L.length : Int) (by rw [e, ByteArray.toList_eq]))
    have hf := (fine_plan h0 h1 L hn hL).1
    have hla : (appM h L).length ≤ 10 := by simp [appM, w2_len]; omega
    have once : ∀ a : Int, ∀ X : List ByteArray, mvS a (appM h L) X [] = (putM X (w2M L ++ [hdM h 0]), []) := by
      intro a X
      have := mvS_flushed a (w2M L ++ [flM, hdM h 0]) flM rfl X (by simp [w2_len]; omega)
      have e : w2M L ++ [flM, hdM h 0] ++ [flM] = appM h L := by simp [appM]
      rw [e] at this
      rw [this, wrM_app, wr_w2]; rfl
    have hD1 := (movesDo_ev hk o0 o1 (appM h L) hf (by simp; omega)).1
    rw [once o S] at hD1
    refine ⟨appM h L, some_ev2 hk o0 o1 h0 h1 L hp' hn hL hB, hla, putM S (w2M L ++ [hdM h 0]), by rw [putM_len]; exact hl64, hD1, fun i hi => ?_⟩
    have hf2 : ∀ m ∈ (appM h L).take i, fineM m := fun m hm => hf m (List.mem_of_mem_take hm)
    obtain ⟨hM, hMk⟩ := movesDo_ev hk o0 o1 ((appM h L).take i) hf2 (by simp; omega)
    have hlose := lose_eq hMk o0 o1 j (by omega)
    obtain ⟨c, hc1, hc2⟩ := mvS_crash o ((appM h L).take i) S (by simp; omega) j
    obtain ⟨c2, hc3⟩ := wrM_take (appM h L) i
    rw [hc3, wr_app, List.take_take] at hc1
    have hXk := land_ok hMk o j true
    rw [hc1, hc2] at hlose hXk
    obtain ⟨n, hn_⟩ : ∃ n, n = min c c2 := ⟨_, rfl⟩
    rw [← hn_] at hlose hXk
    rcases replayed h h0 h1 L hn hL S hl64 hB n with ⟨hw, e, he⟩ | ⟨he, hw⟩
    · refine ⟨_, _, _, appM h L, hM, hlose, some_ev2 hXk p0 p1 h0 h1 L hp' hn hL hw, ?_⟩
      have hD2 := (movesDo_ev hXk p0 p1 (appM h L) hf (by simp; omega)).1
      rw [once p] at hD2
      have eS : putM (putM S ((w2M L ++ [hdM h 0]).take n)) (w2M L ++ [hdM h 0]) = putM S (w2M L ++ [hdM h 0]) := by
        apply List.ext_getElem?
        intro q
        by_cases hq : q < S.length
        · rw [he]; exact again q S hq (w2M L) [hdM h 0] e
        · rw [List.getElem?_eq_none (by rw [putM_len, putM_len]; omega), List.getElem?_eq_none (by rw [putM_len]; omega)]
      rw [eS] at hD2
      exact hD2
    · rw [he] at hlose hXk
      exact ⟨_, _, _, [], hM, hlose, none_ev hXk p0 p1 h0 h1 (.inr hw), (movesDo_ev hXk p0 p1 [] (by simp) (by simp)).1⟩
  · exact nothing (fun a b0 b1 => none_ev hk b0 b1 h0 h1 (.inr hC))
theorem next_host {h : Int} (h0 : 0 ≤ h) (h1 : h ≤ 3) (c : Int) (c0 : 0 ≤ c) (c1 : c ≤ 2) : 0 ≤ Int.tmod (wrap64 (h + c)) 4 ∧ Int.tmod (wrap64 (h + c)) 4 ≤ 3 := by
  rw [w64 (by omega) (by omega), Int.tmod_eq_emod_of_nonneg (by omega)]
  omega
theorem pure : st := by
  intro c m hc hm
  refine Ev.rounds ?_
  have hc' := bytes_of (l := c) (fun x hx => hc.2 x hx)
  have hm' := bytes_of (l := m) (fun x hx => hm.2 x hx)
  unfold laws_FnReplay.f
  by_cases g1 : (c.length : Int) > 1048576
  · exact ev_pos g1 (ev_some _)
  · refine ev_neg g1 ?_
    by_cases g2 : (m.length : Int) > 1048576
    · exact ev_pos g2 (ev_some _)
    · refine ev_neg g2 ?_
      obtain ⟨L, hU, hn, hL⟩ := updates_drawn c hc'
      obtain ⟨h, eh, h0, -, h1⟩ := at_ok m hm' 0 (by omega) (by omega) 4
      have h1' : h ≤ 3 := by have := h1 (by omega); omega
      obtain ⟨j, ej, j0, -, j1⟩ := at_ok m hm' 2 (by omega) (by omega) 6
      have j1' := j1 (by omega)
      obtain ⟨j, rfl⟩ : ∃ n : Nat, j = (n : Int) := ⟨j.toNat, by omega⟩
      obtain ⟨v, ev, v0, -, v1⟩ := at_ok m hm' 4 (by omega) (by omega) 4
      have v1' := v1 (by omega)
      obtain ⟨v, rfl⟩ : ∃ n : Nat, v = (n : Int) := ⟨v.toNat, by omega⟩
      have o := next_host h0 h1' 1 (by omega) (by omega)
      have p := next_host h0 h1' 2 (by omega) (by omega)
      have hP := plan_ev2 h0 h1' L hn hL
      have hfP : ∀ x ∈ (if L.length = 0 then [] else planM h L), fineM x := by
        intro x hx
        split at hx
        · cases hx
        · exact (fine_plan h0 h1' L hn hL).2 x hx
      have hlP : (if L.length = 0 then [] else planM h L).length ≤ 20 := by
        split
        · simp
        · simp [planM, appM, w1_len, w2_len]; omega
      have hwr : wrM (if L.length = 0 then [] else planM h L) = if L.length = 0 then [] else wrM (planM h L) := by
        split <;> rfl
      generalize hpl : (if L.length = 0 then [] else planM h L) = plan at hP hfP hlP hwr
      obtain ⟨n1, en1, n10, -, n11⟩ := at_ok m hm' 1 (by omega) (by omega) (wrap64 ((plan.length : Int) + 1))
      rw [w64 (n := (plan.length : Int) + 1) (by omega) (by omega)] at en1 n11
      have n11' := n11 (by omega)
      have hbk : diskOK (List.replicate 64 (⟨#[]⟩ : ByteArray)) ([] : List S75) = true := disk_of (by simp) (by simp) (by intro x hx; rw [(List.mem_replicate.1 hx).2]; exact Nat.zero_le _) (by simp)
      have hf1 : ∀ x ∈ plan.take n1.toNat, fineM x := fun x hx => hfP x (List.mem_of_mem_take hx)
      obtain ⟨hM, hMk⟩ := movesDo_ev hbk h0 h1' (plan.take n1.toNat) hf1 (by simp; omega)
      have hlose := lose_eq hMk h0 h1' j (by omega)
      obtain ⟨q, hq1, hq2⟩ := mvS_crash h (plan.take n1.toNat) (List.replicate 64 (⟨#[]⟩ : ByteArray)) (by simp; omega) j
      obtain ⟨q2, hq3⟩ := wrM_take plan n1.toNat
      rw [hq3, List.take_take] at hq1
      have hYk := land_ok hMk h j true
      rw [hq1, hq2] at hlose hYk
      have hsl : slN h < 64 := by unfold slN; omega
      have hY : (0 < L.length ∨ (putM (List.replicate 64 (⟨#[]⟩ : ByteArray)) ((wrM plan).take (min q q2)))[slN h]? = some (⟨#[]⟩ : ByteArray)) ∧ ((putM (List.replicate 64 (⟨#[]⟩ : ByteArray)) ((wrM plan).take (min q q2)))[slN h]? = some (⟨#[]⟩ : ByteArray) ∨ waitsB h L (putM (List.replicate 64 (⟨#[]⟩ : ByteArray)) ((wrM plan).take (min q q2))) ∨ (putM (List.replicate 64 (⟨#[]⟩ : ByteArray)) ((wrM plan).take (min q q2)))[slN h]? = some (sealP 7 [0, 5])) := by
        rw [hwr]
        by_cases c0 : L.length = 0
        · rw [if_pos c0]
          have e : (putM (List.replicate 64 (⟨#[]⟩ : ByteArray)) (([] : List S52).take (min q q2)))[slN h]? = some (⟨#[]⟩ : ByteArray) := by
            rw [List.take_nil]
            show (List.replicate 64 (⟨#[]⟩ : ByteArray))[slN h]? = _
            rw [List.getElem?_replicate, if_pos hsl]
          exact ⟨.inr e, .inl e⟩
        · rw [if_neg c0]
          exact ⟨.inl (by omega), crashed h h0 h1' L hn hL _⟩
      obtain ⟨first, hR, hfl, S1, hS1, hO, hall⟩ := again_ev hYk h0 h1' o.1 o.2 p.1 p.2 L hn hL hY.1 hY.2 v (by omega)
      obtain ⟨n2, en2, n20, -, n21⟩ := at_ok m hm' 3 (by omega) (by omega) (wrap64 ((first.length : Int) + 1))
      rw [w64 (n := (first.length : Int) + 1) (by omega) (by omega)] at en2 n21
      have n21' := n21 (by omega)
      obtain ⟨s, u, X, second, hH, hLo, hR2, hT⟩ := hall n2.toNat (by omega)
      refine ev_bind hU ?_
      simp only [eh, Option.bind_some]
      refine ev_bind hP ?_
      dsimp only
      rw [w64 (n := (plan.length : Int) + 1) (by omega) (by omega)]
      refine ev_pos (by omega) ?_
      simp only [en1, Option.bind_some]
      refine ev_pos n10 (ev_pos (by omega) (ev_bind hM ?_))
      simp only [ej, Option.bind_some, hlose]
      refine ev_bind hR (ev_bind hO ?_)
      dsimp only
      rw [w64 (n := (first.length : Int) + 1) (by omega) (by omega)]
      simp only [en2, Option.bind_some]
      refine ev_pos n20 (ev_pos (by omega) (ev_bind hH ?_))
      simp only [ev, Option.bind_some, hLo]
      refine ev_bind hR2 (ev_bind hT ?_)
      have hS1' : (S1.length : Int) = 64 := by omega
      refine ev_pos (by first | rfl | trivial | exact hS1' | (show (39 : Int) ≤ (S1.length : Int); omega) | omega) (ev_pos (by first | rfl | trivial | exact hS1' | (show (39 : Int) ≤ (S1.length : Int); omega) | omega) (ev_pos (by first | rfl | trivial | exact hS1' | (show (39 : Int) ≤ (S1.length : Int); omega) | omega) (ev_pos (by first | rfl | trivial | exact hS1' | (show (39 : Int) ≤ (S1.length : Int); omega) | omega) (ev_pos (by first | rfl | trivial | exact hS1' | (show (39 : Int) ≤ (S1.length : Int); omega) | omega) (ev_pos (by first | rfl | trivial | exact hS1' | (show (39 : Int) ≤ (S1.length : Int); omega) | omega) (ev_pos (by first | rfl | trivial | exact hS1' | (show (39 : Int) ≤ (S1.length : Int); omega) | omega) (ev_pos (by first | rfl | trivial | exact hS1' | (show (39 : Int) ≤ (S1.length : Int); omega) | omega) (ev_pos (by first | rfl | trivial | exact hS1' | (show (39 : Int) ≤ (S1.length : Int); omega) | omega) (ev_pos (by first | rfl | trivial | exact hS1' | (show (39 : Int) ≤ (S1.length : Int); omega) | omega) (ev_pos (by first | rfl | trivial | exact hS1' | (show (39 : Int) ≤ (S1.length : Int); omega) | omega) (ev_pos (by first | rfl | trivial | exact hS1' | (show (39 : Int) ≤ (S1.length : Int); omega) | omega) (ev_pos (by first | rfl | trivial | exact hS1' | (show (39 : Int) ≤ (S1.length : Int); omega) | omega) (ev_pos (by first | rfl | trivial | exact hS1' | (show (39 : Int) ≤ (S1.length : Int); omega) | omega) (ev_bind (sameT_ev _ (by simp; omega)) (ev_some _)))))))))))))))

end Go.Proofs.Ytfmfbmcdikkijaa.Q.FnReplay
