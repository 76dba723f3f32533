/- laws.FnExactReqText answers true, for every input within the bounds that any input that came in has. -/
import Derived.Test.YtkccdcnpclpdaaaDoorStFnExactReqText
namespace Go.Proofs.YtkccdcnpclpdaaaDoor.Q.FnExactReqText
open Go.RowKit Go.Proofs.YtkccdcnpclpdaaaDoor.Ext Go.Proofs.YtkccdcnpclpdaaaDoor.Q Go.Proofs.YtkccdcnpclpdaaaDoorW.PrintWords Go.Proofs.YtkccdcnpclpdaaaDoorW.PrintLast Go.Proofs.YtkccdcnpclpdaaaDoorW.PrintMore
set_option linter.unusedVariables false
set_option linter.unusedSimpArgs false
theorem toList_nil (s : ByteArray) : (s.toList == ([] : List UInt8)) = (s.toList == (⟨#[]⟩ : ByteArray).toList) := by
  have : (⟨#[]⟩ : ByteArray).toList = [] := by rw [ByteArray.toList_eq]
  rw [this]
def okE (a b c : Int) (s : ByteArray) : Bool := if a = 1 ∨ a = 3 ∨ a = 4 then (decide (c = 0) && (s.toList == ([] : List UInt8))) else if a = 2 then (s.toList == ([] : List UInt8)) else if a = 8 then (decide (b = 0) && (decide (c = 0) && (s.toList == ([] : List UInt8)))) else (decide (b = 0) && decide (c = 0))
def okQ (a b c : Int) (s : ByteArray) : Bool := inB a 1 8 && (!decide ((s.size : Int) > 65536) && okE a b c s)
theorem both_ok (a b c : Int) (s : ByteArray) (k : Nat) : spec_ReqOK.f (k + 5) a b c s = some (okQ a b c s) ∧ impl_ReqOK.f (k + 5) a b c s = some (okQ a b c s) := by
  simp only [spec_ReqOK.f, impl_ReqOK.f, l01In_eq, within_eq, Option.bind_some, impl_isLongText.f, okQ]
  by_cases h1 : inB a 1 8 = true
  · simp only [h1, if_true]
    by_cases h2 : (s.size : Int) > 65536
    · simp [h2, spec_ReqOK.j0]
    · simp only [h2, decide_false, spec_ReqOK.j0, Bool.false_eq_true, if_false]
      simp only [inB_iff] at h1
      have ha : a = 1 ∨ a = 2 ∨ a = 3 ∨ a = 4 ∨ a = 5 ∨ a = 6 ∨ a = 7 ∨ a = 8 := by omega
      rcases ha with rfl | rfl | rfl | rfl | rfl | rfl | rfl | rfl <;> (simp [okE, spec_ReqOK.j1, impl_Req_used.f, impl_Req_used.j0, toList_nil]; try (by_cases hb : b = 0 <;> by_cases hc : c = 0 <;> simp [hb, hc]))
  · have h1' : inB a 1 8 = false := by simpa using h1
    simp [h1', spec_ReqOK.j0]
def wds : List ByteArray := [(⟨#[]⟩ : ByteArray), (⟨#[114, 101, 97, 100]⟩ : ByteArray), (⟨#[119, 114, 105, 116, 101]⟩ : ByteArray), (⟨#[122, 101, 114, 111]⟩ : ByteArray), (⟨#[114, 101, 115, 105, 122, 101]⟩ : ByteArray), (⟨#[99, 114, 101, 97, 116, 101]⟩ : ByteArray), (⟨#[100, 101, 108, 101, 116, 101]⟩ : ByteArray), (⟨#[114, 101, 118, 101, 114, 116]⟩ : ByteArray), (⟨#[108, 105, 115, 116]⟩ : ByteArray)]
def wd (a : Int) : ByteArray := rdOf ByteArray.empty wds a
theorem wd_le {a : Int} (h0 : 1 ≤ a) (h1 : a ≤ 8) : (wd a).size ≤ 6 := by
  have ha : a = 1 ∨ a = 2 ∨ a = 3 ∨ a = 4 ∨ a = 5 ∨ a = 6 ∨ a = 7 ∨ a = 8 := by omega
  rcases ha with rfl | rfl | rfl | rfl | rfl | rfl | rfl | rfl <;> exact of_decide_eq_true rfl
def bl : ByteArray := ⟨#[32]⟩
theorem bl_size : bl.size = 1 := rfl
def txt (a b c : Int) (s : ByteArray) : ByteArray := if a = 1 ∨ a = 3 ∨ a = 4 then (wd a ++ bl) ++ dgs b else if a = 2 then (((wd a ++ bl) ++ dgs b) ++ bl) ++ dgs c else if a = 8 then wd a else (wd a ++ bl) ++ s
theorem spec_txt {a b c : Int} {s : ByteArray} (h0 : 1 ≤ a) (h1 : a ≤ 8) (hb0 : 0 ≤ b) (hb : b ≤ 2147483647) (hc0 : 0 ≤ c) (hc : c ≤ 2147483647) (hs : (s.size : Int) ≤ 65536) : Ev (fun k => spec_l13Text.f k a b c s) (txt a b c s) := by
  have hw := wd_le h0 h1
  obtain ⟨d1, d2⟩ := digits_ev b.toNat b hb0 (Nat.le_refl _) (by omega)
  obtain ⟨e1, e2⟩ := digits_ev c.toNat c hc0 (Nat.le_refl _) (by omega)
  have z1 : (wd a ++ bl).size = (wd a).size + 1 := by rw [ba_size_append, bl_size]
  have z2 : ((wd a ++ bl) ++ dgs b).size = (wd a).size + 1 + (dgs b).size := by rw [ba_size_append, z1]
  have z3 : (((wd a ++ bl) ++ dgs b) ++ bl).size = (wd a).size + 1 + (dgs b).size + 1 := by rw [ba_size_append, z2, bl_size]
  unfold spec_l13Text.f
  refine ev_bind (ev_of_eq fun _ => (rfl : spec_l13Words.f = some wds)) (ev_pos (by omega) (ev_pos (by show a < (9 : Int); omega) ?_))
  show Ev (fun k => if a = 1 then spec_l13Text.j0 k (wd a) a (a == 1) a b c s else if a = 3 then spec_l13Text.j0 k (wd a) a (a == 3) a b c s else spec_l13Text.j0 k (wd a) a (a == 4) a b c s) (txt a b c s)
  have one : ∀ y : Bool, y = true → txt a b c s = (wd a ++ bl) ++ dgs b → Ev (fun k => spec_l13Text.j0 k (wd a) a y a b c s) (txt a b c s) := by
    intro y hy ht
    rw [ht]
    refine Ev.succ ?_
    simp only [spec_l13Text.j0]
    exact ev_pos hy (ev_pos (by omega) (ev_bind d1 (ev_pos (by show (wd a ++ bl).size + _ ≤ _; omega) (ev_some _))))
  by_cases a1 : a = 1
  · exact ev_pos a1 (one _ (by simp [a1]) (by simp [txt, a1]))
  · refine ev_neg a1 ?_
    by_cases a3 : a = 3
    · exact ev_pos a3 (one _ (by simp [a3]) (by simp [txt, a3]))
    · refine ev_neg a3 ?_
      by_cases a4 : a = 4
      · exact one _ (by simp [a4]) (by simp [txt, a4])
      · refine Ev.succ ?_
        simp only [spec_l13Text.j0]
        refine ev_neg (by simp [a4]) ?_
        by_cases a2 : a = 2
        · have ht : txt a b c s = (((wd a ++ bl) ++ dgs b) ++ bl) ++ dgs c := by unfold txt; rw [if_neg (by omega), if_pos a2]
          rw [ht]
          exact ev_pos a2 (ev_pos (by omega) (ev_bind d1 (ev_pos (by show (wd a ++ bl).size + _ ≤ _; omega) (ev_pos (by show ((wd a ++ bl) ++ dgs b).size + 1 ≤ _; omega) (ev_bind e1 (ev_pos (by show (((wd a ++ bl) ++ dgs b) ++ bl).size + _ ≤ _; omega) (ev_some _)))))))
        · refine ev_neg a2 ?_
          by_cases a8 : a = 8
          · have ht : txt a b c s = wd a := by unfold txt; rw [if_neg (by omega), if_neg a2, if_pos a8]
            rw [ht]
            exact ev_pos a8 (ev_some _)
          · have ht : txt a b c s = (wd a ++ bl) ++ s := by unfold txt; rw [if_neg (by omega), if_neg a2, if_neg a8]
            rw [ht]
            exact ev_neg a8 (ev_pos (by omega) (ev_pos (by show (wd a ++ bl).size + _ ≤ _; omega) (ev_some _)))
theorem impl_txt {a b c : Int} {s : ByteArray} (h0 : 1 ≤ a) (h1 : a ≤ 8) (hb0 : 0 ≤ b) (hb : b ≤ 2147483647) (hc0 : 0 ≤ c) (hc : c ≤ 2147483647) (hs : (s.size : Int) ≤ 65536) : Ev (fun k => impl_Req_text.f k a b c s) (txt a b c s) := by
  have hw := wd_le h0 h1
  obtain ⟨d1, d2⟩ := digits_ev b.toNat b hb0 (Nat.le_refl _) (by omega)
  obtain ⟨e1, e2⟩ := digits_ev c.toNat c hc0 (Nat.le_refl _) (by omega)
  unfold impl_Req_text.f
  refine ev_bind (ev_of_eq fun _ => (rfl : impl_reqWords.f = some wds)) (ev_pos (by omega) (ev_pos (by show a < (9 : Int); omega) ?_))
  show Ev (fun k => if a = 1 then impl_Req_text.j0 k (wd a) a (a == 1) a b c s else if a = 3 then impl_Req_text.j0 k (wd a) a (a == 3) a b c s else impl_Req_text.j0 k (wd a) a (a == 4) a b c s) (txt a b c s)
  have sN : Ev (fun k => impl_said.f k [Any.s (wd a), Any.n b]) ((wd a ++ bl) ++ dgs b) := said_ev _ _ (by show 2 ≤ _; omega) (by intro x hx; simp at hx; rcases hx with rfl | rfl; exact trivial; exact ⟨hb0, by omega⟩) (join2_eq (wd a) (dgs b) (by omega))
  have sNN : Ev (fun k => impl_said.f k [Any.s (wd a), Any.n b, Any.n c]) ((((wd a ++ bl) ++ dgs b) ++ bl) ++ dgs c) := said_ev _ _ (by show 3 ≤ _; omega) (by intro x hx; simp at hx; rcases hx with rfl | rfl | rfl; exact trivial; exact ⟨hb0, by omega⟩; exact ⟨hc0, by omega⟩) (join3_eq (wd a) (dgs b) (dgs c) (by omega))
  have sS : Ev (fun k => impl_said.f k [Any.s (wd a), Any.s s]) ((wd a ++ bl) ++ s) := said_ev _ _ (by show 2 ≤ _; omega) (by intro x hx; simp at hx; rcases hx with rfl | rfl <;> exact trivial) (join2_eq (wd a) s (by omega))
  have one : ∀ y : Bool, y = true → txt a b c s = (wd a ++ bl) ++ dgs b → Ev (fun k => impl_Req_text.j0 k (wd a) a y a b c s) (txt a b c s) := by
    intro y hy ht
    rw [ht]
    refine Ev.succ ?_
    simp only [impl_Req_text.j0]
    exact ev_pos hy (ev_bind sN (ev_some _))
  by_cases a1 : a = 1
  · exact ev_pos a1 (one _ (by simp [a1]) (by simp [txt, a1]))
  · refine ev_neg a1 ?_
    by_cases a3 : a = 3
    · exact ev_pos a3 (one _ (by simp [a3]) (by simp [txt, a3]))
    · refine ev_neg a3 ?_
      by_cases a4 : a = 4
      · exact one _ (by simp [a4]) (by simp [txt, a4])
      · refine Ev.succ ?_
        simp only [impl_Req_text.j0]
        refine ev_neg (by simp [a4]) ?_
        by_cases a2 : a = 2
        · have ht : txt a b c s = (((wd a ++ bl) ++ dgs b) ++ bl) ++ dgs c := by unfold txt; rw [if_neg (by omega), if_pos a2]
          rw [ht]
          exact ev_pos a2 (ev_bind sNN (ev_some _))
        · refine ev_neg a2 ?_
          by_cases a8 : a = 8
          · have ht : txt a b c s = wd a := by unfold txt; rw [if_neg (by omega), if_neg a2, if_pos a8]
            rw [ht]
            exact ev_neg (by omega) (ev_neg (by omega) (ev_neg (by omega) (ev_some _)))
          · have ht : txt a b c s = (wd a ++ bl) ++ s := by unfold txt; rw [if_neg (by omega), if_neg a2, if_neg a8]
            rw [ht]
            by_cases a5 : a = 5
            · exact ev_pos a5 (ev_bind sS (ev_some _))
            · by_cases a6 : a = 6
              · exact ev_neg a5 (ev_pos a6 (ev_bind sS (ev_some _)))
              · exact ev_neg a5 (ev_neg a6 (ev_pos (by omega) (ev_bind sS (ev_some _))))
def told (a b c : Int) (s : ByteArray) : Bool := inB b 0 2147483647 && (inB c 0 2147483647 && (if inB a 5 7 = true then nmOK s else true))
def res (a b c : Int) (s : ByteArray) : ByteArray × Int := if okQ a b c s = true then (if told a b c s = true then (txt a b c s, 0) else ((⟨#[]⟩ : ByteArray), 1)) else ((⟨#[]⟩ : ByteArray), 1)
theorem okQ_facts {a b c : Int} {s : ByteArray} (h : okQ a b c s = true) : 1 ≤ a ∧ a ≤ 8 ∧ (s.size : Int) ≤ 65536 := by
  unfold okQ at h
  simp only [Bool.and_eq_true, inB_iff, Bool.not_eq_true', decide_eq_false_iff_not] at h
  omega
theorem ok_ev (a b c : Int) (s : ByteArray) : Ev (fun k => spec_ReqOK.f k a b c s) (okQ a b c s) ∧ Ev (fun k => impl_ReqOK.f k a b c s) (okQ a b c s) := by
  refine ⟨⟨5, fun k hk => ?_⟩, ⟨5, fun k hk => ?_⟩⟩
  · obtain ⟨j, rfl⟩ : ∃ j, k = j + 5 := ⟨k - 5, by omega⟩
    exact (both_ok a b c s j).1
  · obtain ⟨j, rfl⟩ : ∃ j, k = j + 5 := ⟨k - 5, by omega⟩
    exact (both_ok a b c s j).2
theorem told_facts {a b c : Int} {s : ByteArray} (h : told a b c s = true) : 0 ≤ b ∧ b ≤ 2147483647 ∧ 0 ≤ c ∧ c ≤ 2147483647 := by
  unfold told at h
  simp only [Bool.and_eq_true, inB_iff] at h
  omega
theorem spec_ev (a b c : Int) (s : ByteArray) : Ev (fun k => spec_ReqText.f k a b c s) (res a b c s) := by
  unfold spec_ReqText.f res
  refine ev_bind (ok_ev a b c s).1 ?_
  cases hk : okQ a b c s
  · exact ev_neg (by decide) (ev_some _)
  · obtain ⟨h0, h1, hs⟩ := okQ_facts hk
    have hn := spec_Name_ev s (by omega)
    have hT := fun h => (told_facts (a := a) (b := b) (c := c) (s := s) h)
    refine ev_pos rfl ?_
    simp only [spec_l02Int.f, l01In_eq, Option.bind_some, if_true]
    cases hb : inB b 0 2147483647
    · rw [show told a b c s = false by simp [told, hb]]; exact ev_neg (by decide) (ev_some _)
    · refine ev_pos rfl ?_
      cases hc : inB c 0 2147483647
      · rw [show told a b c s = false by simp [told, hc]]; exact ev_neg (by decide) (ev_some _)
      · refine ev_pos rfl ?_
        cases h5 : inB a 5 7
        · have ht : told a b c s = true := by simp [told, hb, hc, h5]
          obtain ⟨t1, t2, t3, t4⟩ := hT ht
          rw [ht]
          exact ev_neg (by decide) (ev_bind (spec_txt h0 h1 t1 t2 t3 t4 hs) (ev_some _))
        · refine ev_pos rfl (ev_bind hn ?_)
          cases h6 : nmOK s
          · rw [show told a b c s = false by simp [told, h5, h6]]; exact ev_neg (by decide) (ev_some _)
          · have ht : told a b c s = true := by simp [told, hb, hc, h5, h6]
            obtain ⟨t1, t2, t3, t4⟩ := hT ht
            rw [ht]
            exact ev_pos rfl (ev_bind (spec_txt h0 h1 t1 t2 t3 t4 hs) (ev_some _))
theorem impl_ev (a b c : Int) (s : ByteArray) : Ev (fun k => impl_ReqText.f k a b c s) (res a b c s) := by
  unfold impl_ReqText.f res
  refine ev_bind (ok_ev a b c s).2 ?_
  cases hk : okQ a b c s
  · exact ev_neg (by decide) (ev_some _)
  · obtain ⟨h0, h1, hs⟩ := okQ_facts hk
    have hn := impl_Name_ev s (by omega)
    have hI : Ev (fun k => impl_Req_isTold.f k a b c s) (told a b c s) := by
      unfold impl_Req_isTold.f told
      simp only [impl_isNumber.f, within_eq, Option.bind_some]
      cases hb : inB b 0 2147483647
      · exact ev_neg (by decide) (ev_some _)
      · refine ev_pos rfl ?_
        cases hc : inB c 0 2147483647
        · exact ev_neg (by decide) (ev_some _)
        · refine ev_pos rfl ?_
          cases h5 : inB a 5 7
          · exact ev_neg (by decide) (ev_some _)
          · exact ev_pos rfl (ev_bind hn (ev_some _))
    refine ev_pos rfl (ev_bind hI ?_)
    cases ht : told a b c s
    · exact ev_neg (by decide) (ev_some _)
    · obtain ⟨t1, t2, t3, t4⟩ := told_facts ht
      exact ev_pos rfl (ev_bind (impl_txt h0 h1 t1 t2 t3 t4 hs) (ev_some _))
theorem pure : st := by
  intro a b c s _ _ _ hs
  refine Ev.rounds ?_
  unfold laws_FnExactReqText.f laws_toReq.f laws_szReq.f
  by_cases h : (wrap64 (1048576 - (s.size : Int))) < 0
  · simp only [if_pos h, Option.bind_some]
    exact ev_pos (by decide) (ev_some _)
  · simp only [if_neg h, Option.bind_some]
    have hP := spec_ev a b c s
    have hI := impl_ev a b c s
    generalize res a b c s = r at hP hI
    refine ev_bind hP ?_
    refine ev_bind hI ?_
    exact ev_pos rfl (ev_pos rfl (ev_some _))

end Go.Proofs.YtkccdcnpclpdaaaDoor.Q.FnExactReqText
