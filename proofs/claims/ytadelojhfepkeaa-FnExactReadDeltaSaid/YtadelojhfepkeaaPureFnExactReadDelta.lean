/- laws.FnExactReadDelta answers true, for every input within the bounds that any input that came in has. -/
import Derived.Test.YtadelojhfepkeaaStFnExactReadDelta
namespace Go.Proofs.Ytadelojhfepkeaa.Q.FnExactReadDelta
open Go.RowKit Go.Proofs.Ytadelojhfepkeaa.Ext Go.Proofs.Ytadelojhfepkeaa.Q Go.Proofs.YtadelojhfepkeaaW.PrintWords Go.Proofs.YtadelojhfepkeaaW.PrintLast Go.Proofs.YtadelojhfepkeaaW.PrintMore
set_option linter.unusedVariables false
set_option linter.unusedSimpArgs false
def ans (d : List ByteArray) (l : List S76) (a b : Int) : Int × Int × Int × Int :=
  if isDelta (readP d l a (5 + b)) = true then (if rd (recNums (readP d l a (5 + b))) 0 = b then (rd (recNums (readP d l a (5 + b))) 0, rd (recNums (readP d l a (5 + b))) 1, rd (recNums (readP d l a (5 + b))) 2, 0) else (0, 0, 0, 5)) else (0, 0, 0, 5)
theorem spec_in {d : List ByteArray} {l : List S76} (h : diskOK d l = true) (a b : Int) (hb : inB b 0 3 = true) : Ev (fun k => (spec_l04Read.f k d l a b).bind fun bt => (if bt.2.1 = 0 then (some (0, 0, 0, 5)) else (some (bt.1, bt.2.1, bt.2.2, 0)))) (ans d l a b) := by
  obtain ⟨h1, h2⟩ := disk_len h
  have hb' := inB_iff.1 hb
  have hs := readP_size h a (5 + b) (by omega) (by omega)
  unfold spec_l04Read.f ans
  rw [w64 (n := 5 + b) (by omega) (by omega)]
  generalize ht : readP d l a (5 + b) = t at hs
  have hr : Ev (fun k => spec_l01Read.f k d l a (5 + b)) t := by rw [← ht]; exact spec_read_ev d l a (5 + b) (by omega) (by omega) (by omega)
  have hdt := spec_l04Decode_ev t (by omega)
  unfold deltaAt at hdt
  cases hk : isDelta t
  · rw [hk] at hdt
    exact ev_bind (ev_bind hr (ev_bind hdt (ev_neg (by simp) (ev_some _)))) (ev_pos rfl (ev_some _))
  · rw [hk] at hdt
    by_cases c : rd (recNums t) 0 = b
    · have hpos : rd (recNums t) 1 ≠ 0 := by
        unfold isDelta deltaOK at hk
        simp only [Bool.and_eq_true] at hk
        have := inB_iff.1 hk.2.2.2.1
        omega
      simp only [if_true, if_pos c]
      exact ev_bind (ev_bind hr (ev_bind hdt (ev_pos rfl (ev_pos c (ev_some _))))) (ev_neg hpos (ev_some _))
    · simp only [if_true, if_neg c]
      exact ev_bind (ev_bind hr (ev_bind hdt (ev_pos rfl (ev_neg c (ev_some _))))) (ev_pos rfl (ev_some _))
theorem impl_in {d : List ByteArray} {l : List S76} (h : diskOK d l = true) (a b : Int) (hb : inB b 0 3 = true) : Ev (fun k => (impl_Disk_delta.f k d l a b).bind fun bt => (if bt.2.2.2 = true then (some (bt.1, bt.2.1, bt.2.2.1, 0)) else (some (0, 0, 0, 5)))) (ans d l a b) := by
  obtain ⟨h1, h2⟩ := disk_len h
  have hb' := inB_iff.1 hb
  have hs := readP_size h a (5 + b) (by omega) (by omega)
  unfold impl_Disk_delta.f ans
  rw [w64 (n := 5 + b) (by omega) (by omega), impl_read_eq d l a (5 + b) (by omega) (by omega) (by omega)]
  simp only [Option.bind_some]
  generalize readP d l a (5 + b) = t at hs
  have hdt := impl_deltaOf_ev t (by omega)
  unfold deltaAt at hdt
  cases hk : isDelta t
  · rw [hk] at hdt
    exact ev_bind (ev_bind hdt (ev_neg (by simp) (ev_some _))) (ev_neg (by simp) (ev_some _))
  · rw [hk] at hdt
    by_cases c : rd (recNums t) 0 = b
    · simp only [if_true, if_pos c]
      exact ev_bind (ev_bind hdt (ev_pos rfl (ev_pos c (ev_some _)))) (ev_pos rfl (ev_some _))
    · simp only [if_true, if_neg c]
      exact ev_bind (ev_bind hdt (ev_pos rfl (ev_neg c (ev_some _)))) (ev_neg (by simp) (ev_some _))
theorem both (d : List ByteArray) (l : List S76) (a b : Int) (hd : d.length ≤ 1048576) (hl : l.length ≤ 1048576) : ∃ r : Int × Int × Int × Int, Ev (fun k => spec_ReadDelta.f k d l a b) r ∧ Ev (fun k => impl_ReadDelta.f k d l a b) r := by
  have hA := ask_ev d l a (by omega) (by omega)
  unfold spec_ReadDelta.f impl_ReadDelta.f
  simp only [impl_DiskOK_eq, impl_isHost.f, within_eq, spec_l04Host.f, l01In_eq, Option.bind_some]
  have bad : ∀ c : Int, c ≠ 0 → Ev (fun k => impl_ReadDelta.j0 k a b c d l) (0, 0, 0, c) := fun c hc => by
    refine Ev.succ ?_
    simp only [impl_ReadDelta.j0]
    exact ev_neg hc (ev_some _)
  cases hk : diskOK d l
  · rw [hk] at hA
    refine ⟨(0, 0, 0, 1), ev_bind hA (ev_neg (by simp) (ev_some _)), ?_⟩
    cases inB a 0 3
    · refine ev_neg (by decide) ?_
      have e : impl_first.f [Any.b (!false), Any.n 1, Any.b true, Any.n 4] = some 1 := by simp [impl_first.f, firstO]
      rw [e]; exact bad 1 (by decide)
    · refine ev_pos (by simp) ?_
      have e : impl_first.f [Any.b (!false), Any.n 1, Any.b (!inB b 0 3), Any.n 4] = some 1 := by simp [impl_first.f, firstO]
      rw [e]; exact bad 1 (by decide)
  · rw [hk] at hA
    cases hi : inB a 0 3
    · rw [hi] at hA
      refine ⟨(0, 0, 0, 4), ev_bind hA (ev_neg (by simp) (ev_some _)), ?_⟩
      refine ev_neg (by decide) ?_
      have e : impl_first.f [Any.b (!true), Any.n 1, Any.b true, Any.n 4] = some 4 := by simp [impl_first.f, firstO]
      rw [e]; exact bad 4 (by decide)
    · rw [hi] at hA
      cases hj : inB b 0 3
      · refine ⟨(0, 0, 0, 4), ev_bind hA (ev_pos (by simp) (ev_neg (by simp) (ev_some _))), ?_⟩
        refine ev_pos (by simp) ?_
        have e : impl_first.f [Any.b (!true), Any.n 1, Any.b (!false), Any.n 4] = some 4 := by simp [impl_first.f, firstO]
        rw [e]; exact bad 4 (by decide)
      · refine ⟨ans d l a b, ev_bind hA (ev_pos (by simp) (ev_pos (by simp) (spec_in hk a b hj))), ?_⟩
        refine ev_pos (by simp) ?_
        have e : impl_first.f [Any.b (!true), Any.n 1, Any.b (!true), Any.n 4] = some 0 := by simp [impl_first.f, firstO]
        rw [e]
        show Ev (fun k => impl_ReadDelta.j0 k a b 0 d l) _
        refine Ev.succ ?_
        simp only [impl_ReadDelta.j0]
        exact ev_pos (by simp) (impl_in hk a b hj)
theorem pure : st := by
  intro d l a b hd hl _ _
  refine Ev.rounds ?_
  unfold laws_FnExactReadDelta.f
  obtain ⟨s, h1, h2⟩ := szDisk_ev d l hd.1 (fun x hx => hd.2 x hx) hl.1 (fun x hx => (hl.2 x hx).2.2)
  refine ev_bind h1 ?_
  by_cases hs : s < 0
  · exact ev_pos hs (ev_some _)
  · refine ev_neg hs ?_
    rcases h2 with h2 | ⟨b1, b2, b3, b4⟩
    · exact absurd h2 hs
    · have hT := toDisk_ev d l b1 b2
      have hl' : (l.map cvIo).length ≤ 1048576 := by simpa using b2
      generalize l.map cvIo = l' at hT hl'
      obtain ⟨⟨r1, r2, r3, r4⟩, hP, hI⟩ := both d l' a b (by omega) (by omega)
      have hD := eqDisk_ev d l' (by omega) (by omega)
      have hE : Ev (fun _ => laws_eqDelta.f r1 r2 r3 r1 r2 r3) true := by
        simp only [laws_eqDelta.f, if_true]; exact ev_some _
      refine ev_bind hT (ev_bind hP (ev_bind hT (ev_bind hI (ev_bind hE (ev_pos rfl (Ev.succ ?_))))))
      simp only [laws_FnExactReadDelta.j0]
      exact ev_neg (by simp) (ev_bind hT (ev_bind hD (ev_pos rfl (ev_some _))))

end Go.Proofs.Ytadelojhfepkeaa.Q.FnExactReadDelta
