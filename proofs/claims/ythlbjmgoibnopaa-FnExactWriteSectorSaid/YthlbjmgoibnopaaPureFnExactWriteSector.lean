/- laws.FnExactWriteSector answers true, for every input within the bounds that any input that came in has. -/
import Derived.Test.YthlbjmgoibnopaaStFnExactWriteSector
namespace Go.Proofs.Ythlbjmgoibnopaa.Q.FnExactWriteSector
open Go.RowKit Go.Proofs.Ythlbjmgoibnopaa.Ext Go.Proofs.Ythlbjmgoibnopaa.Q Go.Proofs.YthlbjmgoibnopaaW.PrintWords Go.Proofs.YthlbjmgoibnopaaW.PrintLast Go.Proofs.YthlbjmgoibnopaaW.PrintMore
set_option linter.unusedVariables false
set_option linter.unusedSimpArgs false
def ans (d : List ByteArray) (l : List S122) (a b : Int) (c : ByteArray) : List ByteArray × List S122 × Int :=
  if (c.size : Int) > 65536 then ([], [], 2) else if diskOK d l = true then (if inB a 0 3 = true then (if inB b 0 63 = true then (if (c.size : Int) > 80 then (d, l, 4) else if (l.length : Int) = 200 then (d, l, 7) else (d, l ++ [⟨a, b, c⟩], 0)) else ([], [], 14)) else ([], [], 4)) else ([], [], 1)
theorem own_eq (d : List ByteArray) (l : List S122) (hd : d.length ≤ 1000000000) (hl : l.length ≤ 1000000000) : spec_l01Own.f d l = some (d, l) := by
  unfold spec_l01Own.f
  simp only [Option.bind_some, List.length_nil, List.nil_append]
  rw [if_pos (by omega), if_pos (by omega)]
theorem write_eq (d : List ByteArray) (l : List S122) (a b : Int) (c : ByteArray) (hl : l.length ≤ 1000000000) : spec_l01Write.f d l a b c = some (d, l ++ [⟨a, b, c⟩]) := by
  unfold spec_l01Write.f
  simp only [Option.bind_some, List.length_nil, List.nil_append, List.length_singleton]
  rw [if_pos (by omega), if_pos (by omega)]
theorem spec_ev (d : List ByteArray) (l : List S122) (a b : Int) (c : ByteArray) (hd : d.length ≤ 1048576) (hl : l.length ≤ 1048576) : Ev (fun k => spec_WriteSector.f k d l a b c) (ans d l a b c) := by
  unfold spec_WriteSector.f ans spec_l01Ask.f
  by_cases h1 : (c.size : Int) > 65536
  · rw [if_pos h1]; exact ev_pos h1 (ev_some _)
  · rw [if_neg h1]; refine ev_neg h1 (ev_bind (a := if diskOK d l = true then (if inB a 0 3 = true then (if inB b 0 63 = true then 0 else 14) else 4) else 1) (ev_bind (spec_DiskOK_ev d l (by omega) (by omega)) ?_) ?_)
    · cases diskOK d l
      · exact ev_some _
      · simp only [l01In_eq, Option.bind_some, if_true]
        cases inB a 0 3
        · exact ev_some _
        · cases inB b 0 63 <;> exact ev_some _
    · cases diskOK d l
      · exact ev_neg (by simp) (ev_some _)
      · cases inB a 0 3
        · exact ev_neg (by simp) (ev_some _)
        · cases inB b 0 63
          · exact ev_neg (by simp) (ev_some _)
          · simp only [if_true]
            by_cases h2 : (c.size : Int) > 80
            · rw [if_pos h2, if_pos h2, own_eq d l (by omega) (by omega)]; exact ev_some _
            · rw [if_neg h2, if_neg h2]
              by_cases h3 : (l.length : Int) = 200
              · rw [if_pos h3, if_pos h3, own_eq d l (by omega) (by omega)]; exact ev_some _
              · rw [if_neg h3, if_neg h3, write_eq d l a b c (by omega), Option.bind_some, own_eq d _ (by omega) (by simp; omega)]; exact ev_some _
theorem impl_eq (d : List ByteArray) (l : List S122) (a b : Int) (c : ByteArray) (hd : d.length ≤ 1048576) (hl : l.length ≤ 1048576) : impl_WriteSector.f d l a b c = some (ans d l a b c) := by
  unfold impl_WriteSector.f ans
  simp only [isLongText_eq, impl_DiskOK_eq, impl_isHost.f, impl_isPlace.f, within_eq, impl_isSector.f, impl_Disk_copied.f, slices_Clone_string_string.f, impl_Io_183.f, Option.bind_some, first4, first2]
  rw [if_pos (by omega : d.length < 8796093022208), if_pos (by omega : l.length < 4398046511104)]
  simp only [Option.bind_some]
  by_cases h1 : (c.size : Int) > 65536
  · simp [h1]
  · simp only [h1, decide_false, if_false, Bool.false_eq_true]
    cases diskOK d l
    · simp
    · cases inB a 0 3
      · simp
      · cases inB b 0 63
        · simp
        · simp only [Bool.not_true, Bool.false_eq_true, if_false, if_true]
          by_cases h2 : (c.size : Int) > 80
          · have h2' : ¬ (c.size : Int) ≤ 80 := by omega
            simp only [h2', decide_false, Bool.not_false, if_true, h2]; rfl
          · have h2' : (c.size : Int) ≤ 80 := by omega
            simp only [h2', decide_true, Bool.not_true, Bool.false_eq_true, if_false, h2]
            by_cases h3 : (l.length : Int) = 200
            · simp [h3]
            · have h3' : ((l.length : Int) == 200) = false := by simpa using h3
              simp only [h3', Bool.false_eq_true, if_false, h3, if_true]
              rw [if_pos (by omega)]
theorem pure : st := by
  intro d l a b c hd hl _ _ hc
  refine Ev.rounds ?_
  unfold laws_FnExactWriteSector.f
  by_cases h : (c.size : Int) > 1048576
  · exact ev_pos h (ev_some _)
  · refine ev_neg h ?_
    obtain ⟨s, h1, h2⟩ := szDisk_ev d l hd.1 (fun x hx => hd.2 x hx) hl.1 (fun x hx => (hl.2 x hx).2.2)
    refine ev_bind h1 ?_
    by_cases hs : s < 0
    · exact ev_pos hs (ev_some _)
    · refine ev_neg hs ?_
      rcases h2 with h2 | ⟨b1, b2, b3, b4⟩
      · exact absurd h2 hs
      · have hT := toDisk_ev d l b1 b2
        have hl' : (l.map cvIo).length ≤ 1048576 := by simpa using b2
        generalize l.map cvIo = l' at hT hl'
        have hP := spec_ev d l' a b c b1 hl'
        have hI : Ev (fun _ => impl_WriteSector.f d l' a b c) (ans d l' a b c) := ev_of_eq (fun _ => impl_eq d l' a b c b1 hl')
        have hb : (ans d l' a b c).1.length ≤ 1048576 ∧ (ans d l' a b c).2.1.length ≤ 1048577 := by
          unfold ans; split
          · simp
          · split
            · split
              · split
                · split
                  · exact ⟨b1, by show l'.length ≤ _; omega⟩
                  · split
                    · exact ⟨b1, by show l'.length ≤ _; omega⟩
                    · exact ⟨b1, by simp; omega⟩
                · simp
              · simp
            · simp
        rcases hr : ans d l' a b c with ⟨r1, r2, r3⟩
        rw [hr] at hP hI hb
        have hE := eqDisk_ev r1 r2 (by have := hb.1; simp at this; omega) (by have := hb.2; simp at this; omega)
        have hD := eqDisk_ev d l' (by omega) (by omega)
        obtain ⟨m, e1, e2, hm, hM, hH⟩ := markDisk_ev r1 r2 (by have := hb.1; simp at this; omega) (by have := hb.2; simp at this; omega)
        obtain ⟨m', e1', e2', hm', hM', _⟩ := markDisk_ev d l' (by omega) (by omega)
        (repeat (first | exact ev_some _ | (refine ev_bind (by assumption) ?_; try dsimp only) | (refine ev_pos (by first | rfl | assumption | omega) ?_) | (refine ev_neg (by first | exact Bool.false_ne_true | assumption | omega) ?_)))
        simp only [bne_self_eq_false]
        refine Ev.succ ?_
        simp only [laws_FnExactWriteSector.j0, Bool.false_eq_true, if_false]
        (repeat (first | exact ev_some _ | (refine ev_bind (by assumption) ?_; try dsimp only) | (refine ev_pos (by first | rfl | assumption | omega) ?_) | (refine ev_neg (by first | exact Bool.false_ne_true | assumption | omega) ?_)))
        simp only [bne_self_eq_false]
        refine Ev.succ ?_
        simp only [laws_FnExactWriteSector.j1, Bool.false_eq_true, if_false]
        (repeat (first | exact ev_some _ | (refine ev_bind (by assumption) ?_; try dsimp only) | (refine ev_pos (by first | rfl | assumption | omega) ?_) | (refine ev_neg (by first | exact Bool.false_ne_true | assumption | omega) ?_)))
        simp only [bne_self_eq_false]
        refine Ev.succ ?_
        simp only [laws_FnExactWriteSector.j2, Bool.false_eq_true, if_false]
        (repeat (first | exact ev_some _ | (refine ev_bind (by assumption) ?_; try dsimp only) | (refine ev_pos (by first | rfl | assumption | omega) ?_) | (refine ev_neg (by first | exact Bool.false_ne_true | assumption | omega) ?_)))

end Go.Proofs.Ythlbjmgoibnopaa.Q.FnExactWriteSector
