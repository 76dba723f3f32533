/- laws.FnDisk answers true, for every input within the bounds that any input that came in has. -/
import Derived.Test.YtajflpcihblkfaaStFnDisk
namespace Go.Proofs.Ytajflpcihblkfaa.Q.FnDisk
open Go.RowKit Go.Proofs.Ytajflpcihblkfaa.Ext Go.Proofs.Ytajflpcihblkfaa.Q Go.Proofs.YtajflpcihblkfaaW.PrintWords Go.Proofs.YtajflpcihblkfaaW.PrintLast Go.Proofs.YtajflpcihblkfaaW.PrintMore
set_option linter.unusedVariables false
set_option linter.unusedSimpArgs false
theorem readSector_eq {d : List ByteArray} {l : List S92} (h : diskOK d l = true) {a b : Int} (h0 : 0 ≤ a) (h1 : a ≤ 3) (h2 : 0 ≤ b) (h3 : b ≤ 63) : impl_ReadSector.f d l a b = some (readP d l a b, 0) := by
  obtain ⟨e1, e2, _, _⟩ := disk_in h
  unfold impl_ReadSector.f
  simp only [impl_DiskOK_eq, impl_isHost.f, impl_isPlace.f, within_eq, Option.bind_some, h, inB_iff.2 ⟨h0, h1⟩, inB_iff.2 ⟨h2, h3⟩]
  rw [show impl_first.f [Any.b (!true), Any.n 1, Any.b (!true), Any.n 4, Any.b (!true), Any.n 14] = some 0 from rfl, Option.bind_some, if_pos rfl, impl_read_eq d l a b (by omega) h2 (by omega)]; rfl
theorem write_eq {d : List ByteArray} {l : List S92} (h : diskOK d l = true) (hl : l.length < 200) {a b : Int} (h0 : 0 ≤ a) (h1 : a ≤ 3) (h2 : 0 ≤ b) (h3 : b ≤ 63) (t : ByteArray) (ht : t.size ≤ 80) : impl_WriteSector.f d l a b t = some (d, l ++ [(⟨a, b, t⟩ : S92)], 0) := by
  obtain ⟨e1, e2, _, _⟩ := disk_in h
  unfold impl_WriteSector.f
  have hs : impl_isSector.f t = some true := by unfold impl_isSector.f; rw [decide_eq_true (by omega)]
  have hlen : ((l.length : Int) == 200) = false := beq_eq_false_iff_ne.2 (by omega)
  have hbig : decide ((t.size : Int) > 65536) = false := decide_eq_false (by omega)
  simp only [isLongText_eq, impl_DiskOK_eq, impl_isHost.f, impl_isPlace.f, within_eq, Option.bind_some, h, inB_iff.2 ⟨h0, h1⟩, inB_iff.2 ⟨h2, h3⟩, hbig]
  rw [show impl_first.f [Any.b false, Any.n 2, Any.b (!true), Any.n 1, Any.b (!true), Any.n 4, Any.b (!true), Any.n 14] = some 0 from rfl, Option.bind_some, if_pos rfl, copied_eq d l (by omega) (by omega), Option.bind_some]
  simp only [hs, hlen, Option.bind_some]
  rw [show impl_first.f [Any.b (!true), Any.n 4, Any.b false, Any.n 7] = some 0 from rfl, Option.bind_some, if_pos rfl, if_pos (by omega)]
theorem read_snoc (d : List ByteArray) (l : List S92) (a b : Int) (t : ByteArray) : readP d (l ++ [(⟨a, b, t⟩ : S92)]) a b = t := by
  unfold readP
  rw [List.reverse_append, List.reverse_singleton, List.singleton_append, List.find?_cons]
  simp
theorem read_snoc' (d : List ByteArray) (l : List S92) (a o b : Int) (t : ByteArray) (h : a ≠ o) : readP d (l ++ [(⟨a, b, t⟩ : S92)]) o b = readP d l o b := by
  unfold readP
  rw [List.reverse_append, List.reverse_singleton, List.singleton_append, List.find?_cons]
  simp only [show (a == o && b == b) = false by rw [beq_eq_false_iff_ne.2 h]; rfl]
theorem read_none (d : List ByteArray) (l : List S92) (a b : Int) (h : countOf a l = 0) : readP d l a b = rdOf ByteArray.empty d b := by
  unfold readP
  have : l.reverse.find? (fun x => x.f0 == a && x.f1 == b) = none := by
    rw [List.find?_eq_none]
    intro x hx
    unfold countOf at h
    have := List.filter_eq_nil_iff.1 (List.length_eq_zero_iff.1 h) x (by simpa using hx)
    simp at this
    simp [this]
  rw [this]
theorem pure : st := by
  intro c m hc hm
  refine Ev.rounds ?_
  have hc' := bytes_of (l := c) (fun x hx => hc.2 x hx)
  have hm' := bytes_of (l := m) (fun x hx => hm.2 x hx)
  have key : ∀ b, Ev (fun k => laws_FnDisk.j0 k c m b) true := by
    intro b
    refine Ev.succ ?_
    simp only [laws_FnDisk.j0]
    cases b
    · simp only [Bool.false_eq_true, if_false]
      obtain ⟨D, P, hD, hok, hP⟩ := disk_drawn c hc'
      obtain ⟨d1, d2, d3, d4⟩ := disk_in hok
      obtain ⟨a, ea, a0, -, a1⟩ := at_ok m hm' 0 (by omega) (by omega) 4
      have a1' := a1 (by omega)
      obtain ⟨p, ep, p0, -, p1⟩ := at_ok m hm' 1 (by omega) (by omega) 64
      have p1' := p1 (by omega)
      obtain ⟨t, hT, ht⟩ := text_drawn m hm' 6 (by omega)
      rw [show (((6 : Nat) : Int)) = 6 from rfl] at hT
      obtain ⟨q, eq, q0, -, q1⟩ := at_ok m hm' 2 (by omega) (by omega) 4
      have q1' := q1 (by omega)
      obtain ⟨j, rfl⟩ : ∃ j : Nat, q = (j : Int) := ⟨q.toNat, by omega⟩
      have hw1 : wrap64 (a + 1) = a + 1 := w64 (by omega) (by omega)
      have ho : ∃ o, Int.tmod (a + 1) 4 = o ∧ 0 ≤ o ∧ o ≤ 3 ∧ a ≠ o := ⟨_, rfl, by rw [Int.tmod_eq_emod_of_nonneg (by omega)]; omega, by rw [Int.tmod_eq_emod_of_nonneg (by omega)]; omega, by rw [Int.tmod_eq_emod_of_nonneg (by omega)]; omega⟩
      obtain ⟨o, eo, o0, o1, o2⟩ := ho
      have hX : diskOK D (P ++ [(⟨a, p, t⟩ : S92)]) = true := disk_of d1 (by simp; omega) d3 (by
        intro x hx
        rcases List.mem_append.1 hx with hx | hx
        · exact d4 x hx
        · rw [List.mem_singleton.1 hx]; exact io_of a0 (by show a ≤ 3; omega) p0 (by show p ≤ 63; omega) (by show t.size ≤ 80; omega))
      have eW := write_eq hok (by omega) a0 (by omega) p0 (by omega) t (by omega)
      have eR1 := readSector_eq hX a0 (by omega) p0 (show p ≤ 63 by omega)
      have eR2 := readSector_eq hX o0 o1 p0 (show p ≤ 63 by omega)
      have eR3 := readSector_eq hok o0 o1 p0 (show p ≤ 63 by omega)
      rw [read_snoc] at eR1
      rw [read_snoc' D P a o p t o2] at eR2
      have eF := flush_eq hX a0 (show a ≤ 3 by omega)
      have sF := flush_spec hX a0 (show a ≤ 3 by omega)
      have hY := land_ok hX a 200 false
      have eL := lose_eq hY a0 (show a ≤ 3 by omega) j (by omega)
      have hZ := land_ok hY a j true
      have eR4 := readSector_eq hZ a0 (show a ≤ 3 by omega) p0 (show p ≤ 63 by omega)
      have hN := pending_ev hY a0 (show a ≤ 3 by omega)
      have hcX : countOf a (P ++ [(⟨a, p, t⟩ : S92)]) ≤ 200 := by
        have := count_le a (P ++ [(⟨a, p, t⟩ : S92)])
        simp only [List.length_append, List.length_singleton] at this
        omega
      have hcY : countOf a (landP a false (P ++ [(⟨a, p, t⟩ : S92)]) 200) = 0 := by rw [count_landP]; omega
      have hcP : countOf a P < 200 := by have := count_le a P; omega
      have hlen := (disk_in hZ).1
      rw [hcY] at hN
      have hread : readP (landS a (landP a false (P ++ [(⟨a, p, t⟩ : S92)]) 200) j (landS a (P ++ [(⟨a, p, t⟩ : S92)]) 200 D)) (landP a true (landP a false (P ++ [(⟨a, p, t⟩ : S92)]) 200) j) a p = t := by
        rw [read_none _ _ _ _ (by rw [landP_true]; exact count_filter _ _), landS_more a _ j 0 _ (by omega) (by omega), landS0, landS_snoc a (⟨a, p, t⟩ : S92) rfl P 200 D hcP]
        have hs := (landS_ok a P 200 D (fun x hx => (io_in (d4 x hx)).2.2.2.2) d3).1
        obtain ⟨i, rfl⟩ : ∃ i : Nat, p = (i : Int) := ⟨p.toNat, by omega⟩
        have hi : i < (landS a P 200 D).length := by omega
        simp only [rdOf, Int.toNat_natCast]
        simp [hi]
      rw [hread] at eR4
      have hYl := disk_in hY
      refine ev_bind hD ?_
      simp only [ea, ep, Option.bind_some]
      refine ev_bind hT ?_
      simp only [eW, eR1, hw1, eo, eR2, eR3, eF, eq, eL, eR4, Option.bind_some]
      refine ev_bind sF (ev_bind hN (ev_pos (by first | rfl | trivial) (ev_pos (by first | rfl | trivial) (ev_pos (by first | rfl | trivial) (ev_pos (by first | rfl | trivial) (ev_pos (by first | rfl | trivial) (ev_pos (by first | rfl | trivial) (ev_pos (by first | rfl | trivial) (ev_bind (sameDisk_ev _ _ (by omega) (by omega)) (ev_pos rfl (ev_pos (by first | rfl | trivial) (ev_pos (by first | rfl | trivial) (ev_pos (by first | rfl | trivial) (ev_pos (by first | rfl | trivial) (ev_pos (by first | rfl | trivial) ?_)))))))))))))))
      simp only [impl_DiskOK_eq, Option.bind_some, hZ]
      exact ev_some _
    · simp only [if_true]; exact ev_some _
  unfold laws_FnDisk.f
  by_cases h : (c.length : Int) > 1048576
  · exact ev_pos h (key _)
  · exact ev_neg h (key _)

end Go.Proofs.Ytajflpcihblkfaa.Q.FnDisk
