/- laws.FnExactGuestOK answers true, for every input within the bounds that any input that came in has. -/
import Derived.Test.YtbojcpgfkppkbaaStFnExactGuestOK
namespace Go.Proofs.Ytbojcpgfkppkbaa.Q.FnExactGuestOK
open Go.RowKit Go.Proofs.Ytbojcpgfkppkbaa.Ext Go.Proofs.Ytbojcpgfkppkbaa.Q Go.Proofs.YtbojcpgfkppkbaaW.PrintWords Go.Proofs.YtbojcpgfkppkbaaW.PrintLast Go.Proofs.YtbojcpgfkppkbaaW.PrintMore
set_option linter.unusedVariables false
set_option linter.unusedSimpArgs false
theorem ev_allE {g : Nat → Nat → Option Bool} (n : Nat) (P : Nat → Bool) (r : Bool) (hend : Ev (fun k => g k n) r) (hstep : ∀ i, i < n → ∀ b, Ev (fun k => g k (i + 1)) b → Ev (fun k => g k i) (P i && b)) : Ev (fun k => g k 0) ((List.range n).all P && r) := by
  have hgo : ∀ d i, i ≤ n → n - i = d → Ev (fun k => g k i) (((List.range n).drop i).all P && r) := by
    intro d
    induction d with
    | zero =>
      intro i hi hd
      have e : i = n := by omega
      subst e
      rw [List.drop_of_length_le (by simp)]; simp only [List.all_nil, Bool.true_and]; exact hend
    | succ d ih =>
      intro i hi hd
      have hlt : i < (List.range n).length := by simp; omega
      have := hstep i (by omega) _ (ih (i + 1) (by omega) (by omega))
      rw [List.drop_eq_getElem_cons hlt, List.all_cons, List.getElem_range, Bool.and_assoc]
      exact this
  have := hgo n 0 (by omega) (by omega)
  rwa [List.drop_zero] at this
def valsOK (l : List Int) : Bool := l.all (fun n => inB n 0 2147483647) && decide ((l.length : Int) ≤ 12)
theorem spec_vals_ev (l : List Int) (hl : l.length ≤ 1000000000) : Ev (fun k => spec_l14Values.f k l) (valsOK l) := by
  unfold spec_l14Values.f valsOK
  refine ev_all (g := fun k i => spec_l14Values.l0 k l (i : Int)) l _ _ ?_ ?_
  · refine Ev.step (f := fun _ => some (decide ((l.length : Int) ≤ 12))) (fun k => ?_) (ev_some _)
    simp only [spec_l14Values.l0]; rw [if_neg (by omega)]
  · intro i hi k
    simp only [spec_l14Values.l0, spec_l02Int.f, l01In_eq, Option.bind_some]
    rw [if_pos (by omega), if_pos (by omega), rdn l i hi, wnext i (by omega)]
theorem impl_vals_eq (l : List Int) : impl_areValues.f l = some (valsOK l) := by
  have hA : all131_impl_isNumber.f l () = some (l.all (fun n => inB n 0 2147483647)) := by unfold all131_impl_isNumber.f; exact allO_some _ _ (fun x _ => by simp only [impl_isNumber.f, within_eq, Option.bind_some])
  unfold impl_areValues.f valsOK
  rw [hA, Option.bind_some]
  by_cases h : (l.length : Int) ≤ 12
  · rw [if_pos h, decide_eq_true h, Bool.and_true]
  · rw [if_neg h, decide_eq_false h, Bool.and_false]
def nm (l : List S117) (i : Nat) : ByteArray := (rd_T117 l (i : Int)).f0
def okAt (l : List S117) (i : Nat) : Bool := nmOK (nm l i) && (valsOK (rd_T117 l (i : Int)).f1 && (List.range i).all (fun j => decide (nm l j ≠ nm l i)))
theorem spec_ev (v : List Int) (l : List S117) (hv : v.length ≤ 1000000000) (hl : l.length ≤ 1000000000) (hs : ∀ x ∈ l, x.f0.size ≤ 1000000000 ∧ x.f1.length ≤ 1000000000) : Ev (fun k => spec_GuestOK.f k v l) (valsOK v && (decide ((l.length : Int) ≤ 3) && (List.range l.length).all (okAt l))) := by
  have hL : Ev (fun k => spec_GuestOK.l0 k ((0 : Nat) : Int) v l) ((List.range l.length).all (okAt l) && true) := by
    refine ev_allE (g := fun k i => spec_GuestOK.l0 k (i : Int) v l) l.length (okAt l) true ?_ ?_
    · refine Ev.step (f := fun _ => some true) (fun k => ?_) (ev_some _)
      simp only [spec_GuestOK.l0]; rw [if_neg (by omega)]
    · intro i hi b hb
      have hmem := hs l[i] (List.getElem_mem hi)
      have hin : Ev (fun k => spec_GuestOK.l1 k (i : Int) ((0 : Nat) : Int) v l) ((List.range i).all (fun j => decide (nm l j ≠ nm l i)) && b) := by
        refine ev_all (g := fun k j => spec_GuestOK.l1 k (i : Int) (j : Int) v l) (List.range i) _ b ?_ ?_
        · rw [List.length_range]
          refine Ev.step (f := fun k => spec_GuestOK.l0 k ((i + 1 : Nat) : Int) v l) (fun k => ?_) hb
          simp only [spec_GuestOK.l1]; rw [if_neg (by omega), wnext i (by omega)]
        · intro j hj k
          rw [List.length_range] at hj
          simp only [spec_GuestOK.l1, List.getElem_range]
          rw [if_pos (by omega), if_pos (by omega), if_pos (by omega), if_pos (by omega), if_pos (by omega), wnext j (by omega)]
          show (if (nm l j).toList = (nm l i).toList then some false else _) = _
          by_cases c : nm l j = nm l i
          · rw [if_pos (by rw [c]), if_neg (by simp [c])]
          · rw [if_neg (fun h => c (toList_inj.1 h)), if_pos (by simp [c])]
      refine Ev.succ ?_
      simp only [spec_GuestOK.l0]
      refine ev_pos (by omega) (ev_pos (by omega) ?_)
      have e1 : (rd_T117 l (i : Int)).f0 = nm l i := rfl
      have e2 := rdE_Shot l i hi
      unfold okAt
      rw [e1]
      refine ev_bind (spec_Name_ev _ (by unfold nm; rw [e2]; exact hmem.1)) ?_
      cases nmOK (nm l i)
      · refine ev_neg (by decide) (Ev.succ ?_)
        simp only [spec_GuestOK.j2, if_true, Bool.false_and]; exact ev_some _
      · refine ev_pos rfl (ev_bind (spec_vals_ev _ (by rw [e2]; exact hmem.2)) (Ev.succ ?_))
        cases valsOK (rd_T117 l (i : Int)).f1
        · simp only [spec_GuestOK.j2, Bool.not_false, if_true, Bool.false_and, Bool.and_false]; exact ev_some _
        · simp only [spec_GuestOK.j2, Bool.not_true, Bool.false_eq_true, if_false, Bool.true_and]; exact hin
  rw [Bool.and_true] at hL
  unfold spec_GuestOK.f
  refine ev_bind (spec_vals_ev v hv) ?_
  cases valsOK v
  · refine ev_neg (by decide) (Ev.succ ?_)
    simp only [spec_GuestOK.j0, if_true, Bool.false_and]; exact ev_some _
  · refine ev_pos rfl (Ev.succ ?_)
    simp only [spec_GuestOK.j0, decide_eq_true_eq, Bool.true_and]
    by_cases h3 : (l.length : Int) ≤ 3
    · rw [decide_eq_true h3, Bool.true_and]; exact ev_neg (by omega) hL
    · rw [decide_eq_false h3, Bool.false_and]; exact ev_pos (by omega) (ev_some _)
theorem names_ev (v : List Int) (l : List S117) (hl : l.length ≤ 1000000000) : Ev (fun k => impl_Guest_names.f k v l) (l.map (·.f0)) := by
  unfold impl_Guest_names.f
  have h := ev_loop (g := fun k i => impl_Guest_names.l0 k ((l.map (·.f0)).take i) l (l.length : Int) (i : Int)) (r := l.map (·.f0)) l.length ?_ ?_ l.length 0 (by omega) (by omega)
  · simpa using h
  · refine Ev.step (f := fun _ => some (l.map (·.f0))) (fun k => ?_) (ev_some _)
    simp only [impl_Guest_names.l0]
    rw [if_neg (by omega), List.take_of_length_le (by simp)]
  · intro i hi
    refine ⟨1, fun k => ⟨?_, by omega⟩⟩
    simp only [impl_Guest_names.l0]
    rw [if_pos (by omega), if_pos (by omega), if_pos (by omega), if_pos (by simp; omega), rdE_Shot l i hi, wnext i (by omega), List.take_succ_eq_append_getElem (by simpa using hi), List.getElem_map]
theorem same (l : List S117) : (List.range l.length).all (okAt l) = ((l.map (·.f0)).all nmOK && decide (l.map (·.f0)).Nodup && l.all (fun x => valsOK x.f1)) := by
  have hn : ∀ i (h : i < l.length), nm l i = l[i].f0 := fun i h => by unfold nm; rw [rdE_Shot l i h]
  rw [Bool.eq_iff_iff]
  simp only [Bool.and_eq_true, List.all_eq_true, decide_eq_true_eq, List.mem_range, List.mem_map]
  constructor
  · intro h
    have h' : ∀ i (hi : i < l.length), nmOK l[i].f0 = true ∧ valsOK l[i].f1 = true ∧ ∀ j, j < i → nm l j ≠ nm l i := fun i hi => by
      have := h i hi
      unfold okAt at this
      simp only [Bool.and_eq_true, List.all_eq_true, decide_eq_true_eq, List.mem_range] at this
      rw [hn i hi, rdE_Shot l i hi] at this
      exact ⟨this.1, this.2.1, fun j hj => by have := this.2.2 j hj; rw [hn i hi]; exact this⟩
    refine ⟨⟨?_, ?_⟩, ?_⟩
    · rintro x ⟨y, hy, rfl⟩
      obtain ⟨i, hi, rfl⟩ := List.getElem_of_mem hy
      exact (h' i hi).1
    · rw [List.nodup_iff_pairwise_ne, List.pairwise_iff_getElem]
      intro i j hi hj hij
      rw [List.length_map] at hi hj
      have := (h' j hj).2.2 i hij
      rw [hn i hi, hn j hj] at this
      simpa using this
    · intro x hx
      obtain ⟨i, hi, rfl⟩ := List.getElem_of_mem hx
      exact (h' i hi).2.1
  · rintro ⟨⟨h1, h2⟩, h3⟩ i hi
    unfold okAt
    simp only [Bool.and_eq_true, List.all_eq_true, decide_eq_true_eq, List.mem_range]
    rw [rdE_Shot l i hi]
    refine ⟨?_, h3 _ (List.getElem_mem hi), fun j hj => ?_⟩
    · rw [hn i hi]; exact h1 _ ⟨_, List.getElem_mem hi, rfl⟩
    · rw [hn i hi, hn j (by omega)]
      have := List.pairwise_iff_getElem.1 (List.nodup_iff_pairwise_ne.1 h2) j i (by simp; omega) (by simpa using hi) hj
      simpa using this
theorem impl_ev (v : List Int) (l : List S117) (hl : l.length ≤ 1000000000) (hs : ∀ x ∈ l, x.f0.size ≤ 1000000000) : Ev (fun k => impl_GuestOK.f k v l) (valsOK v && (decide ((l.length : Int) ≤ 3) && (List.range l.length).all (okAt l))) := by
  unfold impl_GuestOK.f
  simp only [impl_vals_eq, Option.bind_some]
  rw [same]
  cases valsOK v
  · exact ev_neg (by decide) (ev_some _)
  · refine ev_pos rfl ?_
    rw [Bool.true_and]
    by_cases h3 : (l.length : Int) ≤ 3
    · refine ev_pos h3 (ev_bind (names_ev v l hl) (ev_bind (areNames_ev _ (by simpa using hl) (fun x hx => by
        obtain ⟨y, hy, rfl⟩ := List.mem_map.1 hx; exact hs y hy)) ?_))
      have e : namesOK (l.map (·.f0)) = ((l.map (·.f0)).all nmOK && decide (l.map (·.f0)).Nodup) := by
        unfold namesOK; rw [decide_eq_true (by simpa using h3), Bool.true_and]
      have hA : all92_impl_GuestOK_1.f l () = some (l.all (fun x => valsOK x.f1)) := by unfold all92_impl_GuestOK_1.f; exact allO_some _ _ (fun x _ => by simp only [impl_GuestOK_1.f, impl_vals_eq, Option.bind_some])
      rw [e, hA, decide_eq_true h3, Bool.true_and]
      cases ((l.map (·.f0)).all nmOK && decide (l.map (·.f0)).Nodup)
      · exact ev_neg (by decide) (ev_some _)
      · refine ev_pos rfl ?_
        simp only [Option.bind_some, Bool.true_and]; exact ev_some _
    · rw [decide_eq_false h3, Bool.false_and]; exact ev_neg h3 (ev_some _)
theorem pure : st := by
  intro v l hv hl
  refine Ev.rounds ?_
  unfold laws_FnExactGuestOK.f laws_szGuest.f
  have hM : maxLen = 9223372036854775807 := rfl
  have hz := szIntS_eq v hv.1 1048576 (by omega) (by omega)
  simp only [hz, Option.bind_some]
  by_cases c : (1048576 : Int) - (v.length : Int) < 0
  · rw [if_pos c]; exact ev_bind (ev_pos (by omega) (ev_some _)) (ev_pos (by omega) (ev_some _))
  · rw [if_neg c]
    obtain ⟨s, h1, h2⟩ := szShotS_ev l (fun x hx => ⟨(hl.2 x hx).1, (hl.2 x hx).2.1⟩) hl.1 (1048576 - (v.length : Int)) (by omega) (by omega)
    by_cases hs : s < 0
    · exact ev_bind (ev_neg c (ev_bind h1 (ev_pos hs (ev_some _)))) (ev_pos (by omega) (ev_some _))
    · rcases h2 with h2 | ⟨_, _, b1, b2⟩
      · exact absurd h2 hs
      · refine ev_bind (ev_neg c (ev_bind h1 (ev_neg hs (ev_some _)))) (ev_neg hs ?_)
        have hT : Ev (fun k => laws_toGuest.f k v l) (v, l.map cvShot) := by
          unfold laws_toGuest.f
          exact ev_bind (toIntS_ev v (by omega)) (ev_bind (toShotS_ev l (by omega) (fun x hx => by have := b2 x hx; omega)) (ev_some _))
        have hb : ∀ x ∈ l.map cvShot, x.f0.size ≤ 1000000000 ∧ x.f1.length ≤ 1000000000 := by
          intro x hx
          obtain ⟨y, hy, rfl⟩ := List.mem_map.1 hx
          have := b2 y hy
          show y.f0.size ≤ _ ∧ y.f1.length ≤ _
          omega
        have hl' : (l.map cvShot).length ≤ 1048576 := by rw [List.length_map]; omega
        generalize l.map cvShot = l' at hT hb hl'
        have hP := spec_ev v l' (by omega) (by omega) hb
        have hI := impl_ev v l' (by omega) (fun x hx => (hb x hx).1)
        generalize (valsOK v && (decide ((l'.length : Int) ≤ 3) && (List.range l'.length).all (okAt l'))) = b at hP hI
        have hE : Ev (fun k => laws_eqGuest.f k v l' v l') true := by
          unfold laws_eqGuest.f
          exact ev_bind (eqIntS_ev v (by omega)) (ev_pos rfl (ev_bind (eqShotS_ev l' (by omega) (fun x hx => (hb x hx).2)) (ev_pos rfl (ev_some _))))
        refine ev_bind hT (ev_bind hP (ev_bind hT (ev_bind hI (ev_neg (by simp) (ev_bind hT (ev_bind hE (ev_pos rfl (ev_some _))))))))

end Go.Proofs.Ytbojcpgfkppkbaa.Q.FnExactGuestOK
