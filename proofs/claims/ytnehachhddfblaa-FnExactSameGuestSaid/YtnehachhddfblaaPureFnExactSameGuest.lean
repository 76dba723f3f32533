/- laws.FnExactSameGuest answers true, for every input within the bounds that any input that came in has. -/
import Derived.Test.YtnehachhddfblaaStFnExactSameGuest
namespace Go.Proofs.Ytnehachhddfblaa.Q.FnExactSameGuest
open Go.RowKit Go.Proofs.Ytnehachhddfblaa.Ext Go.Proofs.Ytnehachhddfblaa.Q Go.Proofs.YtnehachhddfblaaW.PrintWords Go.Proofs.YtnehachhddfblaaW.PrintLast Go.Proofs.YtnehachhddfblaaW.PrintMore
set_option linter.unusedVariables false
set_option linter.unusedSimpArgs false
theorem ev_allE {g : Nat → Nat → Option Bool} (n : Nat) (P : Nat → Bool) (r : Bool) (hend : Ev (fun k => g k n) r) (hstep : ∀ i, i < n → ∀ b, Ev (fun k => g k (i + 1)) b → Ev (fun k => g k i) (P i && b)) : Ev (fun k => g k 0) ((List.range n).all P && r) := by
  have hgo : ∀ d i, i ≤ n → n - i = d → Ev (fun k => g k i) (((List.range n).drop i).all P && r) := by
    intro d
    induction d with
    | zero =>
      intro i hi hd
      have e : i = n := by omega
      subst e
      rw [List.drop_of_length_le (by simp)]; simp only [List.all_nil, Bool.true_and]; exact hend
    | succ d ih =>
      intro i hi hd
      have hlt : i < (List.range n).length := by simp; omega
      have := hstep i (by omega) _ (ih (i + 1) (by omega) (by omega))
      rw [List.drop_eq_getElem_cons hlt, List.all_cons, List.getElem_range, Bool.and_assoc]
      exact this
  have := hgo n 0 (by omega) (by omega)
  rwa [List.drop_zero] at this
def sameI (l m : List Int) : Bool := decide ((l.length : Int) = (m.length : Int)) && ((List.range l.length).all (fun i => decide (rd l (i : Int) = rd m (i : Int))) && true)
theorem spec_same_ev (l m : List Int) (hl : l.length ≤ 1000000000) : Ev (fun k => spec_l14Same.f k l m) (sameI l m) := by
  unfold spec_l14Same.f sameI
  by_cases c : (l.length : Int) = (m.length : Int)
  · rw [decide_eq_true c, Bool.true_and]
    refine ev_pos c ?_
    refine ev_allE (g := fun k i => spec_l14Same.l0 k l m (i : Int)) l.length _ true ?_ ?_
    · refine Ev.step (f := fun _ => some true) (fun k => ?_) (ev_some _)
      simp only [spec_l14Same.l0]; rw [if_neg (by omega)]
    · intro i hi b hb
      refine Ev.succ ?_
      simp only [spec_l14Same.l0]
      refine ev_pos (by omega) (ev_pos (by omega) (ev_pos (by omega) ?_))
      by_cases e : rd l (i : Int) = rd m (i : Int)
      · rw [decide_eq_true e, Bool.true_and]; refine ev_pos e ?_; rw [wnext i (by omega)]; exact hb
      · rw [decide_eq_false e, Bool.false_and]; exact ev_neg e (ev_some _)
  · rw [decide_eq_false c, Bool.false_and]; exact ev_neg c (ev_some _)
theorem impl_same_ev (l m : List Int) (hl : l.length ≤ 1000000000) : Ev (fun k => slices_Equal_int_int.f k l m) (sameI l m) := by
  unfold slices_Equal_int_int.f sameI
  by_cases c : (l.length : Int) = (m.length : Int)
  · rw [decide_eq_true c, Bool.true_and]
    refine ev_pos c ?_
    refine ev_allE (g := fun k i => slices_Equal_int_int.l0 k l m (l.length : Int) (i : Int)) l.length _ true ?_ ?_
    · refine Ev.step (f := fun _ => some true) (fun k => ?_) (ev_some _)
      simp only [slices_Equal_int_int.l0]; rw [if_neg (by omega)]
    · intro i hi b hb
      refine Ev.succ ?_
      simp only [slices_Equal_int_int.l0]
      refine ev_pos (by omega) (ev_pos (by omega) (ev_pos (by omega) (ev_pos (by omega) ?_)))
      by_cases e : rd l (i : Int) = rd m (i : Int)
      · rw [decide_eq_true e, Bool.true_and]; refine ev_pos e ?_; rw [wnext i (by omega)]; exact hb
      · rw [decide_eq_false e, Bool.false_and]; exact ev_neg e (ev_some _)
  · rw [decide_eq_false c, Bool.false_and]; exact ev_neg c (ev_some _)
def pairAt (l m : List S64) (i : Nat) : Bool := decide (((rd_T64 l (i : Int)).f0).toList = ((rd_T64 m (i : Int)).f0).toList) && sameI (rd_T64 l (i : Int)).f1 (rd_T64 m (i : Int)).f1
def sameG (v : List Int) (l : List S64) (w : List Int) (m : List S64) : Bool := sameI v w && (decide ((l.length : Int) = (m.length : Int)) && ((List.range l.length).all (pairAt l m) && true))
theorem spec_ev (v : List Int) (l : List S64) (w : List Int) (m : List S64) (hv : v.length ≤ 1000000000) (hl : l.length ≤ 1000000000) (hs : ∀ x ∈ l, x.f1.length ≤ 1000000000) : Ev (fun k => spec_SameGuest.f k v l w m) (sameG v l w m) := by
  unfold spec_SameGuest.f sameG
  refine ev_bind (spec_same_ev v w hv) ?_
  cases sameI v w
  · refine ev_neg (by decide) (Ev.succ ?_)
    simp only [spec_SameGuest.j0, if_true, Bool.false_and]; exact ev_some _
  · refine ev_pos rfl (Ev.succ ?_)
    simp only [spec_SameGuest.j0, Bool.true_and]
    by_cases c : (l.length : Int) = (m.length : Int)
    · rw [decide_eq_true c, Bool.true_and]
      refine ev_neg (by simp [c]) ?_
      refine ev_allE (g := fun k i => spec_SameGuest.l0 k (i : Int) v l w m) l.length _ true ?_ ?_
      · refine Ev.step (f := fun _ => some true) (fun k => ?_) (ev_some _)
        simp only [spec_SameGuest.l0]; rw [if_neg (by omega)]
      · intro i hi b hb
        refine Ev.succ ?_
        simp only [spec_SameGuest.l0]
        refine ev_pos (by omega) (ev_pos (by omega) (ev_pos (by omega) ?_))
        unfold pairAt
        have hx : (rd_T64 l (i : Int)).f1.length ≤ 1000000000 := by rw [rdE_Shot l i hi]; exact hs _ (List.getElem_mem hi)
        by_cases e : ((rd_T64 l (i : Int)).f0).toList = ((rd_T64 m (i : Int)).f0).toList
        · rw [decide_eq_true e, Bool.true_and]
          refine ev_pos e (ev_bind (spec_same_ev _ _ hx) ?_)
          cases sameI (rd_T64 l (i : Int)).f1 (rd_T64 m (i : Int)).f1
          · exact ev_neg (by decide) (ev_some _)
          · refine ev_pos rfl ?_; rw [wnext i (by omega), Bool.true_and]; exact hb
        · rw [decide_eq_false e, Bool.false_and, Bool.false_and]; exact ev_neg e (ev_some _)
    · rw [decide_eq_false c, Bool.false_and]; exact ev_pos (by simpa using c) (ev_some _)
theorem impl_ev (v : List Int) (l : List S64) (w : List Int) (m : List S64) (hv : v.length ≤ 1000000000) (hl : l.length ≤ 1000000000) (hs : ∀ x ∈ l, x.f1.length ≤ 1000000000) : Ev (fun k => impl_SameGuest.f k v l w m) (sameG v l w m) := by
  unfold impl_SameGuest.f sameG
  refine ev_bind (impl_same_ev v w hv) ?_
  cases sameI v w
  · rw [Bool.false_and]; exact ev_neg (by decide) (ev_some _)
  · refine ev_pos rfl ?_
    rw [Bool.true_and]
    unfold impl_Shot_42.f
    refine ev_bind (r := (decide ((l.length : Int) = (m.length : Int)) && ((List.range l.length).all (pairAt l m) && true))) ?_ (ev_some _)
    by_cases c : (l.length : Int) = (m.length : Int)
    · rw [decide_eq_true c, Bool.true_and]
      refine ev_pos c ?_
      refine ev_allE (g := fun k i => impl_Shot_42.l0 k m l (l.length : Int) (i : Int)) l.length _ true ?_ ?_
      · refine Ev.step (f := fun _ => some true) (fun k => ?_) (ev_some _)
        simp only [impl_Shot_42.l0]; rw [if_neg (by omega)]
      · intro i hi b hb
        refine Ev.succ ?_
        simp only [impl_Shot_42.l0]
        refine ev_pos (by omega) (ev_pos (by omega) (ev_pos (by omega) (ev_pos (by omega) ?_)))
        unfold pairAt impl_SameGuest_1.f
        have hx : (rd_T64 l (i : Int)).f1.length ≤ 1000000000 := by rw [rdE_Shot l i hi]; exact hs _ (List.getElem_mem hi)
        by_cases e : ((rd_T64 l (i : Int)).f0).toList = ((rd_T64 m (i : Int)).f0).toList
        · rw [decide_eq_true e, Bool.true_and]
          refine ev_bind (ev_pos e (ev_bind (impl_same_ev _ _ hx) (ev_some _))) ?_
          cases sameI (rd_T64 l (i : Int)).f1 (rd_T64 m (i : Int)).f1
          · exact ev_neg (by decide) (ev_some _)
          · refine ev_pos rfl ?_; rw [wnext i (by omega), Bool.true_and]; exact hb
        · rw [decide_eq_false e, Bool.false_and, Bool.false_and]; exact ev_bind (ev_neg e (ev_some _)) (ev_neg (by decide) (ev_some _))
    · rw [decide_eq_false c, Bool.false_and]; exact ev_neg c (ev_some _)
theorem szGuest_ev (v : List Int) (l : List S86) (hv : v.length ≤ maxLen) (hm : l.length ≤ maxLen) (hs : ∀ x ∈ l, x.f0.size ≤ maxLen ∧ x.f1.length ≤ maxLen) (a : Int) (h0 : 0 ≤ a) (ha : a ≤ 1048576) : ∃ s, Ev (fun k => laws_szGuest.f k v l a) s ∧ (s < 0 ∨ (0 ≤ s ∧ s ≤ a ∧ (v.length : Int) ≤ a ∧ (l.length : Int) ≤ a ∧ ∀ x ∈ l, (x.f1.length : Int) ≤ a)) := by
  have hM : maxLen = 9223372036854775807 := rfl
  unfold laws_szGuest.f
  have hz := szIntS_eq v hv a (by omega) (by omega)
  simp only [hz, Option.bind_some]
  by_cases c : a - (v.length : Int) < 0
  · rw [if_pos c]; exact ⟨-1, ev_pos (by omega) (ev_some _), Or.inl (by omega)⟩
  · rw [if_neg c]
    obtain ⟨s, h1, h2⟩ := szShotS_ev l hs hm (a - (v.length : Int)) (by omega) (by omega)
    by_cases hs : s < 0
    · exact ⟨-1, ev_neg c (ev_bind h1 (ev_pos hs (ev_some _))), Or.inl (by omega)⟩
    · rcases h2 with h2 | ⟨b0, b1, b2, b3⟩
      · exact absurd h2 hs
      · exact ⟨s, ev_neg c (ev_bind h1 (ev_neg hs (ev_some _))), Or.inr ⟨b1, by omega, by omega, by omega, fun x hx => by have := b3 x hx; omega⟩⟩
theorem toGuest_ev (v : List Int) (l : List S86) (hv : v.length ≤ 1048576) (hl : l.length ≤ 1048576) (hs : ∀ x ∈ l, x.f1.length ≤ 1048576) : Ev (fun k => laws_toGuest.f k v l) (v, l.map cvShot) := by
  unfold laws_toGuest.f
  exact ev_bind (toIntS_ev v (by omega)) (ev_bind (toShotS_ev l hl hs) (ev_some _))
theorem eqGuest_ev (v : List Int) (l : List S64) (hv : v.length ≤ 1000000000) (hl : l.length ≤ 1000000000) (hs : ∀ x ∈ l, x.f1.length ≤ 1000000000) : Ev (fun k => laws_eqGuest.f k v l v l) true := by
  unfold laws_eqGuest.f
  exact ev_bind (eqIntS_ev v (by omega)) (ev_pos rfl (ev_bind (eqShotS_ev l hl hs) (ev_pos rfl (ev_some _))))
theorem pure : st := by
  intro v l w m hv hl hw hm
  refine Ev.rounds ?_
  unfold laws_FnExactSameGuest.f
  obtain ⟨s, h1, h2⟩ := szGuest_ev v l hv.1 hl.1 (fun x hx => ⟨(hl.2 x hx).1, (hl.2 x hx).2.1⟩) 1048576 (by omega) (by omega)
  refine ev_bind h1 ?_
  by_cases c : s < 0
  · exact ev_pos c (ev_some _)
  · refine ev_neg c ?_
    rcases h2 with h2 | ⟨a0, a1, a2, a3, a4⟩
    · exact absurd h2 c
    obtain ⟨s', h1', h2'⟩ := szGuest_ev w m hw.1 hm.1 (fun x hx => ⟨(hm.2 x hx).1, (hm.2 x hx).2.1⟩) s (by omega) (by omega)
    refine ev_bind h1' ?_
    by_cases c' : s' < 0
    · exact ev_pos c' (ev_some _)
    · refine ev_neg c' ?_
      rcases h2' with h2' | ⟨b0, b1, b2, b3, b4⟩
      · exact absurd h2' c'
      have hA := toGuest_ev v l (by omega) (by omega) (fun x hx => by have := a4 x hx; omega)
      have hB := toGuest_ev w m (by omega) (by omega) (fun x hx => by have := b4 x hx; omega)
      have eA : ∀ x ∈ l.map cvShot, x.f1.length ≤ 1000000000 := by
        intro x hx
        obtain ⟨y, hy, rfl⟩ := List.mem_map.1 hx
        have := a4 y hy
        show y.f1.length ≤ _
        omega
      have eB : ∀ x ∈ m.map cvShot, x.f1.length ≤ 1000000000 := by
        intro x hx
        obtain ⟨y, hy, rfl⟩ := List.mem_map.1 hx
        have := b4 y hy
        show y.f1.length ≤ _
        omega
      have lA : (l.map cvShot).length ≤ 1000000000 := by rw [List.length_map]; omega
      have lB : (m.map cvShot).length ≤ 1000000000 := by rw [List.length_map]; omega
      generalize l.map cvShot = l' at hA eA lA
      generalize m.map cvShot = m' at hB eB lB
      have hP := spec_ev v l' w m' (by omega) lA eA
      have hI := impl_ev v l' w m' (by omega) lA eA
      generalize sameG v l' w m' = b at hP hI
      refine ev_bind hA (ev_bind hB (ev_bind hP (ev_bind hA (ev_bind hB (ev_bind hI (ev_neg (by simp) (ev_bind hA (ev_bind (eqGuest_ev v l' (by omega) lA eA) (ev_pos rfl (ev_bind hB (ev_bind (eqGuest_ev w m' (by omega) lB eB) (ev_pos rfl (ev_some _)))))))))))))

end Go.Proofs.Ytnehachhddfblaa.Q.FnExactSameGuest
