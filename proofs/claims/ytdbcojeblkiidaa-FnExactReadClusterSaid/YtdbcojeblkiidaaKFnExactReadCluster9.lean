/- What laws.FnExactReadCluster reaches, part 9: the functions as Lean functions, the proofs that the program's functions answer so, and plain laws about them. -/
import Derived.Test.YtdbcojeblkiidaaKFnExactReadCluster1
import Derived.Test.YtdbcojeblkiidaaKFnExactReadCluster2
import Derived.Test.YtdbcojeblkiidaaKFnExactReadCluster4
import Derived.Test.YtdbcojeblkiidaaKFnExactReadCluster5
import Derived.Test.YtdbcojeblkiidaaKFnExactReadCluster6
import Derived.Test.YtdbcojeblkiidaaKFnExactReadCluster7
import Derived.Test.YtdbcojeblkiidaaKFnExactReadCluster8
namespace Go.Proofs.Ytdbcojeblkiidaa.Q
open Go.RowKit Go.Proofs.Ytdbcojeblkiidaa.Ext Go.Proofs.YtdbcojeblkiidaaW.PrintWords Go.Proofs.YtdbcojeblkiidaaW.PrintLast Go.Proofs.YtdbcojeblkiidaaW.PrintMore
attribute [local go_sem] max2_int min2_int max_two min_two max_three min_three max_four min_four   -- for this text's walks alone
set_option linter.unusedVariables false
set_option linter.unusedSimpArgs false

set_option linter.unusedVariables false
set_option linter.unusedSimpArgs false
/-! ### Img -/
theorem impl_once_ev (l : List Int) (hl : l.length ≤ 1000000000) : Ev (fun k => impl_once.f k l) (decide (clu l).Nodup) := by
  unfold impl_once.f
  refine ev_bind (impl_clu_ev l hl) ?_
  have ht := clu_length l
  generalize clu l = t at ht
  refine ev_pos (by omega) ?_
  have e : (((Lib.compact (impl_once_sorted t)).length : Int) == (t.length : Int)) = decide t.Nodup := by
    rw [Bool.eq_iff_iff, beq_iff_eq, decide_eq_true_eq, ← sortedI_nodup t]
    unfold impl_once_sorted
    exact Int.ofNat_inj
  rw [e]; exact ev_some _
def once (l : List Int) : Bool := decide (clu l).Nodup
def isNum (n : Int) : Bool := inB n 0 2147483647
def refsOK (l : List Int) : Bool := l.all (fun n => inB n 0 15) && ((l.length : Int) == 24)
theorem spec_RefsOK_ev (l : List Int) (hl : l.length ≤ 1000000000) : Ev (fun k => spec_RefsOK.f k l) (refsOK l) := by
  unfold spec_RefsOK.f
  by_cases h : (l.length : Int) > 4096
  · have : refsOK l = false := by
      unfold refsOK
      rw [show ((l.length : Int) == 24) = false from beq_eq_false_iff_ne.2 (by omega), Bool.and_false]
    rw [this]; exact ev_pos h (ev_some _)
  · refine ev_neg h ?_
    refine ev_all (g := fun k i => spec_RefsOK.l0 k l (i : Int)) l (fun n => inB n 0 15) _ ?_ ?_
    · refine Ev.step (f := fun _ => some ((l.length : Int) == 24)) (fun k => ?_) (ev_some _)
      simp only [spec_RefsOK.l0]; rw [if_neg (by omega)]
    · intro i hi k
      simp only [spec_RefsOK.l0, l01In_eq, Option.bind_some]
      rw [if_pos (by omega), if_pos (by omega), rdn l i hi, wnext i (by omega)]
theorem impl_RefsOK_eq (l : List Int) : impl_RefsOK.f l = some (refsOK l) := by
  have ha : all61_impl_RefsOK_1.f l () = some (l.all (fun n => inB n 0 15)) := by
    unfold all61_impl_RefsOK_1.f; exact allO_some _ _ (fun x _ => by simp only [impl_RefsOK_1.f, within_eq, Option.bind_some])
  unfold impl_RefsOK.f refsOK
  by_cases h : (l.length : Int) = 24
  · rw [if_pos h, ha, show ((l.length : Int) == 24) = true from beq_iff_eq.2 h, Bool.and_true]; rfl
  · rw [if_neg h, show ((l.length : Int) == 24) = false from beq_eq_false_iff_ne.2 h, Bool.and_false]
theorem refs_len {l : List Int} (h : refsOK l = true) : l.length = 24 := by
  unfold refsOK at h; rw [Bool.and_eq_true, beq_iff_eq] at h; omega
def nm (l : List S45) (i : Nat) : ByteArray := (rd_T45 l (i : Int)).f0
def fAt (l : List S45) (i : Nat) : Bool := nmOK (nm l i) && (tableOK (rd_T45 l (i : Int)).f1 && (List.range i).all (fun j => decide (nm l j ≠ nm l i)))
def form (R T : List Int) (S : List S45) (D : List Int) : Bool := refsOK R && (tableOK T && (decide ((S.length : Int) ≤ 3) && (((D.length : Int) == 24) && ((List.range S.length).all (fAt S) && D.all isNum))))
theorem spec_form_ev (R T : List Int) (S : List S45) (D : List Int) (hR : R.length ≤ 1000000000) (hT : T.length ≤ 1000000000) (hS : S.length ≤ 1000000000) (hD : D.length ≤ 1000000000) (hs : ∀ x ∈ S, x.f0.size ≤ 1000000000 ∧ x.f1.length ≤ 1000000000) :
    Ev (fun k => spec_l10Form.f k R T S D) (form R T S D) := by
  have hDl : Ev (fun k => spec_l10Form.l2 k ((0 : Nat) : Int) R T S D) (D.all isNum && true) := by
    refine ev_all (g := fun k i => spec_l10Form.l2 k (i : Int) R T S D) D isNum true ?_ ?_
    · refine Ev.step (f := fun _ => some true) (fun k => ?_) (ev_some _)
      simp only [spec_l10Form.l2]; rw [if_neg (by omega)]
    · intro i hi k
      simp only [spec_l10Form.l2, spec_l02Int.f, l01In_eq, Option.bind_some]
      rw [if_pos (by omega), if_pos (by omega), rdn D i hi, wnext i (by omega)]
      rfl
  rw [Bool.and_true] at hDl
  have hL : Ev (fun k => spec_l10Form.l0 k ((0 : Nat) : Int) R T S D) (if (List.range S.length).all (fAt S) = true then D.all isNum else false) := by
    refine ev_askE (g := fun k i => spec_l10Form.l0 k (i : Int) R T S D) S.length (fAt S) (D.all isNum) false ?_ ?_
    · refine Ev.step (f := fun k => spec_l10Form.l2 k ((0 : Nat) : Int) R T S D) (fun k => ?_) hDl
      simp only [spec_l10Form.l0]; rw [if_neg (by omega)]; rfl
    · intro i hi b hb
      have hmem := hs S[i] (List.getElem_mem hi)
      have hin : Ev (fun k => spec_l10Form.l1 k (i : Int) ((0 : Nat) : Int) R T S D) (if (List.range i).all (fun j => decide (nm S j ≠ nm S i)) = true then b else false) := by
        refine ev_asks (g := fun k j => spec_l10Form.l1 k (i : Int) (j : Int) R T S D) (List.range i) _ b false ?_ ?_
        · rw [List.length_range]
          refine Ev.step (f := fun k => spec_l10Form.l0 k ((i + 1 : Nat) : Int) R T S D) (fun k => ?_) hb
          simp only [spec_l10Form.l1]; rw [if_neg (by omega), wnext i (by omega)]
        · intro j hj k
          rw [List.length_range] at hj
          simp only [spec_l10Form.l1, List.getElem_range]
          rw [if_pos (by omega), if_pos (by omega), if_pos (by omega), if_pos (by omega), if_pos (by omega), wnext j (by omega)]
          show (if (nm S j).toList = (nm S i).toList then some false else _) = _
          by_cases c : nm S j = nm S i
          · rw [if_pos (by rw [c]), if_neg (by simp [c])]
          · rw [if_neg (fun h => c (toList_inj.1 h)), if_pos (by simp [c])]
      refine Ev.succ ?_
      simp only [spec_l10Form.l0]
      refine ev_pos (by omega) (ev_pos (by omega) ?_)
      have e1 : (rd_T45 S (i : Int)).f0 = nm S i := rfl
      have e2 := rdE_Snap S i hi
      unfold fAt
      rw [e1]
      refine ev_bind (spec_Name_ev _ (by unfold nm; rw [e2]; exact hmem.1)) ?_
      cases nmOK (nm S i)
      · refine ev_neg (by decide) (Ev.succ ?_)
        simp only [spec_l10Form.j2, if_true, Bool.false_and, Bool.false_eq_true, if_false]; exact ev_some _
      · refine ev_pos rfl (ev_bind (spec_TableOK_ev _ (by rw [e2]; exact hmem.2)) (Ev.succ ?_))
        cases tableOK (rd_T45 S (i : Int)).f1
        · simp only [spec_l10Form.j2, Bool.not_false, if_true, Bool.false_and, Bool.and_false, Bool.false_eq_true, if_false]; exact ev_some _
        · simp only [spec_l10Form.j2, Bool.not_true, Bool.false_eq_true, if_false, Bool.true_and]; exact hin
  unfold spec_l10Form.f form
  refine ev_bind (spec_RefsOK_ev R hR) ?_
  cases refsOK R
  · refine ev_neg (by decide) (Ev.succ ?_)
    simp only [spec_l10Form.j0, if_true, Bool.false_and]; exact ev_some _
  · refine ev_pos rfl (ev_bind (spec_TableOK_ev T hT) ?_)
    cases tableOK T
    · refine ev_neg (by decide) (Ev.succ ?_)
      simp only [spec_l10Form.j0, if_true, Bool.false_and, Bool.and_false]; exact ev_some _
    · refine ev_pos rfl ?_
      by_cases h3 : (S.length : Int) ≤ 3
      · rw [decide_eq_true h3]
        refine ev_neg (by omega) (Ev.succ ?_)
        simp only [spec_l10Form.j0, bne, Bool.true_and]
        by_cases c24 : ((D.length : Int) == 24) = true
        rotate_left
        · rw [Bool.not_eq_true] at c24
          simp only [c24, Bool.not_false, if_true, Bool.false_and]; exact ev_some _
        · simp only [c24, Bool.not_true, Bool.false_eq_true, if_false, Bool.true_and]
          have e : (if (List.range S.length).all (fAt S) = true then D.all isNum else false) = ((List.range S.length).all (fAt S) && D.all isNum) := by cases (List.range S.length).all (fAt S) <;> simp
          rw [e] at hL
          exact hL
      · rw [decide_eq_false h3]
        refine ev_pos (by omega) (Ev.succ ?_)
        simp only [spec_l10Form.j0, if_true, Bool.false_and, Bool.and_false]; exact ev_some _
def near (R T : List Int) (S : List S45) (D : List Int) : Bool := refsOK R && (decide ((S.length : Int) ≤ 3) && (namesOK (S.map (·.f0)) && ((tabs T S).all (fun l => tableOK l && once l) && (((D.length : Int) == 24) && D.all isNum))))
theorem impl_near_ev (R T : List Int) (S : List S45) (D : List Int) (hT : T.length ≤ 1000000000) (hS : S.length ≤ 1000000000) (hs : ∀ x ∈ S, x.f0.size ≤ 1000000000 ∧ x.f1.length ≤ 1000000000) :
    Ev (fun k => impl_Image_nearlyOK.f k R T S D) (near R T S D) := by
  have hD : all61_impl_isNumber.f D () = some (D.all isNum) := by unfold all61_impl_isNumber.f; exact allO_some _ _ (fun x _ => by simp only [impl_isNumber.f, within_eq, Option.bind_some]; rfl)
  have hts : ∀ l ∈ tabs T S, l.length ≤ 1000000000 := by
    intro l hl
    simp only [tabs, List.mem_cons, List.mem_map] at hl
    rcases hl with rfl | ⟨x, hx, rfl⟩
    · exact hT
    · exact (hs x hx).2
  unfold impl_Image_nearlyOK.f near
  simp only [impl_RefsOK_eq, Option.bind_some, hD]
  cases refsOK R
  · exact ev_neg (by decide) (ev_some _)
  · refine ev_pos rfl ?_
    by_cases h3 : (S.length : Int) ≤ 3
    · rw [decide_eq_true h3]
      refine ev_pos h3 (ev_bind (impl_names_ev R T S D hS) (ev_bind (areNames_ev _ (by simpa using hS) (fun x hx => by
        obtain ⟨y, hy, rfl⟩ := List.mem_map.1 hx; exact (hs y hy).1)) ?_))
      simp only [Bool.true_and]
      cases namesOK (S.map (·.f0))
      · exact ev_neg (by decide) (ev_some _)
      · refine ev_pos rfl (ev_bind (impl_tables_ev R T S D hS) (ev_bind (a := (tabs T S).all (fun l => tableOK l && once l)) (by
          unfold all56_impl_Image_nearlyOK_1.f
          refine ev_allO _ _ _ (fun l hl => ?_)
          simp only [impl_Image_nearlyOK_1.f, impl_TableOK_eq, Option.bind_some]
          cases tableOK l
          · exact ev_neg (by decide) (ev_some _)
          · exact ev_pos rfl (ev_bind (impl_once_ev l (hts l hl)) (ev_some _))) ?_))
        simp only [Bool.true_and]
        cases (tabs T S).all (fun l => tableOK l && once l)
        · exact ev_neg (by decide) (ev_some _)
        · refine ev_pos rfl ?_
          by_cases h24 : (D.length : Int) = 24
          · rw [show ((D.length : Int) == 24) = true from beq_iff_eq.2 h24]
            exact ev_pos h24 (ev_some _)
          · rw [show ((D.length : Int) == 24) = false from beq_eq_false_iff_ne.2 h24]
            exact ev_neg h24 (ev_some _)
    · rw [decide_eq_false h3]; exact ev_neg h3 (ev_some _)
theorem form_near (R T : List Int) (S : List S45) (D : List Int) : (form R T S D && (once T && S.all (fun x => once x.f1))) = near R T S D := by
  have hn : ∀ i (h : i < S.length), nm S i = S[i].f0 := fun i h => by unfold nm; rw [rdE_Snap S i h]
  have key : (List.range S.length).all (fAt S) = ((S.map (·.f0)).all nmOK && decide (S.map (·.f0)).Nodup && S.all (fun x => tableOK x.f1)) := by
    rw [Bool.eq_iff_iff]
    simp only [Bool.and_eq_true, List.all_eq_true, decide_eq_true_eq, List.mem_range, List.mem_map]
    constructor
    · intro h
      have h' : ∀ i (hi : i < S.length), nmOK S[i].f0 = true ∧ tableOK S[i].f1 = true ∧ ∀ j, j < i → nm S j ≠ nm S i := fun i hi => by
        have := h i hi
        unfold fAt at this
        simp only [Bool.and_eq_true, List.all_eq_true, decide_eq_true_eq, List.mem_range] at this
        rw [hn i hi, rdE_Snap S i hi] at this
        exact ⟨this.1, this.2.1, fun j hj => by have := this.2.2 j hj; rw [hn i hi]; exact this⟩
      refine ⟨⟨?_, ?_⟩, ?_⟩
      · rintro x ⟨y, hy, rfl⟩
        obtain ⟨i, hi, rfl⟩ := List.getElem_of_mem hy
        exact (h' i hi).1
      · rw [List.nodup_iff_pairwise_ne, List.pairwise_iff_getElem]
        intro i j hi hj hij
        rw [List.length_map] at hi hj
        have := (h' j hj).2.2 i hij
        rw [hn i hi, hn j hj] at this
        simpa using this
      · intro x hx
        obtain ⟨i, hi, rfl⟩ := List.getElem_of_mem hx
        exact (h' i hi).2.1
    · rintro ⟨⟨h1, h2⟩, h3⟩ i hi
      unfold fAt
      simp only [Bool.and_eq_true, List.all_eq_true, decide_eq_true_eq, List.mem_range]
      rw [rdE_Snap S i hi]
      refine ⟨?_, h3 _ (List.getElem_mem hi), fun j hj => ?_⟩
      · rw [hn i hi]; exact h1 _ ⟨_, List.getElem_mem hi, rfl⟩
      · rw [hn i hi, hn j (by omega)]
        have := List.pairwise_iff_getElem.1 (List.nodup_iff_pairwise_ne.1 h2) j i (by simp; omega) (by simpa using hi) hj
        simpa using this
  unfold form near
  rw [key]
  have h2 : (tabs T S).all (fun l => tableOK l && once l) = ((tableOK T && once T) && (S.all (fun x => tableOK x.f1) && S.all (fun x => once x.f1))) := by
    unfold tabs
    rw [List.all_cons, List.all_map]
    congr 1
    rw [Bool.eq_iff_iff]
    simp only [Bool.and_eq_true, List.all_eq_true, Function.comp]
    exact ⟨fun h => ⟨fun x hx => (h x hx).1, fun x hx => (h x hx).2⟩, fun h x hx => ⟨h.1 x hx, h.2 x hx⟩⟩
  rw [h2]
  by_cases h3 : (S.length : Int) ≤ 3
  · have e : namesOK (S.map (·.f0)) = ((S.map (·.f0)).all nmOK && decide (S.map (·.f0)).Nodup) := by
      unfold namesOK; rw [decide_eq_true (by simpa using h3), Bool.true_and]
    rw [e, decide_eq_true h3]
    cases refsOK R <;> cases tableOK T <;> cases ((D.length : Int) == 24) <;> cases (S.map (·.f0)).all nmOK <;> cases decide (S.map (·.f0)).Nodup <;> cases S.all (fun x => tableOK x.f1) <;> cases D.all isNum <;> cases once T <;> cases S.all (fun x => once x.f1) <;> rfl
  · rw [decide_eq_false h3]; simp
theorem near_tabs {R T : List Int} {S : List S45} {D : List Int} (h : near R T S D = true) : R.length = 24 ∧ S.length ≤ 3 ∧ (∀ t ∈ tabs T S, tableOK t = true) ∧ D.length = 24 := by
  unfold near at h
  simp only [Bool.and_eq_true, List.all_eq_true, decide_eq_true_eq, beq_iff_eq] at h
  obtain ⟨h1, h2, _, h4, h5, _⟩ := h
  exact ⟨refs_len h1, by omega, fun t ht => (h4 t ht).1, by omega⟩
/-- How many tables have each cluster. -/
def counts (T : List Int) (S : List S45) : List Int := cntT zeros24 (tabs T S)
theorem counts_length (T : List Int) (S : List S45) : (counts T S).length = 24 := by unfold counts; rw [cntT_length]; rfl
def zeroD (R D : List Int) : Bool := (List.range 24).all (fun i => if rd R (i : Int) = 0 then decide (rd D (i : Int) = 0) else true)
def imgOK (R T : List Int) (S : List S45) (D : List Int) : Bool := near R T S D && (decide (R = counts T S) && zeroD R D)
theorem spec_ImageOK_ev (R T : List Int) (S : List S45) (D : List Int) (hR : R.length ≤ 1000000000) (hT : T.length ≤ 1000000000) (hS : S.length ≤ 1000000000) (hD : D.length ≤ 1000000000) (hs : ∀ x ∈ S, x.f0.size ≤ 1000000000 ∧ x.f1.length ≤ 1000000000) :
    Ev (fun k => spec_ImageOK.f k R T S D) (imgOK R T S D) := by
  unfold spec_ImageOK.f imgOK
  have hfn := form_near R T S D
  refine ev_bind (spec_form_ev R T S D hR hT hS hD hs) ?_
  cases hform : form R T S D
  · rw [hform, Bool.false_and] at hfn
    rw [← hfn]
    refine ev_neg (by decide) (Ev.succ ?_)
    simp only [spec_ImageOK.j0, if_true, Bool.false_and]; exact ev_some _
  · rw [hform, Bool.true_and] at hfn
    refine ev_pos rfl (ev_bind (spec_twice_ev T hT) (Ev.succ ?_))
    have hform' := hform
    unfold form at hform'
    simp only [Bool.and_eq_true, decide_eq_true_eq, beq_iff_eq] at hform'
    obtain ⟨f1, f2, f3, f4, f5, f6⟩ := hform'
    have hR24 := refs_len f1
    have ht : ∀ t ∈ tabs T S, tableOK t = true := by
      intro t ht
      simp only [tabs, List.mem_cons, List.mem_map] at ht
      rcases ht with rfl | ⟨x, hx, rfl⟩
      · exact f2
      · obtain ⟨i, hi, rfl⟩ := List.getElem_of_mem hx
        have := List.all_eq_true.1 f5 i (List.mem_range.2 hi)
        unfold fAt at this
        rw [rdE_Snap S i hi] at this
        simp only [Bool.and_eq_true] at this
        exact this.2.1
    show Ev (fun k => spec_ImageOK.j0 (k + 1) (!once T) R T S D) _
    simp only [spec_ImageOK.j0]
    cases hoT : once T
    · rw [hoT, Bool.false_and] at hfn
      rw [← hfn, Bool.false_and]
      exact ev_pos rfl (ev_some _)
    · rw [hoT, Bool.true_and] at hfn
      refine ev_neg (by decide) ?_
      have hfin : Ev (fun k => spec_ImageOK.l1 k (counts T S) ((0 : Nat) : Int) R T S D) (decide (R = counts T S) && zeroD R D) := by
        have hcl := counts_length T S
        generalize counts T S = n at hcl
        have h := ev_askE (g := fun k i => spec_ImageOK.l1 k n (i : Int) R T S D) 24 (fun i => decide (rd n (i : Int) = rd R (i : Int)) && (if rd R (i : Int) = 0 then decide (rd D (i : Int) = 0) else true)) true false ?_ ?_
        · have e : (if (List.range 24).all (fun i => decide (rd n (i : Int) = rd R (i : Int)) && (if rd R (i : Int) = 0 then decide (rd D (i : Int) = 0) else true)) = true then true else false) = (decide (R = n) && zeroD R D) := by
            rw [Bool.eq_iff_iff]
            unfold zeroD
            simp only [Bool.if_false_right, Bool.and_true, decide_eq_true_eq, List.all_eq_true, List.mem_range, Bool.and_eq_true]
            constructor
            · intro h
              refine ⟨List.ext_getElem (by omega) (fun i h1 h2 => ?_), fun i hi => (h i hi).2⟩
              have := (h i (by omega)).1
              rw [rdn n i h2, rdn R i h1] at this
              exact this.symm
            · rintro ⟨rfl, h2⟩ i hi
              exact ⟨rfl, h2 i hi⟩
          rw [e] at h; exact h
        · refine Ev.step (f := fun _ => some true) (fun k => ?_) (ev_some _)
          simp only [spec_ImageOK.l1]; rw [if_neg (by decide)]
        · intro i hi b hb
          refine Ev.succ ?_
          simp only [spec_ImageOK.l1]
          refine ev_pos (by omega) (ev_pos (by omega) (ev_pos (by omega) (ev_pos (by omega) ?_)))
          rw [wnext i (by omega)]
          by_cases c : rd n (i : Int) = rd R (i : Int)
          · rw [c]
            refine ev_pos rfl ?_
            by_cases c2 : rd R (i : Int) = 0
            · refine ev_pos c2 (ev_pos (by omega) ?_)
              by_cases c3 : rd D (i : Int) = 0
              · simp only [c2, c3]; simpa using hb
              · simp only [c2, c3]; simpa using ev_some false
            · simp only [c2]; simpa using hb
          · simp only [c]; simpa using ev_some false
      have hL := ev_askE (g := fun k i => spec_ImageOK.l0 k (i : Int) R T S D) S.length (fun i => once (rd_T45 S (i : Int)).f1) (decide (R = counts T S) && zeroD R D) false ?_ ?_
      · have e : (List.range S.length).all (fun i => once (rd_T45 S (i : Int)).f1) = S.all (fun x => once x.f1) := by
          rw [Bool.eq_iff_iff]
          simp only [List.all_eq_true, List.mem_range]
          constructor
          · intro h x hx
            obtain ⟨i, hi, rfl⟩ := List.getElem_of_mem hx
            have := h i hi
            rwa [rdE_Snap S i hi] at this
          · intro h i hi
            rw [rdE_Snap S i hi]; exact h _ (List.getElem_mem hi)
        rw [e, hfn] at hL
        have e2 : (if near R T S D = true then (decide (R = counts T S) && zeroD R D) else false) = (near R T S D && (decide (R = counts T S) && zeroD R D)) := by cases near R T S D <;> simp
        rw [e2] at hL
        exact hL
      · refine Ev.step (f := fun k => (spec_l10Count.f k R T S D).bind fun t => spec_ImageOK.l1 k t 0 R T S D) (fun k => ?_) (ev_bind (spec_count_ev R T S D (by omega) ht) hfin)
        simp only [spec_ImageOK.l0]; rw [if_neg (by omega)]
      · intro i hi b hb
        refine Ev.succ ?_
        simp only [spec_ImageOK.l0]
        refine ev_pos (by omega) (ev_pos (by omega) (ev_bind (spec_twice_ev _ (by rw [rdE_Snap S i hi]; exact (hs _ (List.getElem_mem hi)).2)) ?_))
        show Ev (fun k => if (!once (rd_T45 S (i : Int)).f1) = true then some false else spec_ImageOK.l0 k (wrap64 ((i : Int) + 1)) R T S D) _
        rw [wnext i (by omega)]
        cases once (rd_T45 S (i : Int)).f1
        · exact ev_pos rfl (ev_some _)
        · exact ev_neg (by decide) hb
theorem equal_ev (a b : List Int) (ha : a.length = 24) (hb : b.length = 24) : Ev (fun k => slices_Equal_int_int.f k a b) (decide (a = b)) := by
  unfold slices_Equal_int_int.f
  refine ev_pos (by omega) ?_
  have h := ev_askE (g := fun k i => slices_Equal_int_int.l0 k a b (a.length : Int) (i : Int)) 24 (fun i => decide (rd a (i : Int) = rd b (i : Int))) true false ?_ ?_
  · have e : (if (List.range 24).all (fun i => decide (rd a (i : Int) = rd b (i : Int))) = true then true else false) = decide (a = b) := by
      rw [Bool.eq_iff_iff]
      simp only [Bool.if_false_right, Bool.and_true, decide_eq_true_eq, List.all_eq_true, List.mem_range]
      constructor
      · intro h
        refine List.ext_getElem (by omega) (fun i h1 h2 => ?_)
        have := h i (by omega)
        rwa [rdn a i h1, rdn b i h2] at this
      · rintro rfl i hi; rfl
    rw [e] at h; exact h
  · refine Ev.step (f := fun _ => some true) (fun k => ?_) (ev_some _)
    simp only [slices_Equal_int_int.l0]; rw [if_neg (by omega)]
  · intro i hi r hr
    refine Ev.succ ?_
    simp only [slices_Equal_int_int.l0]
    refine ev_pos (by omega) (ev_pos (by omega) (ev_pos (by omega) (ev_pos (by omega) ?_)))
    rw [wnext i (by omega)]
    by_cases c : rd a (i : Int) = rd b (i : Int)
    · simp only [c]; simpa using hr
    · simp only [c]; simpa using ev_some false
theorem impl_ImageOK_ev (R T : List Int) (S : List S45) (D : List Int) (hT : T.length ≤ 1000000000) (hS : S.length ≤ 1000000000) (hs : ∀ x ∈ S, x.f0.size ≤ 1000000000 ∧ x.f1.length ≤ 1000000000) :
    Ev (fun k => impl_ImageOK.f k R T S D) (imgOK R T S D) := by
  unfold impl_ImageOK.f imgOK
  refine ev_bind (impl_near_ev R T S D hT hS hs) ?_
  cases hn : near R T S D
  · refine ev_neg (by decide) (Ev.succ ?_)
    simp only [impl_ImageOK.j0, if_true, Bool.false_and]; exact ev_some _
  · obtain ⟨n1, n2, n3, n4⟩ := near_tabs hn
    refine ev_pos rfl (ev_bind (impl_count_ev R T S D n2 n3) (ev_bind (equal_ev R _ n1 (counts_length T S)) (Ev.succ ?_)))
    show Ev (fun k => impl_ImageOK.j0 (k + 1) (!decide (R = counts T S)) R T S D) _
    simp only [impl_ImageOK.j0, Bool.true_and]
    cases decide (R = counts T S)
    · exact ev_pos rfl (ev_some _)
    · refine ev_neg (by decide) ?_
      rw [Bool.true_and]
      have h := ev_askE (g := fun k i => impl_ImageOK.l0 k D (D.length : Int) (i : Int) R T S D) 24 (fun i => if rd R (i : Int) = 0 then decide (rd D (i : Int) = 0) else true) true false ?_ ?_
      · have e : (if (List.range 24).all (fun i => if rd R (i : Int) = 0 then decide (rd D (i : Int) = 0) else true) = true then true else false) = zeroD R D := by
          unfold zeroD
          cases (List.range 24).all (fun i => if rd R (i : Int) = 0 then decide (rd D (i : Int) = 0) else true) <;> rfl
        rw [e] at h; exact h
      · refine Ev.step (f := fun _ => some true) (fun k => ?_) (ev_some _)
        simp only [impl_ImageOK.l0]; rw [if_neg (by omega)]
      · intro i hi b hb
        refine Ev.succ ?_
        simp only [impl_ImageOK.l0]
        refine ev_pos (by omega) (ev_pos (by omega) (ev_pos (by omega) (ev_pos (by omega) ?_)))
        rw [wnext i (by omega)]
        by_cases c2 : rd R (i : Int) = 0
        · by_cases c3 : rd D (i : Int) = 0
          · simp only [c2, c3]; simpa using hb
          · simp only [c2, c3]; simpa using ev_some false
        · simp only [c2]; simpa using hb
/-- An image that came in, copied; what its size tells of it. -/
structure Fits (R T : List Int) (S : List S59) (D : List Int) : Prop where
  hR : R.length ≤ 1048576
  hT : T.length ≤ 1048576
  hS : S.length ≤ 1048576
  hD : D.length ≤ 1048576
  hs : ∀ x ∈ S, x.f0.size ≤ 1048576 ∧ x.f1.length ≤ 1048576
theorem szImage_ev (R T : List Int) (S : List S59) (D : List Int) (hR : R.length ≤ maxLen) (hT : T.length ≤ maxLen) (hS : S.length ≤ maxLen) (hD : D.length ≤ maxLen) (hs : ∀ x ∈ S, x.f0.size ≤ maxLen ∧ x.f1.length ≤ maxLen) :
    ∃ s, Ev (fun k => laws_szImage.f k R T S D 1048576) s ∧ (s < 0 ∨ (0 ≤ s ∧ Fits R T S D)) := by
  unfold laws_szImage.f
  have hM : maxLen = 9223372036854775807 := rfl
  simp only [szIntS_eq R hR 1048576 (by omega) (by omega), Option.bind_some]
  by_cases c : (1048576 : Int) - (R.length : Int) < 0
  · rw [if_pos c]; exact ⟨-1, ev_pos (by omega) (ev_some _), Or.inl (by omega)⟩
  · rw [if_neg c]
    generalize ha : (1048576 : Int) - (R.length : Int) = a at c
    simp only [szIntS_eq T hT a (by omega) (by omega), Option.bind_some]
    by_cases c2 : a - (T.length : Int) < 0
    · rw [if_pos c2]; exact ⟨-1, ev_neg (by omega) (ev_pos (by omega) (ev_some _)), Or.inl (by omega)⟩
    · rw [if_neg c2]
      generalize hb : a - (T.length : Int) = b at c2
      obtain ⟨s, h1, h2⟩ := szSnapS_ev S hs hS b (by omega) (by omega)
      by_cases hs0 : s < 0
      · exact ⟨-1, ev_neg (by omega) (ev_neg (by omega) (ev_bind h1 (ev_pos hs0 (ev_some _)))), Or.inl (by omega)⟩
      · rcases h2 with h2 | ⟨b1, b2, b3, b4⟩
        · exact absurd h2 hs0
        · have hz := szIntS_eq D hD s (by omega) (by omega)
          by_cases c4 : s - (D.length : Int) < 0
          · refine ⟨-1, ev_neg (by omega) (ev_neg (by omega) (ev_bind h1 (ev_neg hs0 (ev_bind (ev_of_eq fun _ => hz) ?_)))), Or.inl (by omega)⟩
            rw [if_pos c4]; exact ev_pos (by omega) (ev_some _)
          · refine ⟨s - (D.length : Int), ev_neg (by omega) (ev_neg (by omega) (ev_bind h1 (ev_neg hs0 (ev_bind (ev_of_eq fun _ => hz) ?_)))), Or.inr ⟨by omega, by omega, by omega, by omega, by omega, fun x hx => by have := b4 x hx; omega⟩⟩
            rw [if_neg c4]; exact ev_neg c4 (ev_some _)
theorem toImage_ev (R T : List Int) (S : List S59) (D : List Int) (h : Fits R T S D) : Ev (fun k => laws_toImage.f k R T S D) (R, T, S.map cvSnap, D) := by
  unfold laws_toImage.f
  exact ev_bind (toIntS_ev R h.hR) (ev_bind (toIntS_ev T h.hT) (ev_bind (toSnapS_ev S h.hS (fun x hx => (h.hs x hx).2)) (ev_bind (toIntS_ev D h.hD) (ev_some _))))
theorem eqImage_ev (R T : List Int) (S : List S59) (D : List Int) (h : Fits R T S D) : Ev (fun k => laws_eqImage.f k R T (S.map cvSnap) D R T (S.map cvSnap) D) true := by
  have := h.hR; have := h.hT; have := h.hD; have hS := h.hS
  unfold laws_eqImage.f
  refine ev_bind (eqIntS_ev R (by omega)) (ev_pos rfl (ev_bind (eqIntS_ev T (by omega)) (ev_pos rfl (ev_bind (eqSnapS_ev (S.map cvSnap) (by rw [List.length_map]; omega) (fun x hx => ?_)) (ev_pos rfl (ev_bind (eqIntS_ev D (by omega)) (ev_pos rfl (ev_some _))))))))
  obtain ⟨y, hy, rfl⟩ := List.mem_map.1 hx
  have := (h.hs y hy).2
  show y.f1.length ≤ _
  omega
theorem cv_fits {S : List S59} (h : ∀ x ∈ S, x.f0.size ≤ 1048576 ∧ x.f1.length ≤ 1048576) : ∀ x : S45, x ∈ S.map cvSnap → x.f0.size ≤ 1000000000 ∧ x.f1.length ≤ 1000000000 := by
  intro x hx
  obtain ⟨y, hy, rfl⟩ := List.mem_map.1 hx
  have := h y hy
  show y.f0.size ≤ _ ∧ y.f1.length ≤ _
  omega
end Go.Proofs.Ytdbcojeblkiidaa.Q
