import Derived.Test.YtniceoohmhjjlaaGreatDoorStFnShots
namespace Go.Proofs.YtniceoohmhjjlaaGreatDoor.Q.FnShots
open Go.RowKit Go.Proofs.YtniceoohmhjjlaaGreatDoor.Ext Go.Proofs.YtniceoohmhjjlaaGreatDoor.Q Go.Proofs.YtniceoohmhjjlaaGreatDoorW.PrintWords Go.Proofs.YtniceoohmhjjlaaGreatDoorW.PrintLast Go.Proofs.YtniceoohmhjjlaaGreatDoorW.PrintMore
set_option linter.unusedVariables false
set_option linter.unusedSimpArgs false
def valE (D : List Int) (e : Int) : Int := if e < 2 then 0 else rd D (e - 2)
def vals (D T : List Int) : List Int := T.map (valE D)
def shots (S : List S60) (D : List Int) : List S53 := S.map (fun x => (⟨x.f0, vals D x.f1⟩ : S53))
def res (R T : List Int) (S : List S60) (D : List Int) : List Int × List S53 × Int := if imgOK R T S D = true then (vals D T, shots S D, 0) else ([], [], 1)
structure Fine (T : List Int) (S : List S60) (D : List Int) : Prop where
  hT : ∀ L ∈ tabs T S, L.length ≤ 1000000 ∧ ∀ e ∈ L, 0 ≤ e ∧ e ≤ 25
  hD : D.length = 24
  hS : S.length ≤ 3
theorem fine_of {R T : List Int} {S : List S60} {D : List Int} (h : imgOK R T S D = true) : Fine T S D := by
  unfold imgOK at h
  rw [Bool.and_eq_true] at h
  obtain ⟨_, h2, h3, h4⟩ := near_tabs h.1
  refine ⟨fun L hL => ?_, h4, h2⟩
  have hT := h3 L hL
  unfold tableOK at hT
  simp only [Bool.and_eq_true, List.all_eq_true, decide_eq_true_eq] at hT
  exact ⟨by have := hT.1; omega, fun e he => inB_iff.1 (hT.2 e he)⟩
theorem vals_len (D T : List Int) : (vals D T).length = T.length := by simp [vals]
theorem vals_snoc (D T : List Int) (i : Nat) (h : i < T.length) : vals D (T.take (i + 1)) = vals D (T.take i) ++ [valE D (rd T (i : Int))] := by
  have e : rd T (i : Int) = T[i] := by simp [rd, h]
  rw [e, List.take_succ_eq_append_getElem h]; unfold vals; rw [List.map_append]; rfl
theorem impl_table_ev {R T : List Int} {S : List S60} {D : List Int} (hF : Fine T S D) (L : List Int) (hL : L ∈ tabs T S) : Ev (fun k => bJ.f k L R T S D) (vals D L) := by
  obtain ⟨h1, h2⟩ := hF.hT L hL
  have hd := hF.hD
  unfold bJ.f
  refine ev_down (g := fun k i => bJ.l0 k L (vals D (L.take i)) (L.length : Int) (i : Int) R T S D) L.length ?_ ?_
  · refine Ev.step (f := fun _ => some (vals D L)) (fun k => ?_) (ev_some _)
    simp only [bJ.l0]; rw [if_neg (by omega), List.take_of_length_le (Nat.le_refl _)]
  · intro i hi h
    have e : rd L (i : Int) = L[i] := by simp [rd, hi]
    have hb := h2 _ (List.getElem_mem hi)
    have hv : cX.f R T S D L (i : Int) = some (valE D (rd L (i : Int))) := by
      unfold cX.f valE
      rw [if_pos (by omega), if_pos (by omega), e]
      by_cases c : L[i] < 2
      · rw [if_pos c, if_pos c]
      · rw [if_neg c, if_neg c, w64 (n := L[i] - 2) (by omega) (by omega), if_pos (by omega), if_pos (by omega)]
    refine Ev.succ ?_
    simp only [bJ.l0, hv, Option.bind_some]
    refine ev_pos (by omega) (ev_pos (by rw [vals_len, List.length_take]; omega) ?_)
    rw [wnext i (by omega), ← vals_snoc D L i hi]
    exact h
theorem shots_len (S : List S60) (D : List Int) : (shots S D).length = S.length := by simp [shots]
theorem shots_snoc (S : List S60) (D : List Int) (i : Nat) (h : i < S.length) : shots (S.take (i + 1)) D = shots (S.take i) D ++ [(⟨(aH S (i : Int)).f0, vals D (aH S (i : Int)).f1⟩ : S53)] := by
  rw [rdE_Snap S i h, List.take_succ_eq_append_getElem h]; unfold shots; rw [List.map_append]; rfl
theorem snap_tab {T : List Int} {S : List S60} (i : Nat) (h : i < S.length) : (aH S (i : Int)).f1 ∈ tabs T S := by
  rw [rdE_Snap S i h]; simp only [tabs, List.mem_cons, List.mem_map]; exact Or.inr ⟨_, List.getElem_mem h, rfl⟩
theorem impl_of_ev {R T : List Int} {S : List S60} {D : List Int} (hF : Fine T S D) : Ev (fun k => aX.f k R T S D) (vals D T, shots S D) := by
  have hS := hF.hS
  unfold aX.f
  refine ev_bind (impl_table_ev hF T (by simp [tabs])) ?_
  refine ev_down (g := fun k i => aX.l0 k S (S.length : Int) (i : Int) R T S D (vals D T) (shots (S.take i) D)) S.length ?_ ?_
  · refine Ev.step (f := fun _ => some (vals D T, shots S D)) (fun k => ?_) (ev_some _)
    simp only [aX.l0]; rw [if_neg (by omega), List.take_of_length_le (Nat.le_refl _)]
  · intro i hi h
    refine Ev.succ ?_
    simp only [aX.l0]
    refine ev_pos (by omega) (ev_pos (by omega) (ev_pos (by omega) (ev_bind (impl_table_ev hF _ (snap_tab i hi)) (ev_pos (by rw [shots_len, List.length_take]; omega) ?_))))
    rw [wnext i (by omega), ← shots_snoc S D i hi]
    exact h
theorem of_ev (R T : List Int) (S : List S60) (D : List Int) (hT : T.length ≤ 1000000000) (hS : S.length ≤ 1000000000) (hs : ∀ x ∈ S, x.f0.size ≤ 1000000000 ∧ x.f1.length ≤ 1000000000) :
    Ev (fun k => dB.f k R T S D) (res R T S D) := by
  unfold dB.f res
  refine ev_bind (eO R T S D hT hS hs) ?_
  cases h : imgOK R T S D
  · exact ev_neg (by decide) (ev_some _)
  · exact ev_pos rfl (ev_bind (impl_of_ev (fine_of h)) (ev_some _))
def sameI (l m : List Int) : Bool := decide ((l.length : Int) = (m.length : Int)) && ((List.range l.length).all (fun i => decide (rd l (i : Int) = rd m (i : Int))) && true)
theorem impl_same_ev (l m : List Int) (hl : l.length ≤ 1000000000) : Ev (fun k => aN.f k l m) (sameI l m) := by
  unfold aN.f sameI
  by_cases c : (l.length : Int) = (m.length : Int)
  · rw [decide_eq_true c, Bool.true_and]
    refine ev_pos c ?_
    refine ev_allE (g := fun k i => aN.l0 k l m (l.length : Int) (i : Int)) l.length _ true ?_ ?_
    · refine Ev.step (f := fun _ => some true) (fun k => ?_) (ev_some _)
      simp only [aN.l0]; rw [if_neg (by omega)]
    · intro i hi b hb
      refine Ev.succ ?_
      simp only [aN.l0]
      refine ev_pos (by omega) (ev_pos (by omega) (ev_pos (by omega) (ev_pos (by omega) ?_)))
      by_cases e : rd l (i : Int) = rd m (i : Int)
      · rw [decide_eq_true e, Bool.true_and]; refine ev_pos e ?_; rw [wnext i (by omega)]; exact hb
      · rw [decide_eq_false e, Bool.false_and]; exact ev_neg e (ev_some _)
  · rw [decide_eq_false c, Bool.false_and]; exact ev_neg c (ev_some _)
def pairAt (l m : List S53) (i : Nat) : Bool := decide (((aC l (i : Int)).f0).toList = ((aC m (i : Int)).f0).toList) && sameI (aC l (i : Int)).f1 (aC m (i : Int)).f1
def sameG (v : List Int) (l : List S53) (w : List Int) (m : List S53) : Bool := sameI v w && (decide ((l.length : Int) = (m.length : Int)) && ((List.range l.length).all (pairAt l m) && true))
theorem same_ev (v : List Int) (l : List S53) (w : List Int) (m : List S53) (hv : v.length ≤ 1000000000) (hl : l.length ≤ 1000000000) (hs : ∀ x ∈ l, x.f1.length ≤ 1000000000) : Ev (fun k => cM.f k v l w m) (sameG v l w m) := by
  unfold cM.f sameG
  refine ev_bind (impl_same_ev v w hv) ?_
  cases sameI v w
  · rw [Bool.false_and]; exact ev_neg (by decide) (ev_some _)
  · refine ev_pos rfl ?_
    rw [Bool.true_and]
    unfold bW.f
    refine ev_bind (r := (decide ((l.length : Int) = (m.length : Int)) && ((List.range l.length).all (pairAt l m) && true))) ?_ (ev_some _)
    by_cases c : (l.length : Int) = (m.length : Int)
    · rw [decide_eq_true c, Bool.true_and]
      refine ev_pos c ?_
      refine ev_allE (g := fun k i => bW.l0 k m l (l.length : Int) (i : Int)) l.length _ true ?_ ?_
      · refine Ev.step (f := fun _ => some true) (fun k => ?_) (ev_some _)
        simp only [bW.l0]; rw [if_neg (by omega)]
      · intro i hi b hb
        refine Ev.succ ?_
        simp only [bW.l0]
        refine ev_pos (by omega) (ev_pos (by omega) (ev_pos (by omega) (ev_pos (by omega) ?_)))
        unfold pairAt cQ.f
        have hx : (aC l (i : Int)).f1.length ≤ 1000000000 := by rw [rdE_Shot l i hi]; exact hs _ (List.getElem_mem hi)
        by_cases e : ((aC l (i : Int)).f0).toList = ((aC m (i : Int)).f0).toList
        · rw [decide_eq_true e, Bool.true_and]
          refine ev_bind (ev_pos e (ev_bind (impl_same_ev _ _ hx) (ev_some _))) ?_
          cases sameI (aC l (i : Int)).f1 (aC m (i : Int)).f1
          · exact ev_neg (by decide) (ev_some _)
          · refine ev_pos rfl ?_; rw [wnext i (by omega), Bool.true_and]; exact hb
        · rw [decide_eq_false e, Bool.false_and, Bool.false_and]; exact ev_bind (ev_neg e (ev_some _)) (ev_neg (by decide) (ev_some _))
    · rw [decide_eq_false c, Bool.false_and]; exact ev_neg c (ev_some _)
def rows (n : Int) : List Int := if inB n 0 12 = true then List.replicate n.toNat 0 else []
def code (n : Int) : Int := if inB n 0 12 = true then 0 else 4
theorem new_eq (n : Int) : dF.f n = some (rows n, [], code n) := by
  unfold dF.f dL.f rows code
  rw [within_eq, Option.bind_some, Option.bind_some]
  cases h : inB n 0 12
  · rfl
  · have := inB_iff.1 h
    simp only [if_true]
    rw [if_pos (by omega), if_pos (by omega)]
theorem sameI_iff (l m : List Int) : sameI l m = true ↔ l = m := by
  unfold sameI
  simp only [Bool.and_eq_true, decide_eq_true_eq, List.all_eq_true, List.mem_range, and_true]
  constructor
  · rintro ⟨h1, h2⟩
    refine List.ext_getElem (by omega) (fun i a b => ?_)
    have := h2 i a
    rwa [rdn l i a, rdn m i b] at this
  · rintro rfl; exact ⟨rfl, fun _ _ => rfl⟩
theorem sameG_iff (v : List Int) (l : List S53) (w : List Int) (m : List S53) : sameG v l w m = true ↔ v = w ∧ l = m := by
  unfold sameG
  simp only [Bool.and_eq_true, decide_eq_true_eq, List.all_eq_true, List.mem_range, and_true, sameI_iff]
  constructor
  · rintro ⟨h0, h1, h2⟩
    refine ⟨h0, List.ext_getElem (by omega) (fun i a b => ?_)⟩
    have := h2 i a
    unfold pairAt at this
    rw [rdE_Shot l i a, rdE_Shot m i b, Bool.and_eq_true, decide_eq_true_eq, sameI_iff, toList_inj] at this
    have e1 := this.1; have e2 := this.2
    generalize l[i] = x at e1 e2 ⊢
    generalize m[i] = y at e1 e2 ⊢
    cases x; cases y; simp only at e1 e2; rw [e1, e2]
  · rintro ⟨rfl, rfl⟩
    refine ⟨rfl, rfl, fun i hi => ?_⟩
    unfold pairAt
    rw [Bool.and_eq_true, decide_eq_true_eq, sameI_iff]; exact ⟨rfl, rfl⟩
theorem texts_ev (a b : List ByteArray) (ha : a.length ≤ 1000000) : Ev (fun k => bX.f k a b) (decide (a = b)) := by
  unfold bX.f
  by_cases c : (a.length : Int) = (b.length : Int)
  · refine ev_pos c ?_
    have hg : ∀ (l : List ByteArray) (i : Nat) (h : i < l.length), rdOf ByteArray.empty l (i : Int) = l[i] := fun l i h => by simp [rdOf, h]
    have h := ev_allE (g := fun k i => bX.l0 k a b (i : Int)) a.length (fun i => decide (rdOf ByteArray.empty a (i : Int) = rdOf ByteArray.empty b (i : Int))) true ?_ ?_
    · have e : ((List.range a.length).all (fun i => decide (rdOf ByteArray.empty a (i : Int) = rdOf ByteArray.empty b (i : Int))) && true) = decide (a = b) := by
        rw [Bool.and_true, Bool.eq_iff_iff, decide_eq_true_eq, List.all_eq_true]
        simp only [List.mem_range, decide_eq_true_eq]
        constructor
        · intro h
          refine List.ext_getElem (by omega) (fun i x y => ?_)
          have := h i x
          rwa [hg a i x, hg b i y] at this
        · rintro rfl i _; rfl
      rwa [e] at h
    · refine Ev.step (f := fun _ => some true) (fun k => ?_) (ev_some _)
      simp only [bX.l0]; rw [if_neg (by omega)]
    · intro i hi r hr
      refine Ev.succ ?_
      simp only [bX.l0]
      refine ev_pos (by omega) (ev_pos (by omega) (ev_pos (by omega) ?_))
      by_cases e : rdOf ByteArray.empty a (i : Int) = rdOf ByteArray.empty b (i : Int)
      · rw [decide_eq_true e, Bool.true_and]; refine ev_pos (by rw [e]) ?_; rw [wnext i (by omega)]; exact hr
      · rw [decide_eq_false e, Bool.false_and]; exact ev_neg (fun h => e (toList_inj.1 h)) (ev_some _)
  · refine ev_neg c ?_
    rw [decide_eq_false (fun h => c (by rw [h]))]; exact ev_some _
theorem rt_img {R T : List Int} {S : List S60} {D : List Int} (h : Rt R T S D) : imgOK R T S D = true := by
  unfold imgOK
  rw [h.near, ← h.counts, Bool.true_and, decide_eq_true rfl, Bool.true_and]
  unfold zeroD
  rw [List.all_eq_true]
  intro i hi
  have hi := List.mem_range.1 hi
  by_cases c : rd R (i : Int) = 0
  · rw [if_pos c, decide_eq_true_eq]
    exact h.w.z i hi (by have := h.w.c i hi; omega)
  · rw [if_neg c]
theorem val_num {D : List Int} (hD : D.length = 24) (hn : ∀ x ∈ D, isNum x = true) {e : Int} (h0 : 0 ≤ e) (h1 : e ≤ 25) : inB (valE D e) 0 2147483647 = true := by
  unfold valE
  by_cases c : e < 2
  · rw [if_pos c]; decide
  · rw [if_neg c]
    obtain ⟨j, hj⟩ : ∃ j : Nat, e - 2 = (j : Int) := ⟨(e - 2).toNat, by omega⟩
    rw [hj, rdn D j (by omega)]
    exact hn _ (List.getElem_mem _)
theorem vals_ok {D T : List Int} (hD : D.length = 24) (hn : ∀ x ∈ D, isNum x = true) (hT : Good T) : valsOK (vals D T) = true := by
  unfold valsOK
  have := hT.l
  rw [Bool.and_eq_true, List.all_eq_true, decide_eq_true_eq, vals_len]
  refine ⟨fun x hx => ?_, by omega⟩
  unfold vals at hx
  obtain ⟨e, he, rfl⟩ := List.mem_map.1 hx
  have := hT.e e he
  exact val_num hD hn this.1 this.2
theorem guest_ok {R T : List Int} {S : List S60} {D : List Int} (h : Rt R T S D) : gokP (vals D T) (shots S D) = true := by
  have hl := h.l
  unfold gokP
  rw [gok_same, vals_ok h.w.d h.w.n h.t]
  simp only [Bool.and_eq_true, decide_eq_true_eq, List.all_eq_true, shots_len, Bool.true_and]
  have e : (shots S D).map (·.f0) = S.map (·.f0) := by unfold shots; rw [List.map_map]; rfl
  refine ⟨by omega, ⟨?_, by rw [e]; exact h.u⟩, ?_⟩
  · rw [e]
    intro x hx
    obtain ⟨y, hy, rfl⟩ := List.mem_map.1 hx
    exact (h.s y hy).2.1
  · intro x hx
    unfold shots at hx
    obtain ⟨y, hy, rfl⟩ := List.mem_map.1 hx
    exact vals_ok h.w.d h.w.n (h.s y hy).1
theorem of_ok {R T : List Int} {S : List S60} {D : List Int} (h : Rt R T S D) : Ev (fun k => dB.f k R T S D) (vals D T, shots S D, 0) := by
  have hr := h.w.r; have hd := h.w.d; have ht := h.t.l; have hl := h.l
  have := of_ev R T S D (by omega) (by omega) (fun x hx => by have h1 := (h.s x hx).1.l; have h2 := (h.s x hx).2.2; omega)
  unfold res at this
  rwa [if_pos (rt_img h)] at this
theorem pure : st := by
  intro c m hc hm
  refine Ev.rounds ?_
  have hc' := bytes_of (l := c) (fun x hx => hc.2 x hx)
  have hm' := bytes_of (l := m) (fun x hx => hm.2 x hx)
  unfold laws_FnShots.f
  by_cases l1 : (c.length : Int) > 1048576
  · exact ev_pos l1 (ev_some _)
  refine ev_neg l1 ?_
  by_cases l2 : (m.length : Int) > 1048576
  · exact ev_pos l2 (ev_some _)
  refine ev_neg l2 ?_
  obtain ⟨R, T, S, D, hI, hR⟩ := image_ok c hc' (by omega)
  obtain ⟨R', T', S', D', hI', hR'⟩ := image_ok m hm' (by omega)
  have hA := of_ok hR
  have hB := of_ok hR'
  have gA := guest_ok hR
  have gB := guest_ok hR'
  generalize vals D T = v at hA gA
  generalize shots S D = l at hA gA
  generalize vals D' T' = w at hB gB
  generalize shots S' D' = n at hB gB
  obtain ⟨a1, a2, a3⟩ := gok_facts gA
  obtain ⟨b1, b2, b3⟩ := gok_facts gB
  have av := (vals_fine a1).1
  have bv := (vals_fine b1).1
  have as_ : ∀ x ∈ l, x.f0.size ≤ 1000000000 ∧ x.f1.length ≤ 1000000000 := fun x hx => by have h1 := (vals_fine (a3 x hx).1).1; have h2 := nm_six (a3 x hx).2; omega
  have bs_ : ∀ x ∈ n, x.f0.size ≤ 1000000000 ∧ x.f1.length ≤ 1000000000 := fun x hx => by have h1 := (vals_fine (b3 x hx).1).1; have h2 := nm_six (b3 x hx).2; omega
  have tA := eS v l (by omega) (fun x hx => (as_ x hx).1)
  have tB := eS w n (by omega) (fun x hx => (bs_ x hx).1)
  have tW := eR v l (by omega) (by omega) as_
  have eA : gres v l = (gtext v l, 0) := by unfold gres; rw [if_pos gA]
  have eB : gres w n = (gtext w n, 0) := by unfold gres; rw [if_pos gB]
  rw [eA] at tA tW
  rw [eB] at tB
  have hlA : (gtext v l).length = l.length + 1 := by unfold gtext; rw [List.length_cons, List.length_map]
  obtain ⟨x, hx, x0, -, x1⟩ := at_ok m hm' 0 (by omega) (by omega) 13
  have x1' := x1 (by omega)
  obtain ⟨j, rfl⟩ : ∃ j : Nat, x = (j : Int) := ⟨x.toNat, by omega⟩
  have hin : inB (j : Int) 0 12 = true := inB_iff.2 ⟨by omega, by omega⟩
  have hN : dF.f (j : Int) = some (List.replicate j 0, [], 0) := by
    rw [new_eq]; unfold rows code
    rw [hin, if_pos rfl, if_pos rfl, Int.toNat_natCast]
  have s1 := texts_ev (gtext v l) (gtext v l) (by omega)
  rw [decide_eq_true rfl] at s1
  have s2 := same_ev v l w n (by omega) (by omega) (fun x hx => (as_ x hx).2)
  have s3 := texts_ev (gtext v l) (gtext w n) (by omega)
  have s4 := same_ev v l v l (by omega) (by omega) (fun x hx => (as_ x hx).2)
  rw [(sameG_iff v l v l).2 ⟨rfl, rfl⟩] at s4
  have hsame : (sameG v l w n == decide (gtext v l = gtext w n)) = true := by
    rw [beq_iff_eq, Bool.eq_iff_iff, sameG_iff, decide_eq_true_eq]
    exact ⟨fun h => by rw [h.1, h.2], fun h => gtext_inj gA gB h⟩
  refine ev_bind hI (ev_bind hA (ev_bind hI' (ev_bind hB (ev_bind tA (ev_bind tB (ev_bind tW (ev_bind (ev_of_eq fun _ => hx) (ev_bind (ev_of_eq fun _ => hN) ?_))))))))
  refine ev_pos rfl (ev_pos rfl (ev_pos rfl (ev_pos rfl (ev_bind s1 (ev_pos rfl (ev_pos ?_ (ev_bind s2 (ev_bind s3 (ev_pos hsame (ev_bind s4 (ev_pos rfl (ev_pos rfl (ev_bind (ev_of_eq fun _ => hx) ?_)))))))))))))
  · show ((gtext v l).length : Int) = wrap64 ((l.length : Int) + 1)
    rw [hlA, w64 (by omega) (by omega)]; omega
  · have e : (((List.replicate j (0 : Int)).length : Int) == (j : Int)) = true := by rw [List.length_replicate]; exact beq_iff_eq.2 rfl
    show Ev (fun _ => some (((List.replicate j (0 : Int)).length : Int) == (j : Int))) true
    rw [e]; exact ev_some _

end Go.Proofs.YtniceoohmhjjlaaGreatDoor.Q.FnShots
