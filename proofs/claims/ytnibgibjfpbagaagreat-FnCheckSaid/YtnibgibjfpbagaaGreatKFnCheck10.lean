/- What laws.FnCheck reaches, part 10: the functions as Lean functions, the proofs that the program's functions answer so, and plain laws about them. -/
import Derived.Test.YtnibgibjfpbagaaGreatKFnCheck1
import Derived.Test.YtnibgibjfpbagaaGreatKFnCheck2
import Derived.Test.YtnibgibjfpbagaaGreatKFnCheck3
import Derived.Test.YtnibgibjfpbagaaGreatKFnCheck4
import Derived.Test.YtnibgibjfpbagaaGreatKFnCheck5
import Derived.Test.YtnibgibjfpbagaaGreatKFnCheck6
import Derived.Test.YtnibgibjfpbagaaGreatKFnCheck7
import Derived.Test.YtnibgibjfpbagaaGreatKFnCheck8
import Derived.Test.YtnibgibjfpbagaaGreatKFnCheck9
namespace Go.Proofs.YtnibgibjfpbagaaGreat.Q
open Go.RowKit Go.Proofs.YtnibgibjfpbagaaGreat.Ext Go.Proofs.YtnibgibjfpbagaaGreatW.PrintWords Go.Proofs.YtnibgibjfpbagaaGreatW.PrintLast Go.Proofs.YtnibgibjfpbagaaGreatW.PrintMore
attribute [local go_sem] max2_int min2_int max_two min_two max_three min_three max_four min_four   -- for this text's walks alone
set_option linter.unusedVariables false
set_option linter.unusedSimpArgs false

set_option linter.unusedVariables false
set_option linter.unusedSimpArgs false
theorem rd_cntT : ∀ (ts : List (List Int)) (o : List Int), o.length = 24 → (∀ t ∈ ts, t.length ≤ 12 ∧ ∀ x ∈ t, 0 ≤ x ∧ x ≤ 25) → (∀ c : Nat, c < 24 → 0 ≤ rd o (c : Int) ∧ rd o (c : Int) + (((ts.map (fun t => oc t c)).sum : Nat) : Int) ≤ 1000000) → ∀ c : Nat, c < 24 → rd (cntT o ts) (c : Int) = rd o (c : Int) + (((ts.map (fun t => oc t c)).sum : Nat) : Int) := by
  intro ts
  induction ts with
  | nil => intro o _ _ _ c _; show rd o (c : Int) = _; simp
  | cons t ts ih =>
    intro o ho ht hb c hc
    obtain ⟨h1, h2⟩ := ht t (by simp)
    have hci := clu_in (table_of h1 h2)
    have hcc : ∀ c : Nat, (clu t).count (c : Int) = oc t c := clu_count t h2
    have hm : ∀ y : Nat, (((t :: ts).map (fun t => oc t y)).sum : Nat) = oc t y + (ts.map (fun t => oc t y)).sum := fun y => by rw [List.map_cons, List.sum_cons]
    have hcnt := rd_cnt (clu t) o ho hci (fun y hy => by have := hb y hy; rw [hm] at this; rw [hcc]; omega)
    have := ih (cnt o (clu t)) (by rw [cnt_length]; exact ho) (fun u hu => ht u (by simp [hu])) (fun y hy => by
      have h3 := hb y hy
      rw [hm] at h3
      rw [hcnt y hy, hcc]
      omega) c hc
    show rd (cntT (cnt o (clu t)) ts) (c : Int) = _
    rw [this, hcnt c hc, hcc, hm]
    omega
theorem sum_le : ∀ (S : List S66) (c : Nat), (∀ x ∈ S, oc x.f1 c ≤ 1) → (S.map (fun x => oc x.f1 c)).sum ≤ S.length := by
  intro S c
  induction S with
  | nil => intro _; simp
  | cons x S ih =>
    intro h
    have h1 := h x (by simp); have h2 := ih (fun y hy => h y (by simp [hy]))
    rw [List.map_cons, List.sum_cons, List.length_cons]
    omega
theorem Rt.few {R T : List Int} {S : List S66} {D : List Int} (h : Rt R T S D) (c : Nat) (hc : c < 24) : toc T S c ≤ 4 := by
 have h1 := h.t.o c hc; have h2 := sum_le S c (fun x hx => (h.s x hx).1.o c hc); have h3 := h.l
 unfold toc
 omega
theorem rd_ext {a b : List Int} (ha : a.length = 24) (hb : b.length = 24) (h : ∀ c : Nat, c < 24 → rd a (c : Int) = rd b (c : Int)) : a = b := by
 refine List.ext_getElem (by omega) (fun i h1 h2 => ?_)
 have := h i (by omega)
 rwa [rdn a i h1, rdn b i h2] at this
theorem once_of {t : List Int} (h : Good t) : once t = true := by
 unfold once
 rw [decide_eq_true_eq, List.nodup_iff_count]
 intro a
 by_cases ha : a ∈ clu t
 ·have hb := clu_in (table_of h.l h.e) a ha
  obtain ⟨j, rfl⟩ : ∃ j : Nat, a = (j : Int) := ⟨a.toNat, by omega⟩
  rw [clu_count t h.e]
  exact h.o j (by omega)
 ·rw [List.count_eq_zero_of_not_mem ha]; omega
/-- Right but for counts: whatever the counts are, if they are small. -/
theorem near_of {R T : List Int} {S : List S66} {D : List Int} (hR : R.length = 24) (hr : ∀ x ∈ R, 0 ≤ x ∧ x ≤ 15) (ht : Good T) (hs : ∀ x ∈ S, Good x.f1 ∧ nmOK x.f0 = true ∧ x.f0.size ≤ 6) (hl : S.length ≤ 3) (hu : (S.map (·.f0)).Nodup) (hD : D.length = 24) (hn : ∀ x ∈ D, isNum x = true) : near R T S D = true := by
 unfold near refsOK namesOK
 simp only [Bool.and_eq_true, List.all_eq_true, decide_eq_true_eq, beq_iff_eq, List.length_map]
 refine ⟨⟨fun x hx => inB_iff.2 (hr x hx), by omega⟩, by omega, ⟨by omega, ?_, hu⟩, ?_, by omega, hn⟩
 ·intro x hx
  obtain ⟨y, hy, rfl⟩ := List.mem_map.1 hx
  exact (hs y hy).2.1
 ·intro t hm
  simp only [tabs, List.mem_cons, List.mem_map] at hm
  have hg : Good t := by
   rcases hm with rfl | ⟨x, hx, rfl⟩
   ·exact ht
   ·exact (hs x hx).1
  exact ⟨table_of hg.l hg.e, once_of hg⟩
theorem counts_rd {R T : List Int} {S : List S66} {D : List Int} (h : Rt R T S D) (c : Nat) (hc : c < 24) : rd (counts T S) (c : Int) = (toc T S c : Int) := by
 have hz : ∀ y : Nat, y < 24 → rd zeros24 (y : Int) = 0 := by
  intro y hy
  unfold rd zeros24
  simp only [Int.toNat_natCast, List.getD_eq_getElem?_getD, List.getElem?_replicate]
  rw [if_pos hy]; rfl
 have hm : ∀ y : Nat, ((tabs T S).map (fun t => oc t y)).sum = toc T S y := by
  intro y
  unfold tabs toc
  rw [List.map_cons, List.sum_cons, List.map_map]; rfl
 unfold counts
 rw [rd_cntT (tabs T S) zeros24 rfl ?_ ?_ c hc, hz c hc, hm]
 ·omega
 ·intro t ht
  simp only [tabs, List.mem_cons, List.mem_map] at ht
  rcases ht with rfl | ⟨x, hx, rfl⟩
  ·exact ⟨h.t.l, h.t.e⟩
  ·exact ⟨(h.s x hx).1.l, (h.s x hx).1.e⟩
 ·intro y hy
  rw [hz y hy, hm]
  have := h.few y hy
  omega
theorem Rt.mem {R T : List Int} {S : List S66} {D : List Int} (h : Rt R T S D) : ∀ x ∈ R, 0 ≤ x ∧ x ≤ 4 := by
 intro x hx
 obtain ⟨i, hi, rfl⟩ := List.getElem_of_mem hx
 have hr := h.w.r; have h1 := h.w.c i (by omega); have h2 := h.few i (by omega)
 rw [rdn R i hi] at h1
 omega
theorem Rt.near {R T : List Int} {S : List S66} {D : List Int} (h : Rt R T S D) : near R T S D = true :=
 near_of h.w.r (fun x hx => by have := h.mem x hx; omega) h.t h.s h.l h.u h.w.d h.w.n
theorem Rt.counts {R T : List Int} {S : List S66} {D : List Int} (h : Rt R T S D) : R = counts T S :=
 rd_ext h.w.r (counts_length T S) (fun c hc => by rw [h.w.c c hc, counts_rd h c hc])
theorem own_ev (R T : List Int) (S : List S66) (D : List Int) (hR : R.length ≤ 1000000) (hT : T.length ≤ 1000000) (hS : S.length ≤ 1000000) (hD : D.length ≤ 1000000) (hs : ∀ x ∈ S, x.f1.length ≤ 1000000) : Ev (fun k => spec_l10Own.f k R T S D) (R, T, S, D) := by
 unfold spec_l10Own.f
 simp only [Option.bind_some, List.nil_append, List.length_nil]
 refine ev_pos (by omega) (ev_pos (by omega) (ev_pos (by omega) ?_))
 refine ev_down (g := fun k i => spec_l10Own.l0 k (i : Int) R T S D R T (S.take i) D) S.length ?_ ?_
 ·refine Ev.step (f := fun _ => some (R, T, S, D)) (fun k => ?_) (ev_some _)
  simp only [spec_l10Own.l0]; rw [if_neg (by omega), List.take_length]
 ·intro i hi h
  refine Ev.succ ?_
  have hl : (S.take i).length ≤ 1000000 := Nat.le_trans (by rw [List.length_take]; omega) hS
  have hm := hs _ (List.getElem_mem hi)
  simp only [spec_l10Own.l0, rdE_Snap S i hi, Option.bind_some, List.nil_append, List.length_nil]
  refine ev_pos (by omega) (ev_pos (by omega) (ev_pos (by omega) (ev_pos (by omega) ?_)))
  rw [wnext i (by omega)]
  rw [List.take_succ_eq_append_getElem hi] at h
  exact h
theorem Rt.own {R T : List Int} {S : List S66} {D : List Int} (h : Rt R T S D) : Ev (fun k => spec_l10Own.f k R T S D) (R, T, S, D) := by
 have h1 := h.w.r; have h2 := h.w.d; have h3 := h.t.l; have h4 := h.l
 exact own_ev R T S D (by omega) (by omega) (by omega) (by omega) (fun x hx => by have := (h.s x hx).1.l; omega)
theorem free_ev (R : List Int) (hR : R.length = 24) : ∃ r, Ev (fun k => spec_l08Free.f k R) r ∧ (r = -1 ∨ ∃ c : Nat, r = (c : Int) ∧ c < 24 ∧ rd R (c : Int) = 0) := by
  unfold spec_l08Free.f
  have key : ∀ d i : Nat, i ≤ 24 → 24 - i = d → ∃ r, Ev (fun k => spec_l08Free.l0 k R (i : Int)) r ∧ (r = -1 ∨ ∃ c : Nat, r = (c : Int) ∧ c < 24 ∧ rd R (c : Int) = 0) := by
    intro d
    induction d with
    | zero =>
      intro i hi hd
      refine ⟨-1, Ev.step (f := fun _ => some (-1)) (fun k => ?_) (ev_some _), .inl rfl⟩
      simp only [spec_l08Free.l0]; rw [if_neg (by omega)]
    | succ d ih =>
      intro i hi hd
      have h0 : 0 ≤ (i : Int) := by omega
      have h1 : (i : Int) < (R.length : Int) := by omega
      have hw := wnext i (by omega)
      have hi24 : i < 24 := by omega
      obtain ⟨r, h, hr⟩ := ih (i + 1) (by omega) (by omega)
      by_cases hz : rd R (i : Int) = 0
      · refine ⟨(i : Int), Ev.step (f := fun _ => some (i : Int)) (fun k => ?_) (ev_some _), .inr ⟨i, rfl, hi24, hz⟩⟩
        simp only [spec_l08Free.l0]; rw [if_pos h1, if_pos h0, if_pos hz]
      · refine ⟨r, Ev.step (f := fun k => spec_l08Free.l0 k R ((i + 1 : Nat) : Int)) (fun k => ?_) h, hr⟩
        simp only [spec_l08Free.l0]; rw [if_pos h1, if_pos h0, if_neg hz, hw]
  exact key 24 0 (by omega) (by omega)
theorem find_ev (R T : List Int) (S : List S66) (D : List Int) (nm_ : ByteArray) (hS : S.length ≤ 1000) : ∃ r, Ev (fun k => spec_l10Find.f k R T S D nm_) r ∧ (r = -1 ∧ (∀ x ∈ S, x.f0 ≠ nm_) ∨ ∃ c : Nat, r = (c : Int) ∧ c < S.length) := by
  unfold spec_l10Find.f
  have key : ∀ d i : Nat, i ≤ S.length → S.length - i = d → ∃ r, Ev (fun k => spec_l10Find.l0 k nm_ (i : Int) R T S D) r ∧ (r = -1 ∧ (∀ x ∈ S.drop i, x.f0 ≠ nm_) ∨ ∃ c : Nat, r = (c : Int) ∧ c < S.length) := by
    intro d
    induction d with
    | zero =>
      intro i hi hd
      refine ⟨-1, Ev.step (f := fun _ => some (-1)) (fun k => ?_) (ev_some _), .inl ⟨rfl, ?_⟩⟩
      · simp only [spec_l10Find.l0]; rw [if_neg (by omega)]
      · rw [List.drop_of_length_le (by omega)]; simp
    | succ d ih =>
      intro i hi hd
      have hlt : i < S.length := by omega
      have h0 : 0 ≤ (i : Int) := by omega
      have h1 : (i : Int) < (S.length : Int) := by omega
      have hw := wnext i (by omega)
      obtain ⟨r, h, hr⟩ := ih (i + 1) (by omega) (by omega)
      by_cases hz : S[i].f0 = nm_
      · refine ⟨(i : Int), Ev.step (f := fun _ => some (i : Int)) (fun k => ?_) (ev_some _), .inr ⟨i, rfl, hlt⟩⟩
        simp only [spec_l10Find.l0, rdE_Snap S i hlt]; rw [if_pos h1, if_pos h0, if_pos (by rw [hz])]
      · refine ⟨r, Ev.step (f := fun k => spec_l10Find.l0 k nm_ ((i + 1 : Nat) : Int) R T S D) (fun k => ?_) h, ?_⟩
        · simp only [spec_l10Find.l0, rdE_Snap S i hlt]; rw [if_pos h1, if_pos h0, if_neg (fun e => hz (toList_inj.1 e)), hw]
        · rcases hr with ⟨hr, ha⟩ | hr
          · refine .inl ⟨hr, ?_⟩
            rw [List.drop_eq_getElem_cons hlt]
            intro x hx
            rcases List.mem_cons.1 hx with rfl | hx
            · exact hz
            · exact ha x hx
          · exact .inr hr
  have := key S.length 0 (by omega) (by omega)
  rwa [List.drop_zero] at this
/-- A table with one entry changed. -/
theorem oc_set (T : List Int) (g : Nat) (hg : g < T.length) (x : Int) (c : Nat) : oc (T.set g x) c + (if T[g] = (c : Int) + 2 then 1 else 0) = oc T c + (if x = (c : Int) + 2 then 1 else 0) := by
  induction T generalizing g with
  | nil => simp at hg
  | cons y T ih =>
    cases g with
    | zero =>
      simp only [zz, List.getElem_cons_zero, oc_cons]
      omega
    | succ g =>
      have := ih g (by simpa using hg)
      simp only [zt, List.getElem_cons_succ, oc_cons]
      omega
theorem oc_pos {T : List Int} {g : Nat} (hg : g < T.length) {c : Nat} (h : T[g] = (c : Int) + 2) : 1 ≤ oc T c := by
 unfold oc
 exact List.count_pos_iff.2 (by rw [← h]; exact List.getElem_mem hg)
theorem good_set {T : List Int} (h : Good T) (g : Nat) (hg : g < T.length) (x : Int) (h0 : 0 ≤ x) (h1 : x ≤ 25) (hx : ∀ c : Nat, c < 24 → x = (c : Int) + 2 → oc T c = 0) : Good (T.set g x) := by
 refine ⟨by simpa using h.l, fun y hy => ?_, fun c hc => ?_⟩
 ·rcases List.mem_or_eq_of_mem_set hy with hy | rfl
  ·exact h.e y hy
  ·exact ⟨h0, h1⟩
 ·have := oc_set T g hg x c
  have h2 := h.o c hc
  by_cases e : x = (c : Int) + 2
  ·have := hx c hc e
   rw [if_pos e] at *
   omega
  ·rw [if_neg e] at *
   omega
theorem zero_ok {R T : List Int} {S : List S66} {D : List Int} (h : Rt R T S D) (g : Nat) (hg : g < T.length) : ∃ R' D', Ev (fun k => spec_l10Zero.f k R T S D (g : Int)) (R', T.set g 1, S, D') ∧ Rt R' (T.set g 1) S D' := by
 have he := h.t.e _ (List.getElem_mem hg); have hgl := h.t.l
 have hge : ∀ c : Nat, c < 24 → T[g] = (c : Int) + 2 → 1 ≤ toc T S c := fun c hc e => by have := oc_pos hg e; unfold toc; omega
 obtain ⟨R1, D1, e1, h1⟩ := drop_ok T S h.w T[g] he.1 he.2 hge
 have hgood := good_set h.t g hg 1 (by omega) (by omega) (fun c _ e => by omega)
 refine ⟨R1, D1, ?_, h1.congr fun c hc => ?_, hgood, h.s, h.l, h.u⟩
 ·unfold spec_l10Zero.f
  refine ev_bind h.own (ev_pos (by omega) (ev_pos (by omega) ?_))
  rw [rdn T g hg, e1]
  refine ev_bind (ev_some _) (ev_pos (by show (g : Int) < (T.length : Int); omega) ?_)
  rw [Int.toNat_natCast]; exact ev_some _
 ·have := oc_set T g hg 1 c
  rw [if_neg (by omega : ¬ (1 : Int) = (c : Int) + 2)] at this
  unfold toc
  omega
theorem w2c (c : Nat) (hc : c < 24) : wrap64 (2 + (c : Int)) = (c : Int) + 2 := by rw [w64 (by omega) (by omega)]; omega
theorem wc2 (c : Nat) (hc : c < 24) : wrap64 ((c : Int) + 2 - 2) = (c : Int) := by rw [w64 (by omega) (by omega)]; omega
theorem write_free {R T : List Int} {S : List S66} {D : List Int} (h : Rt R T S D) (g : Nat) (hg : g < T.length) (v : Int) (hv : isNum v = true) : ∃ R' T' D' z, Ev (fun k => spec_l10Write.j0 k (g : Int) v T[g] false R T S D) (R', T', S, D', z) ∧ Rt R' T' S D' := by
 have he := h.t.e _ (List.getElem_mem hg); have hgl := h.t.l; have hr := h.w.r; have hd := h.w.d
 have hge : ∀ c : Nat, c < 24 → T[g] = (c : Int) + 2 → 1 ≤ toc T S c := fun c hc e => by have := oc_pos hg e; unfold toc; omega
 obtain ⟨r, hf, hc⟩ := free_ev R hr
 rcases hc with rfl | ⟨c, rfl, hc, hz⟩
 ·refine ⟨R, T, D, 7, Ev.succ ?_, h⟩
  simp only [spec_l10Write.j0]
  exact ev_neg (by decide) (ev_bind hf (ev_pos (by decide) (ev_some _)))
 ·obtain ⟨R1, D1, e1, h1⟩ := drop_ok T S h.w T[g] he.1 he.2 hge
  have hr1 := h1.r; have hd1 := h1.d
  have hc0 : toc T S c = 0 := by have := h.w.c c hc; omega
  have hoc : oc T c = 0 := by unfold toc at hc0; omega
  have hsame : ∀ x : Nat, x < 24 → (c : Int) + 2 = (x : Int) + 2 → oc T x = 0 := by
   intro x _ e
   have hcx : c = x := by omega
   subst hcx; exact hoc
  have hgood := good_set h.t g hg ((c : Int) + 2) (by omega) (by omega) hsame
  have hne : T[g] ≠ (c : Int) + 2 := fun e => by have := oc_pos hg e; omega
  refine ⟨R1.set c 1, T.set g ((c : Int) + 2), D1.set c v, 0, Ev.succ ?_, ⟨by simpa using hr1, by simpa using hd1, ?_, ?_, num_set h1.n hv, ?_⟩, hgood, h.s, h.l, h.u⟩
  ·simp only [spec_l10Write.j0]
   refine ev_neg (by decide) (ev_bind hf (ev_neg (by omega) ?_))
   rw [e1]
   refine ev_bind (ev_some _) (ev_pos (by omega) (ev_pos (by show (c : Int) < (R1.length : Int); omega) (ev_pos (by show (c : Int) < (D1.length : Int); omega) (ev_pos (by omega) (ev_pos (by show (g : Int) < (T.length : Int); omega) ?_)))))
   simp only [Int.toNat_natCast, w2c c hc]; exact ev_some _
  ·intro y hy
   have ho := oc_set T g hg ((c : Int) + 2) y
   rw [rd_set R1 c y _ (by omega)]
   by_cases hcy : c = y
   ·subst hcy
    rw [if_pos rfl]
    rw [if_neg hne, if_pos rfl] at ho
    unfold toc at hc0 ⊢
    omega
   ·rw [if_neg hcy, h1.c y hy]
    rw [if_neg (by omega : ¬ (c : Int) + 2 = (y : Int) + 2)] at ho
    unfold toc
    omega
  ·intro y hy hz2
   have ho := oc_set T g hg ((c : Int) + 2) y
   rw [rd_set D1 c y _ (by omega)]
   by_cases hcy : c = y
   ·subst hcy
    rw [if_neg hne, if_pos rfl] at ho
    unfold toc at hz2
    omega
   ·rw [if_neg hcy]
    rw [if_neg (by omega : ¬ (c : Int) + 2 = (y : Int) + 2)] at ho
    refine h1.z y hy ?_
    unfold toc at hz2 ⊢
    omega
  ·intro y hy
   have ho := hgood.o y hy; have h2 := sum_le S y (fun x hx => (h.s x hx).1.o y hy); have h3 := h.l
   unfold toc
   omega
theorem write_ok {R T : List Int} {S : List S66} {D : List Int} (h : Rt R T S D) (g : Nat) (hg : g < T.length) (v : Int) (hv : isNum v = true) : ∃ R' T' D' z, Ev (fun k => spec_l10Write.f k R T S D (g : Int) v) (R', T', S, D', z) ∧ Rt R' T' S D' := by
 have he := h.t.e _ (List.getElem_mem hg); have hgl := h.t.l; have hr := h.w.r; have hd := h.w.d
 have hge : ∀ c : Nat, c < 24 → T[g] = (c : Int) + 2 → 1 ≤ toc T S c := fun c hc e => by have := oc_pos hg e; unfold toc; omega
 have hrest := write_free h g hg v hv
 unfold spec_l10Write.f
 by_cases c2 : T[g] ≥ 2
 ·obtain ⟨c, hc⟩ : ∃ c : Nat, T[g] = (c : Int) + 2 := ⟨(T[g] - 2).toNat, by omega⟩
  have hc24 : c < 24 := by omega
  by_cases c1 : rd R (c : Int) = 1
  ·refine ⟨R, T, D.set c v, 0, ?_, ⟨hr, by simpa using hd, h.w.c, ?_, num_set h.w.n hv, h.w.b⟩, h.t, h.s, h.l, h.u⟩
   ·refine ev_bind h.own ?_
    simp only [rdn T g hg]
    refine ev_pos (by omega) (ev_pos (by omega) (ev_pos c2 ?_))
    rw [hc, wc2 c hc24, c1]
    refine ev_pos (by omega) (ev_pos (by omega) (Ev.succ ?_))
    simp only [spec_l10Write.j0, wc2 c hc24]
    refine ev_pos (by decide) (ev_pos (by omega) (ev_pos (by omega) ?_))
    rw [Int.toNat_natCast]; exact ev_some _
   ·intro y hy hz
    rw [rd_set D c y _ (by omega)]
    by_cases hcy : c = y
    ·subst hcy
     have := h.w.c c hc24
     omega
    ·rw [if_neg hcy]; exact h.w.z y hy hz
  ·obtain ⟨R', T', D', z, hE, hR⟩ := hrest
   refine ⟨R', T', D', z, ?_, hR⟩
   refine ev_bind h.own ?_
   simp only [rdn T g hg]
   refine ev_pos (by omega) (ev_pos (by omega) (ev_pos c2 ?_))
   have hb : (rd R (wrap64 (T[g] - 2)) == 1) = false := by rw [hc, wc2 c hc24]; exact beq_eq_false_iff_ne.2 c1
   rw [hb, hc, wc2 c hc24]
   rw [hc] at hE
   exact ev_pos (by omega) (ev_pos (by omega) hE)
 ·obtain ⟨R', T', D', z, hE, hR⟩ := hrest
  refine ⟨R', T', D', z, ?_, hR⟩
  refine ev_bind h.own ?_
  simp only [rdn T g hg]
  exact ev_pos (by omega) (ev_pos (by omega) (ev_neg c2 hE))
def rs (T : List Int) (n : Nat) : List Int := T.take n ++ List.replicate (n - T.length) 0
theorem rs_length (T : List Int) (n : Nat) : (rs T n).length = n := by unfold rs; simp; omega
theorem resz_ev (T : List Int) (n : Nat) (hT : T.length ≤ 1000) (hn : n ≤ 1000) : Ev (fun k => spec_l09Resize.f k T (n : Int)) (rs T n) := by
 unfold spec_l09Resize.f
 suffices hh : Ev (fun k => spec_l09Resize.l0 k T (n : Int) (rs T 0) ((0 : Nat) : Int)) (rs T n) by rwa [show rs T 0 = [] from by unfold rs; simp] at hh
 refine ev_down (g := fun k i => spec_l09Resize.l0 k T (n : Int) (rs T i) (i : Int)) n ?_ ?_
 ·refine Ev.step (f := fun _ => some (rs T n)) (fun k => ?_) (ev_some _)
  simp only [spec_l09Resize.l0]; rw [if_neg (by omega)]
 ·intro i hi h
  have hl := rs_length T i
  have h0 : 0 ≤ (i : Int) := by omega
  have h1 : (i : Int) < (n : Int) := by omega
  have h2 : (rs T i).length < 17592186044416 := by omega
  have hw := wnext i (by omega)
  refine Ev.succ ?_
  simp only [spec_l09Resize.l0]
  refine ev_pos h1 ?_
  by_cases hiT : i < T.length
  ·have e : rs T (i + 1) = rs T i ++ [T[i]] := by
    unfold rs
    rw [show i - T.length = 0 by omega, show i + 1 - T.length = 0 by omega, List.replicate_zero, List.append_nil, List.append_nil, List.take_succ_eq_append_getElem hiT]
   rw [e] at h
   refine ev_pos (by omega) (ev_pos h0 (ev_pos h2 ?_))
   rw [hw, rdn T i hiT]; exact h
  ·have e : rs T (i + 1) = rs T i ++ [0] := by
    unfold rs
    rw [show i + 1 - T.length = (i - T.length) + 1 by omega, List.replicate_succ', List.take_of_length_le (by omega), List.take_of_length_le (by omega), List.append_assoc]
   rw [e] at h
   refine ev_neg (by omega) (ev_pos h2 ?_)
   rw [hw]; exact h
theorem oc_rs (T : List Int) (n c : Nat) : oc (rs T n) c + oc (T.drop n) c = oc T c := by
 unfold oc rs
 rw [List.count_append, List.count_replicate, if_neg (by simp; omega)]
 have := List.count_append (a := (c : Int) + 2) (l₁ := T.take n) (l₂ := T.drop n)
 rw [List.take_append_drop] at this
 omega
theorem good_rs {T : List Int} (h : Good T) (n : Nat) (hn : n ≤ 12) : Good (rs T n) := by
 refine ⟨by rw [rs_length]; exact hn, fun x hx => ?_, fun c hc => ?_⟩
 ·unfold rs at hx
  rcases List.mem_append.1 hx with hx | hx
  ·exact h.e x (List.mem_of_mem_take hx)
  ·rw [(List.mem_replicate.1 hx).2]; omega
 ·have := oc_rs T n c
  have := h.o c hc
  omega
theorem resize_ok {R T : List Int} {S : List S66} {D : List Int} (h : Rt R T S D) (n : Nat) (hn : n ≤ 12) : ∃ R' D', Ev (fun k => spec_l10Resize.f k R T S D (n : Int)) (R', rs T n, S, D') ∧ Rt R' (rs T n) S D' := by
 have hgl := h.t.l
 have hend : ∀ R' D' (i : Nat), T.length ≤ i → Ev (fun k => spec_l10Resize.l0 k (n : Int) (i : Int) R' T S D') (R', rs T n, S, D') := by
  intro R' D' i hi
  refine Ev.succ ?_
  simp only [spec_l10Resize.l0]
  exact ev_neg (by omega) (ev_bind (resz_ev T n (by omega) (by omega)) (ev_some _))
 by_cases hnT : n ≤ T.length
 ·obtain ⟨R1, D1, h1, k1⟩ := drops_ok T S T h.t.e (fun k i R D => spec_l10Resize.l0 k (n : Int) (i : Int) R T S D) (fun i hi k R D R' D' e => by
   have h1 : (i : Int) < (T.length : Int) := by omega
   have h0 : 0 ≤ (i : Int) := by omega
   simp only [spec_l10Resize.l0]
   rw [if_pos h1, if_pos h0, rdn T i hi, e, Option.bind_some, wnext i (by omega)]) (T.length - n) n (toc T S) R D hnT rfl h.w (fun c _ => by have := oc_rs T n c; unfold toc; omega)
  refine ⟨R1, D1, ?_, h1.congr fun c _ => ?_, good_rs h.t n hn, h.s, h.l, h.u⟩
  ·unfold spec_l10Resize.f
   exact ev_bind h.own (k1 _ (hend R1 D1 T.length (Nat.le_refl _)))
  ·have := oc_rs T n c
   unfold toc
   omega
 ·refine ⟨R, D, ?_, h.w.congr fun c _ => ?_, good_rs h.t n hn, h.s, h.l, h.u⟩
  ·unfold spec_l10Resize.f
   exact ev_bind h.own (hend R D n (by omega))
  ·have h2 := oc_rs T n c
   rw [List.drop_of_length_le (by omega)] at h2
   have h3 : oc [] c = 0 := rfl
   unfold toc
   omega
theorem sum_get (S : List S66) (i : Nat) (hi : i < S.length) (c : Nat) : ((S.take i ++ S.drop (i + 1)).map (fun x => oc x.f1 c)).sum + oc S[i].f1 c = (S.map (fun x => oc x.f1 c)).sum := by
 have e : S = S.take i ++ S[i] :: S.drop (i + 1) := by rw [← List.drop_eq_getElem_cons hi, List.take_append_drop]
 have e2 : (S.map (fun x => oc x.f1 c)).sum = ((S.take i ++ S[i] :: S.drop (i + 1)).map (fun x => oc x.f1 c)).sum := by rw [← e]
 rw [e2]
 simp only [List.map_append, List.map_cons, List.sum_append, List.sum_cons]
 omega
theorem create_ok {R T : List Int} {S : List S66} {D : List Int} (h : Rt R T S D) (s : ByteArray) (hs : nmOK s = true) (h6 : s.size ≤ 6) : ∃ R' T' S' D' z, Ev (fun k => spec_l10Create.f k R T S D s) (R', T', S', D', z) ∧ Rt R' T' S' D' := by
 have hl := h.l; have hgl := h.t.l
 obtain ⟨r, hf, hc⟩ := find_ev R T S D s (by omega)
 have hn := spec_Name_ev s (by omega)
 rw [hs] at hn
 unfold spec_l10Create.f
 rcases hc with ⟨rfl, hno⟩ | ⟨c, rfl, _⟩
 ·by_cases h3 : (S.length : Int) = 3
  ·exact ⟨R, T, S, D, 6, ev_bind h.own (ev_bind hn (ev_pos rfl (ev_bind hf (ev_neg (by decide) (ev_pos h3 (ev_some _)))))), h⟩
  ·obtain ⟨R1, e1, h1⟩ := raise_ok T S h.w T (by omega) h.t.e (fun c hc => by have := h.few c hc; have := h.t.o c hc; omega)
   refine ⟨R1, T, S ++ [⟨s, T⟩], D, 0, ev_bind h.own (ev_bind hn (ev_pos rfl (ev_bind hf (ev_neg (by decide) (ev_neg h3 (ev_bind e1 (ev_bind (ev_some _) ?_))))))), h1.congr fun c _ => ?_, h.t, ?_, by simp; omega, ?_⟩
   ·simp only [List.nil_append, List.length_nil]
    exact ev_pos (by omega) (ev_pos (by omega) (ev_some _))
   ·unfold toc
    simp only [List.map_append, List.map_cons, List.map_nil, List.sum_append, List.sum_cons, List.sum_nil]
    omega
   ·intro x hx
    rcases List.mem_append.1 hx with hx | hx
    ·exact h.s x hx
    ·rw [List.mem_singleton.1 hx]; exact ⟨h.t, hs, h6⟩
   ·rw [List.map_append]
    refine List.pairwise_append.2 ⟨h.u, by simp, fun a ha b hb => ?_⟩
    obtain ⟨x, hx, rfl⟩ := List.mem_map.1 ha
    simp only [List.map_cons, List.map_nil, List.mem_singleton] at hb
    rw [hb]; exact hno x hx
 ·exact ⟨R, T, S, D, 8, ev_bind h.own (ev_bind hn (ev_pos rfl (ev_bind hf (ev_pos (by omega) (ev_some _))))), h⟩
theorem dropv_eq (R T : List Int) (S : List S66) (D : List Int) (e : Int) : spec_l10Drop_v.f R T S D e = spec_l10Drop.f R T S D e := rfl
theorem delete_ok {R T : List Int} {S : List S66} {D : List Int} (h : Rt R T S D) (s : ByteArray) : ∃ R' T' S' D' z, Ev (fun k => spec_l10Delete.f k R T S D s) (R', T', S', D', z) ∧ Rt R' T' S' D' := by
 have hl := h.l; have hgl := h.t.l
 obtain ⟨r, hf, hc⟩ := find_ev R T S D s (by omega)
 unfold spec_l10Delete.f
 rcases hc with ⟨rfl, hno⟩ | ⟨i, rfl, hi⟩
 ·exact ⟨R, T, S, D, 5, ev_bind h.own (ev_bind hf (ev_pos (by decide) (ev_some _))), h⟩
 ·have hg := (h.s _ (List.getElem_mem hi)).1
  have hg12 := hg.l
  have hi0 : 0 ≤ (i : Int) := by omega
  have hi1 : (i : Int) < (S.length : Int) := by omega
  obtain ⟨R1, D1, h1, k1⟩ := drops_ok T S S[i].f1 hg.e (fun k j R D => spec_l10Delete.l0 k (i : Int) (j : Int) R T S D) (fun j hj k R D R' D' e => by
   have h1 : (j : Int) < (S[i].f1.length : Int) := by omega
   have h0 : 0 ≤ (j : Int) := by omega
   simp only [spec_l10Delete.l0, rdE_Snap S i hi]
   rw [if_pos hi0, if_pos hi1, if_pos h1, if_pos h0, dropv_eq, rdn _ j hj, e, Option.bind_some, wnext j (by omega)]) S[i].f1.length 0 (toc T S) R D (Nat.zero_le _) rfl h.w (fun c _ => by rw [List.drop_zero]; have := sum_get S i hi c; unfold toc; omega)
  rw [List.drop_zero] at h1
  refine ⟨R1, T, S.take i ++ S.drop (i + 1), D1, 0, ev_bind h.own (ev_bind hf (ev_neg (by omega) (k1 _ (Ev.succ ?_)))), h1.congr fun c _ => ?_, h.t, ?_, by simp; omega, ?_⟩
  ·simp only [spec_l10Delete.l0, rdE_Snap S i hi, wnext i (by omega), Option.bind_some, List.nil_append, List.length_nil, Int.toNat_natCast]
   have t1 : (S.take i).length ≤ 3 := Nat.le_trans (by rw [List.length_take]; omega) hl
   have t2 : (S.drop (i + 1)).length ≤ 3 := Nat.le_trans (by rw [List.length_drop]; omega) hl
   exact ev_pos hi0 (ev_pos hi1 (ev_neg (by omega) (ev_pos (by omega) (ev_pos (by omega) (ev_pos (by omega) (ev_pos (by omega) (ev_pos (by omega) (ev_some _))))))))
  ·have := sum_get S i hi c
   unfold toc
   omega
  ·intro x hx
   rcases List.mem_append.1 hx with hx | hx
   ·exact h.s x (List.mem_of_mem_take hx)
   ·exact h.s x (List.mem_of_mem_drop hx)
  ·rw [← List.eraseIdx_eq_take_drop_succ]
   exact h.u.sublist ((List.eraseIdx_sublist S i).map _)
theorem revert_ok {R T : List Int} {S : List S66} {D : List Int} (h : Rt R T S D) (s : ByteArray) : ∃ R' T' S' D' z, Ev (fun k => spec_l10Revert.f k R T S D s) (R', T', S', D', z) ∧ Rt R' T' S' D' := by
 have hl := h.l; have hgl := h.t.l
 obtain ⟨r, hf, hc⟩ := find_ev R T S D s (by omega)
 unfold spec_l10Revert.f
 rcases hc with ⟨rfl, hno⟩ | ⟨i, rfl, hi⟩
 ·exact ⟨R, T, S, D, 5, ev_bind h.own (ev_bind hf (ev_pos (by decide) (ev_some _))), h⟩
 ·have hg := (h.s _ (List.getElem_mem hi)).1
  have hg12 := hg.l
  have hi0 : 0 ≤ (i : Int) := by omega
  have hi1 : (i : Int) < (S.length : Int) := by omega
  obtain ⟨R1, e1, h1⟩ := raise_ok T S h.w S[i].f1 hg12 hg.e (fun c hc => by have := h.few c hc; have := hg.o c hc; omega)
  obtain ⟨R2, D2, h2, k2⟩ := drops_ok T S T h.t.e (fun k j R D => spec_l10Revert.l0 k (i : Int) (j : Int) R T S D) (fun j hj k R D R' D' e => by
   have h1 : (j : Int) < (T.length : Int) := by omega
   have h0 : 0 ≤ (j : Int) := by omega
   simp only [spec_l10Revert.l0]
   rw [if_pos h1, if_pos h0, rdn _ j hj, e, Option.bind_some, wnext j (by omega)]) T.length 0 _ R1 D (Nat.zero_le _) rfl h1 (fun c _ => by rw [List.drop_zero]; unfold toc; omega)
  rw [List.drop_zero] at h2
  refine ⟨R2, S[i].f1, S, D2, 0, ev_bind h.own (ev_bind hf (ev_neg (by omega) (ev_pos hi0 (ev_pos hi1 ?_)))), h2.congr fun c _ => ?_, hg, h.s, h.l, h.u⟩
  ·simp only [rdE_Snap S i hi]
   refine ev_bind e1 (k2 _ (Ev.succ ?_))
   simp only [spec_l10Revert.l0, rdE_Snap S i hi, Option.bind_some, List.nil_append, List.length_nil]
   exact ev_neg (by omega) (ev_pos hi0 (ev_pos hi1 (ev_pos (by omega) (ev_some _))))
  ·unfold toc
   omega
theorem num_ok (l : List Int) (h : ∀ x ∈ l, 0 ≤ x ∧ x ≤ 255) (at_ seed : Int) (n : Nat) (hs : srcOK at_ seed n) (hn : n ≤ 10000000000) :
  ∃ r a s, spec_l00Src_number.f l at_ seed = some (r, a, s) ∧ isNum r = true ∧ srcOK a s (n + 9) := by
 unfold spec_l00Src_number.f
 obtain ⟨x, a1, s1, e1, x0, -, x1, o1⟩ := next_ok l h _ _ _ hs (by omega) 9
 rw [e1]; simp only [Option.bind_some]
 obtain ⟨y, a2, s2, e2, y0, -, y1, o2⟩ := next_ok l h _ _ _ o1 (by omega) 70000
 rw [e2]; simp only [Option.bind_some]
 obtain ⟨i, a3, s3, e3, i0, -, i1, o3⟩ := next_ok l h _ _ _ o2 (by omega) 9
 rw [e3]; simp only [Option.bind_some]
 have x1' := x1 (by omega)
 have y1' := y1 (by omega)
 have i1' := i1 (by omega)
 have ei : wrap64 (Int.tdiv i 4) = i / 4 := by rw [Int.tdiv_eq_ediv_of_nonneg i0]; exact w64 (by omega) (by omega)
 rw [ei]
 rw [if_pos (by omega), if_pos (by simp; omega)]
 have hv : 0 ≤ rd ([x, y, 2147483647] : List Int) (i / 4) ∧ rd ([x, y, 2147483647] : List Int) (i / 4) ≤ 2147483647 := by
  have : i / 4 = 0 ∨ i / 4 = 1 ∨ i / 4 = 2 := by omega
  rcases this with e | e | e <;> rw [e]
  ·exact ⟨by show (0 : Int) ≤ x; omega, by show x ≤ (2147483647 : Int); omega⟩
  ·exact ⟨by show (0 : Int) ≤ y; omega, by show y ≤ (2147483647 : Int); omega⟩
  ·exact ⟨by show (0 : Int) ≤ 2147483647; omega, by show (2147483647 : Int) ≤ 2147483647; omega⟩
 exact ⟨_, _, _, rfl, inB_iff.2 hv, o3⟩
def names4 : List ByteArray := [(⟨#[97]⟩ : ByteArray), (⟨#[98]⟩ : ByteArray), (⟨#[99]⟩ : ByteArray), (⟨#[115, 110, 97, 112]⟩ : ByteArray)]
theorem name_ok (l : List Int) (h : ∀ x ∈ l, 0 ≤ x ∧ x ≤ 255) (at_ seed : Int) (n : Nat) (hs : srcOK at_ seed n) (hn : n ≤ 10000000000) :
  ∃ r a s, spec_l00Src_snapName.f l at_ seed = some (r, a, s) ∧ nmOK r = true ∧ r.size ≤ 6 ∧ srcOK a s (n + 3) := by
 unfold spec_l00Src_snapName.f spec_l00Src_pick.f
 obtain ⟨i, a1, s1, e1, i0, -, i1, o1⟩ := next_ok l h _ _ _ hs (by omega) 4
 have i1' := i1 (by omega)
 have hl : (names4.length : Int) = 4 := rfl
 have e1' : spec_l00Src_next.f l at_ seed ((names4.length : Nat) : Int) = some (i, a1, s1) := e1
 show ∃ r a s, (if (names4.length : Int) = 0 then (some ((⟨#[]⟩ : ByteArray), at_, seed)) else ((spec_l00Src_next.f l at_ seed ((names4.length : Nat) : Int)).bind fun bt270 => (if 0 ≤ bt270.1 then (if bt270.1 < (names4.length : Int) then (some (rdOf ByteArray.empty names4 bt270.1, bt270.2.1, bt270.2.2)) else (none)) else (none)))).bind (fun bt277 => (some (bt277.1, bt277.2.1, bt277.2.2))) = some (r, a, s) ∧ nmOK r = true ∧ r.size ≤ 6 ∧ srcOK a s (n + 3)
 rw [if_neg (by omega), e1', Option.bind_some]
 dsimp only
 rw [if_pos (by omega), if_pos (by omega), Option.bind_some]
 refine ⟨_, _, _, rfl, ?_⟩
 have : i = 0 ∨ i = 1 ∨ i = 2 ∨ i = 3 := by omega
 rcases this with rfl | rfl | rfl | rfl <;> (dsimp only; exact ⟨by decide, by decide, o1⟩)
theorem oc_zeros (n c : Nat) : oc (List.replicate n 0) c = 0 := by
 unfold oc
 rw [List.count_replicate, if_neg (by simp; omega)]
theorem rd_zeros (n c : Nat) : rd (List.replicate n 0) (c : Int) = 0 := by
 unfold rd
 simp only [Int.toNat_natCast, List.getD_eq_getElem?_getD, List.getElem?_replicate]
 by_cases h : c < n
 ·rw [if_pos h]; rfl
 ·rw [if_neg h]; rfl
theorem new_ok (a : Int) (h0 : 0 ≤ a) (h1 : a ≤ 12) : ∃ R T S D, spec_l10New.f a = some (R, T, S, D) ∧ Rt R T S D := by
 obtain ⟨n, rfl⟩ : ∃ n : Nat, a = (n : Int) := ⟨a.toNat, by omega⟩
 refine ⟨List.replicate 24 0, List.replicate n 0, [], List.replicate 24 0, ?_, ⟨by simp, by simp, fun c _ => ?_, fun c _ _ => rd_zeros 24 c, fun x hx => ?_, fun c _ => ?_⟩, ⟨by simp; omega, fun x hx => ?_, fun c _ => ?_⟩, by simp, by simp, by simp⟩
 ·unfold spec_l10New.f
  rw [if_pos (by omega), if_pos (by omega), if_pos (by omega), Int.toNat_natCast]
 ·rw [rd_zeros]; unfold toc; rw [oc_zeros]; rfl
 ·rw [(List.mem_replicate.1 hx).2]; decide
 ·unfold toc; rw [oc_zeros]; simp
 ·rw [(List.mem_replicate.1 hx).2]; omega
 ·rw [oc_zeros]; omega
/-- One round: what comes out is right, and the source has gone on a little. -/
theorem round_ok (l : List Int) (h : ∀ x ∈ l, 0 ≤ x ∧ x ≤ 255) (d : Nat) (hd : d ≤ 1000000) (g : Int) (g0 : 0 ≤ g) (at_ seed : Int) (n : Nat) (hs : srcOK at_ seed n) (hn : n ≤ 1000000000) {R T : List Int} {S : List S66} {D : List Int} (hR : Rt R T S D) (hg : 0 < T.length → g < (T.length : Int))
  (next : ∀ R T S D a s, Rt R T S D → srcOK a s (n + 20) → ∃ r, Ev (fun k => spec_l00Src_image.l0 k (d : Int) l a s R T S D) r ∧ Rt r.1 r.2.1 r.2.2.1 r.2.2.2.1) :
  ∃ r, Ev (fun k => spec_l00Src_image.j2 k ((d + 1 : Nat) : Int) g l at_ seed R T S D) r ∧ Rt r.1 r.2.1 r.2.2.1 r.2.2.2.1 := by
 obtain ⟨j, rfl⟩ : ∃ j : Nat, g = (j : Int) := ⟨g.toNat, by omega⟩
 have hd1 : wrap64 (((d + 1 : Nat) : Int) - 1) = (d : Int) := by rw [w64 (by omega) (by omega)]; omega
 obtain ⟨c, a1, s1, e1, c0, -, c1, o1⟩ := next_ok l h _ _ _ hs (by omega) 9
 have b1 := ev_of_eq (g := fun _ : Nat => spec_l00Src_next.f l at_ seed 9) (fun _ => e1)
 by_cases c00 : c = 0
 ·obtain ⟨s, a2, s2, e2, hs1, hs2, o2⟩ := name_ok l h _ _ _ o1 (by omega)
  obtain ⟨R', T', S', D', z, hE, hR'⟩ := create_ok hR s hs1 hs2
  obtain ⟨r, hr, hRr⟩ := next R' T' S' D' a2 s2 hR' (srcOK_mono o2 (by omega))
  refine ⟨r, Ev.succ ?_, hRr⟩
  simp only [spec_l00Src_image.j2, hd1]
  exact ev_bind b1 (ev_pos c00 (ev_bind (ev_of_eq fun _ => e2) (ev_bind hE hr)))
 by_cases c01 : c = 1
 ·obtain ⟨s, a2, s2, e2, hs1, hs2, o2⟩ := name_ok l h _ _ _ o1 (by omega)
  obtain ⟨R', T', S', D', z, hE, hR'⟩ := delete_ok hR s
  obtain ⟨r, hr, hRr⟩ := next R' T' S' D' a2 s2 hR' (srcOK_mono o2 (by omega))
  refine ⟨r, Ev.succ ?_, hRr⟩
  simp only [spec_l00Src_image.j2, hd1]
  exact ev_bind b1 (ev_neg c00 (ev_pos c01 (ev_bind (ev_of_eq fun _ => e2) (ev_bind hE hr))))
 by_cases c02 : c = 2
 ·obtain ⟨s, a2, s2, e2, hs1, hs2, o2⟩ := name_ok l h _ _ _ o1 (by omega)
  obtain ⟨R', T', S', D', z, hE, hR'⟩ := revert_ok hR s
  obtain ⟨r, hr, hRr⟩ := next R' T' S' D' a2 s2 hR' (srcOK_mono o2 (by omega))
  refine ⟨r, Ev.succ ?_, hRr⟩
  simp only [spec_l00Src_image.j2, hd1]
  exact ev_bind b1 (ev_neg c00 (ev_neg c01 (ev_pos c02 (ev_bind (ev_of_eq fun _ => e2) (ev_bind hE hr)))))
 by_cases c03 : c = 3
 ·obtain ⟨m, a2, s2, e2, m0, -, m1, o2⟩ := next_ok l h _ _ _ o1 (by omega) 13
  have m1' := m1 (by omega)
  obtain ⟨m, rfl⟩ : ∃ q : Nat, m = (q : Int) := ⟨m.toNat, by omega⟩
  obtain ⟨R', D', hE, hR'⟩ := resize_ok hR m (by omega)
  obtain ⟨r, hr, hRr⟩ := next R' _ S D' a2 s2 hR' (srcOK_mono o2 (by omega))
  refine ⟨r, Ev.succ ?_, hRr⟩
  simp only [spec_l00Src_image.j2, hd1]
  exact ev_bind b1 (ev_neg c00 (ev_neg c01 (ev_neg c02 (ev_pos c03 (ev_bind (ev_of_eq fun _ => e2) (ev_bind hE hr))))))
 by_cases hT : 0 < T.length
 ·have hgT := hg hT
  have hj : j < T.length := by omega
  have hT' : (T.length : Int) > 0 := by omega
  by_cases c04 : c = 4
  ·obtain ⟨R', D', hE, hR'⟩ := zero_ok hR j hj
   obtain ⟨r, hr, hRr⟩ := next R' _ S D' a1 s1 hR' (srcOK_mono o1 (by omega))
   refine ⟨r, Ev.succ ?_, hRr⟩
   simp only [spec_l00Src_image.j2, hd1]
   exact ev_bind b1 (ev_neg c00 (ev_neg c01 (ev_neg c02 (ev_neg c03 (ev_pos c04 (ev_pos hT' (ev_bind hE hr)))))))
  ·obtain ⟨v, a2, s2, e2, hv, o2⟩ := num_ok l h _ _ _ o1 (by omega)
   obtain ⟨R', T', D', z, hE, hR'⟩ := write_ok hR j hj v hv
   obtain ⟨r, hr, hRr⟩ := next R' T' S D' a2 s2 hR' (srcOK_mono o2 (by omega))
   refine ⟨r, Ev.succ ?_, hRr⟩
   simp only [spec_l00Src_image.j2, hd1]
   exact ev_bind b1 (ev_neg c00 (ev_neg c01 (ev_neg c02 (ev_neg c03 (ev_neg c04 (ev_pos hT' (ev_bind (ev_of_eq fun _ => e2) (ev_bind hE hr))))))))
 ·have hT' : ¬ (T.length : Int) > 0 := by omega
  obtain ⟨r, hr, hRr⟩ := next R T S D a1 s1 hR (srcOK_mono o1 (by omega))
  refine ⟨r, Ev.succ ?_, hRr⟩
  simp only [spec_l00Src_image.j2, hd1]
  by_cases c04 : c = 4
  ·exact ev_bind b1 (ev_neg c00 (ev_neg c01 (ev_neg c02 (ev_neg c03 (ev_pos c04 (ev_neg hT' hr))))))
  ·exact ev_bind b1 (ev_neg c00 (ev_neg c01 (ev_neg c02 (ev_neg c03 (ev_neg c04 (ev_neg hT' hr))))))
theorem rounds_ok (l : List Int) (h : ∀ x ∈ l, 0 ≤ x ∧ x ≤ 255) : ∀ (d : Nat) (n : Nat) (at_ seed : Int) (R T : List Int) (S : List S66) (D : List Int), d ≤ 1000 → n + 30 * d ≤ 1000000 → srcOK at_ seed n → Rt R T S D →
    ∃ r, Ev (fun k => spec_l00Src_image.l0 k (d : Int) l at_ seed R T S D) r ∧ Rt r.1 r.2.1 r.2.2.1 r.2.2.2.1 := by
  intro d
  induction d with
  | zero =>
    intro n at_ seed R T S D _ _ hs hR
    refine ⟨(R, T, S, D, at_, seed), Ev.succ ?_, hR⟩
    simp only [spec_l00Src_image.l0]
    exact ev_neg (by decide) (ev_bind hR.own (ev_some _))
  | succ d ih =>
    intro n at_ seed R T S D hd hn hs hR
    have hgl := hR.t.l
    by_cases hT : 0 < T.length
    · obtain ⟨g, a1, s1, e1, g0, -, g1, o1⟩ := next_ok l h _ _ _ hs (by omega) (T.length : Int)
      have g1' := g1 (by omega)
      obtain ⟨r, hr, hRr⟩ := round_ok l h d (by omega) g g0 a1 s1 (n + 3) o1 (by omega) hR (fun _ => g1') (fun R T S D a s hR hs => ih (n + 3 + 20) a s R T S D (by omega) (by omega) hs hR)
      refine ⟨r, Ev.succ ?_, hRr⟩
      simp only [spec_l00Src_image.l0]
      exact ev_pos (by omega) (ev_pos (by omega) (ev_bind (ev_of_eq fun _ => e1) hr))
    · obtain ⟨r, hr, hRr⟩ := round_ok l h d (by omega) 0 (by omega) at_ seed n hs (by omega) hR (fun h => absurd h hT) (fun R T S D a s hR hs => ih (n + 20) a s R T S D (by omega) (by omega) hs hR)
      refine ⟨r, Ev.succ ?_, hRr⟩
      simp only [spec_l00Src_image.l0]
      exact ev_pos (by omega) (ev_neg (by omega) hr)
theorem begun_ok (l : List Int) (h : ∀ x ∈ l, 0 ≤ x ∧ x ≤ 255) (hl : l.length ≤ 100000000) (n : Nat) (hn : n ≤ 1000) (at_ seed : Int) (hs : srcOK at_ seed n) {R T : List Int} {S : List S66} {D : List Int} (hR : Rt R T S D) :
  ∃ r, Ev (fun k => spec_l00Src_image.j0 k l at_ seed R T S D) r ∧ Rt r.1 r.2.1 r.2.2.1 r.2.2.2.1 := by
 have e0 : wrap64 ((l.length : Int) / 12) = (l.length : Int) / 12 := w64 (by omega) (by omega)
 have e1 : wrap64 (1 + (l.length : Int) / 12) = 1 + (l.length : Int) / 12 := w64 (by omega) (by omega)
 obtain ⟨z, hz, hz0, hz1⟩ : ∃ z, mn (1 + (l.length : Int) / 12) 20 = z ∧ 1 ≤ z ∧ z ≤ 20 := ⟨_, rfl, by unfold mn; omega, by unfold mn; omega⟩
 have e2 : wrap64 (z + 12) = z + 12 := w64 (by omega) (by omega)
 obtain ⟨d, a1, s1, e3, d0, -, d1, o1⟩ := next_ok l h _ _ _ hs (by omega) (z + 12)
 have d1' := d1 (by omega)
 obtain ⟨d, rfl⟩ : ∃ q : Nat, d = (q : Int) := ⟨d.toNat, by omega⟩
 obtain ⟨r, hr, hRr⟩ := rounds_ok l h d (n + 3) a1 s1 R T S D (by omega) (by omega) o1 hR
 refine ⟨r, Ev.succ ?_, hRr⟩
 simp only [spec_l00Src_image.j0, spec_l00Src_size.f, e0, e1, hz]
 refine ev_bind (ev_some _) ?_
 show Ev (fun k => (spec_l00Src_next.f l at_ seed (wrap64 (z + 12))).bind _) r
 rw [e2]
 exact ev_bind (ev_of_eq fun _ => e3) hr
theorem image_ok (l : List Int) (h : ∀ x ∈ l, 0 ≤ x ∧ x ≤ 255) (hl : l.length ≤ 100000000) : ∃ R T S D, Ev (fun k => spec_ImageOf.f k l) (R, T, S, D) ∧ Rt R T S D := by
 have hs := source_ok l
 obtain ⟨m, a1, s1, e1, m0, -, m1, o1⟩ := next_ok l h _ _ _ hs (by omega) 13
 have m1' := m1 (by omega)
 obtain ⟨R, T, S, D, e2, hR⟩ := new_ok m m0 (by omega)
 obtain ⟨c, a2, s2, e3, c0, -, c1, o2⟩ := next_ok l h _ _ _ o1 (by omega) 2
 have key : ∃ r, Ev (fun k => spec_l00Src_image.f k l 0 ((l.length : Int) % 1000)) r ∧ Rt r.1 r.2.1 r.2.2.1 r.2.2.2.1 := by
  unfold spec_l00Src_image.f spec_l00Src_chance.f
  by_cases hc : (c == wrap64 (2 - 1)) = true
  ·obtain ⟨q, a3, s3, e4, q0, -, q1, o3⟩ := next_ok l h _ _ _ o2 (by omega) 7
   have q1' := q1 (by omega)
   have hw : wrap64 (6 + q) = 6 + q := w64 (by omega) (by omega)
   obtain ⟨R', T', S', D', e5, hR'⟩ := new_ok (6 + q) (by omega) (by omega)
   obtain ⟨r, hr, hRr⟩ := begun_ok l h hl _ (by omega) a3 s3 o3 hR'
   refine ⟨r, ev_bind (ev_of_eq fun _ => e1) (ev_bind (ev_of_eq fun _ => e2) (ev_bind (a := (c == wrap64 (2 - 1), a2, s2)) (ev_of_eq fun _ => by rw [e3]; rfl) (ev_pos hc (ev_bind (ev_of_eq fun _ => e4) (ev_bind (a := (R', T', S', D')) (ev_of_eq fun _ => by rw [hw]; exact e5) hr))))), hRr⟩
  ·obtain ⟨r, hr, hRr⟩ := begun_ok l h hl _ (by omega) a2 s2 o2 hR
   exact ⟨r, ev_bind (ev_of_eq fun _ => e1) (ev_bind (ev_of_eq fun _ => e2) (ev_bind (a := (c == wrap64 (2 - 1), a2, s2)) (ev_of_eq fun _ => by rw [e3]; rfl) (ev_neg hc hr))), hRr⟩
 obtain ⟨r, hr, hRr⟩ := key
 exact ⟨r.1, r.2.1, r.2.2.1, r.2.2.2.1, ev_bind (ev_some _) (ev_bind hr (ev_some _)), hRr⟩
def sel (P : Nat → Bool) (n : Nat) : List Int := ((List.range n).filter P).map (fun i : Nat => (i : Int))
theorem sel_succ (P : Nat → Bool) (n : Nat) : sel P (n + 1) = if P n = true then sel P n ++ [(n : Int)] else sel P n := by
 unfold sel
 rw [List.range_succ, List.filter_append, List.map_append]
 cases h : P n <;> simp [h]
theorem sel_length (P : Nat → Bool) (n : Nat) : (sel P n).length ≤ n := by
 unfold sel; rw [List.length_map]
 exact Nat.le_trans (List.length_filter_le _ _) (by simp)
theorem at_ok (l : List Int) (h : ∀ x ∈ l, 0 ≤ x ∧ x ≤ 255) (i : Int) (hi0 : 0 ≤ i) (hi : i ≤ 1000000) (n : Int) : ∃ r, laws_at.f l i n = some r ∧ 0 ≤ r ∧ (n ≤ 1 → r = 0) ∧ (1 ≤ n → r < n) := by
 unfold laws_at.f
 by_cases c1 : n ≤ 1
 ·rw [if_pos c1]; exact ⟨0, rfl, by omega, fun _ => rfl, fun _ => by omega⟩
 ·rw [if_neg c1]
  by_cases c2 : (l.length : Int) = 0
  ·rw [if_pos c2, if_neg (by omega)]
   have x1 : wrap64 (i * 7) = i * 7 := w64 (by omega) (by omega)
   rw [x1]
   have := tmod_range (show 0 ≤ i * 7 by omega) (show 0 < n by omega)
   exact ⟨_, rfl, this.1, fun h => absurd h c1, fun _ => this.2⟩
  ·rw [if_neg c2]
   have x1 : wrap64 (i + 1) = i + 1 := w64 (by omega) (by omega)
   rw [x1]
   have m1 := tmod_range hi0 (show 0 < (l.length : Int) by omega); have m2 := tmod_range (show 0 ≤ i + 1 by omega) (show 0 < (l.length : Int) by omega)
   rw [if_pos m1.1, if_pos m1.2, if_pos m2.1, if_pos m2.2, if_neg (by omega)]
   have b1 := rd_byte l h (Int.tmod i (l.length : Int)); have b2 := rd_byte l h (Int.tmod (i + 1) (l.length : Int))
   generalize rd l (Int.tmod i (l.length : Int)) = u at b1 ⊢
   generalize rd l (Int.tmod (i + 1) (l.length : Int)) = v at b2 ⊢
   have d0 : 0 ≤ Int.tdiv i (l.length : Int) := by rw [Int.tdiv_eq_ediv_of_nonneg hi0]; exact Int.ediv_nonneg hi0 (by omega)
   have d1 : Int.tdiv i (l.length : Int) ≤ i := by rw [Int.tdiv_eq_ediv_of_nonneg hi0]; exact Int.ediv_le_self _ hi0
   generalize Int.tdiv i (l.length : Int) = q at d0 d1 ⊢
   have y1 : wrap64 u = u := w64 (by omega) (by omega)
   have y2 : wrap64 v = v := w64 (by omega) (by omega)
   have y3 : wrap64 q = q := w64 (by omega) (by omega)
   have y4 : wrap64 (u * 31) = u * 31 := w64 (by omega) (by omega)
   rw [y1, y2, y3, y4]
   have y5 : wrap64 (u * 31 + v) = u * 31 + v := w64 (by omega) (by omega)
   rw [y5]
   have y6 : wrap64 (u * 31 + v + q) = u * 31 + v + q := w64 (by omega) (by omega)
   rw [y6]
   have := tmod_range (show 0 ≤ u * 31 + v + q by omega) (show 0 < n by omega)
   exact ⟨_, rfl, this.1, fun h => absurd h c1, fun _ => this.2⟩
end Go.Proofs.YtnibgibjfpbagaaGreat.Q
