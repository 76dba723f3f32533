/- What laws.FnShots reaches, part 10: the functions as Lean functions, the proofs that the program's functions answer so, and plain laws about them. -/
import Derived.Test.YtniceoohmhjjlaaGreatDoorKFnShots1
import Derived.Test.YtniceoohmhjjlaaGreatDoorKFnShots2
import Derived.Test.YtniceoohmhjjlaaGreatDoorKFnShots3
import Derived.Test.YtniceoohmhjjlaaGreatDoorKFnShots4
import Derived.Test.YtniceoohmhjjlaaGreatDoorKFnShots5
import Derived.Test.YtniceoohmhjjlaaGreatDoorKFnShots6
import Derived.Test.YtniceoohmhjjlaaGreatDoorKFnShots7
import Derived.Test.YtniceoohmhjjlaaGreatDoorKFnShots8
import Derived.Test.YtniceoohmhjjlaaGreatDoorKFnShots9
namespace Go.Proofs.YtniceoohmhjjlaaGreatDoor.Q
open Go.RowKit Go.Proofs.YtniceoohmhjjlaaGreatDoor.Ext Go.Proofs.YtniceoohmhjjlaaGreatDoorW.PrintWords Go.Proofs.YtniceoohmhjjlaaGreatDoorW.PrintLast Go.Proofs.YtniceoohmhjjlaaGreatDoorW.PrintMore
attribute [local go_sem] max2_int min2_int max_two min_two max_three min_three max_four min_four   -- for this text's walks alone
open Go.Proofs.YtniceoohmhjjlaaGreatDoorW.PrintWords.Ev renaming step → kX
open _root_.Bool renaming and_eq_true → jT, false_and → mB, true_and → jJ
open _root_.ByteArray renaming data_append → nC
open _root_.Int renaming tdiv → kM, tdiv_eq_ediv_of_nonneg → lH, tmod → iO, tmod_eq_emod_of_nonneg → jU, toNat_natCast → iX
open _root_.List renaming all_eq_true → jZ, drop_eq_getElem_cons → hP, drop_of_length_le → iV, drop_zero → lO, getElem_map → lW, getElem_mem → iI, getElem_range → mZ, length_append → mD, length_map → iA, length_nil → mJ, length_range → kI, length_singleton → nD, length_take → mS, map_cons → jY, map_nil → oN, mem_append → nY, mem_cons → nX, mem_map → lG, mem_range → lP, mem_singleton → mC, nil_append → nA, nodup_iff_pairwise_ne → kO, pairwise_iff_getElem → jM, range → iT, replicate → iJ, take_of_length_le → iL, take_succ_eq_append_getElem → hV
open _root_.Nat renaming le_refl → fQ, le_trans → hU
open _root_.Option renaming bind_some → gH
set_option linter.unusedVariables false
set_option linter.unusedSimpArgs false

set_option linter.unusedVariables false
set_option linter.unusedSimpArgs false
def rs (T : List Int) (n : Nat) : List Int := T.take n ++ iJ (n - T.length) 0
theorem rs_length (T : List Int) (n : Nat) : (rs T n).length = n := by unfold rs; simp; omega
theorem resz_ev (T : List Int) (n : Nat) (hT : T.length ≤ 1000) (hn : n ≤ 1000) : Ev (fun k => bI.f k T (n : Int)) (rs T n) := by
 unfold bI.f
 suffices hh : Ev (fun k => bI.l0 k T (n : Int) (rs T 0) ((0 : Nat) : Int)) (rs T n) by rwa [show rs T 0 = [] from by unfold rs; simp] at hh
 refine ev_down (g := fun k i => bI.l0 k T (n : Int) (rs T i) (i : Int)) n ?_ ?_
 ·refine kX (f := fun _ => some (rs T n)) (fun k => ?_) (ev_some _)
  simp only [bI.l0]; rw [if_neg (by omega)]
 ·intro i hi h
  have hl := rs_length T i
  have h0 : 0 ≤ (i : Int) := by omega
  have h1 : (i : Int) < (n : Int) := by omega
  have h2 : (rs T i).length < 17592186044416 := by omega
  have hw := wnext i (by omega)
  refine Ev.succ ?_
  simp only [bI.l0]
  refine ev_pos h1 ?_
  by_cases hiT : i < T.length
  ·have e : rs T (i + 1) = rs T i ++ [T[i]] := by
    unfold rs
    rw [show i - T.length = 0 by omega, show i + 1 - T.length = 0 by omega, List.replicate_zero, List.append_nil, List.append_nil, hV hiT]
   rw [e] at h
   refine ev_pos (by omega) (ev_pos h0 (ev_pos h2 ?_))
   rw [hw, rdn T i hiT]; exact h
  ·have e : rs T (i + 1) = rs T i ++ [0] := by
    unfold rs
    rw [show i + 1 - T.length = (i - T.length) + 1 by omega, List.replicate_succ', iL (by omega), iL (by omega), List.append_assoc]
   rw [e] at h
   refine ev_neg (by omega) (ev_pos h2 ?_)
   rw [hw]; exact h
theorem oc_rs (T : List Int) (n c : Nat) : oc (rs T n) c + oc (T.drop n) c = oc T c := by
 unfold oc rs
 rw [List.count_append, List.count_replicate, if_neg (by simp; omega)]
 have := List.count_append (a := (c : Int) + 2) (l₁ := T.take n) (l₂ := T.drop n)
 rw [List.take_append_drop] at this
 omega
theorem good_rs {T : List Int} (h : Good T) (n : Nat) (hn : n ≤ 12) : Good (rs T n) := by
 refine ⟨by rw [rs_length]; exact hn, fun x hx => ?_, fun c hc => ?_⟩
 ·unfold rs at hx
  rcases nY.1 hx with hx | hx
  ·exact h.e x (List.mem_of_mem_take hx)
  ·rw [(List.mem_replicate.1 hx).2]; omega
 ·have := oc_rs T n c
  have := h.o c hc
  omega
theorem resize_ok {R T : List Int} {S : List S60} {D : List Int} (h : Rt R T S D) (n : Nat) (hn : n ≤ 12) : ∃ R' D', Ev (fun k => aU.f k R T S D (n : Int)) (R', rs T n, S, D') ∧ Rt R' (rs T n) S D' := by
 have hgl := h.t.l
 have hend : ∀ R' D' (i : Nat), T.length ≤ i → Ev (fun k => aU.l0 k (n : Int) (i : Int) R' T S D') (R', rs T n, S, D') := by
  intro R' D' i hi
  refine Ev.succ ?_
  simp only [aU.l0]
  exact ev_neg (by omega) (ev_bind (resz_ev T n (by omega) (by omega)) (ev_some _))
 by_cases hnT : n ≤ T.length
 ·obtain ⟨R1, D1, h1, k1⟩ := drops_ok T S T h.t.e (fun k i R D => aU.l0 k (n : Int) (i : Int) R T S D) (fun i hi k R D R' D' e => by
   have h1 : (i : Int) < (T.length : Int) := by omega
   have h0 : 0 ≤ (i : Int) := by omega
   simp only [aU.l0]
   rw [if_pos h1, if_pos h0, rdn T i hi, e, gH, wnext i (by omega)]) (T.length - n) n (toc T S) R D hnT rfl h.w (fun c _ => by have := oc_rs T n c; unfold toc; omega)
  refine ⟨R1, D1, ?_, h1.congr fun c _ => ?_, good_rs h.t n hn, h.s, h.l, h.u⟩
  ·unfold aU.f
   exact ev_bind h.own (k1 _ (hend R1 D1 T.length (fQ _)))
  ·have := oc_rs T n c
   unfold toc
   omega
 ·refine ⟨R, D, ?_, h.w.congr fun c _ => ?_, good_rs h.t n hn, h.s, h.l, h.u⟩
  ·unfold aU.f
   exact ev_bind h.own (hend R D n (by omega))
  ·have h2 := oc_rs T n c
   rw [iV (by omega)] at h2
   have h3 : oc [] c = 0 := rfl
   unfold toc
   omega
theorem sum_get (S : List S60) (i : Nat) (hi : i < S.length) (c : Nat) : ((S.take i ++ S.drop (i + 1)).map (fun x => oc x.f1 c)).sum + oc S[i].f1 c = (S.map (fun x => oc x.f1 c)).sum := by
 have e : S = S.take i ++ S[i] :: S.drop (i + 1) := by rw [← hP hi, List.take_append_drop]
 have e2 : (S.map (fun x => oc x.f1 c)).sum = ((S.take i ++ S[i] :: S.drop (i + 1)).map (fun x => oc x.f1 c)).sum := by rw [← e]
 rw [e2]
 simp only [List.map_append, jY, List.sum_append, List.sum_cons]
 omega
theorem create_ok {R T : List Int} {S : List S60} {D : List Int} (h : Rt R T S D) (s : ByteArray) (hs : nmOK s = true) (h6 : s.size ≤ 6) : ∃ R' T' S' D' z, Ev (fun k => bR.f k R T S D s) (R', T', S', D', z) ∧ Rt R' T' S' D' := by
 have hl := h.l; have hgl := h.t.l
 obtain ⟨r, hf, hc⟩ := find_ev R T S D s (by omega)
 have hn := dR s (by omega)
 rw [hs] at hn
 unfold bR.f
 rcases hc with ⟨rfl, hno⟩ | ⟨c, rfl, _⟩
 ·by_cases h3 : (S.length : Int) = 3
  ·exact ⟨R, T, S, D, 6, ev_bind h.own (ev_bind hn (ev_pos rfl (ev_bind hf (ev_neg (by decide) (ev_pos h3 (ev_some _)))))), h⟩
  ·obtain ⟨R1, e1, h1⟩ := raise_ok T S h.w T (by omega) h.t.e (fun c hc => by have := h.few c hc; have := h.t.o c hc; omega)
   refine ⟨R1, T, S ++ [⟨s, T⟩], D, 0, ev_bind h.own (ev_bind hn (ev_pos rfl (ev_bind hf (ev_neg (by decide) (ev_neg h3 (ev_bind e1 (ev_bind (ev_some _) ?_))))))), h1.congr fun c _ => ?_, h.t, ?_, by simp; omega, ?_⟩
   ·simp only [nA, mJ]
    exact ev_pos (by omega) (ev_pos (by omega) (ev_some _))
   ·unfold toc
    simp only [List.map_append, jY, oN, List.sum_append, List.sum_cons, List.sum_nil]
    omega
   ·intro x hx
    rcases nY.1 hx with hx | hx
    ·exact h.s x hx
    ·rw [mC.1 hx]; exact ⟨h.t, hs, h6⟩
   ·rw [List.map_append]
    refine List.pairwise_append.2 ⟨h.u, by simp, fun a ha b hb => ?_⟩
    obtain ⟨x, hx, rfl⟩ := lG.1 ha
    simp only [jY, oN, mC] at hb
    rw [hb]; exact hno x hx
 ·exact ⟨R, T, S, D, 8, ev_bind h.own (ev_bind hn (ev_pos rfl (ev_bind hf (ev_pos (by omega) (ev_some _))))), h⟩
theorem dropv_eq (R T : List Int) (S : List S60) (D : List Int) (e : Int) : dA.f R T S D e = cC.f R T S D e := rfl
theorem delete_ok {R T : List Int} {S : List S60} {D : List Int} (h : Rt R T S D) (s : ByteArray) : ∃ R' T' S' D' z, Ev (fun k => aK.f k R T S D s) (R', T', S', D', z) ∧ Rt R' T' S' D' := by
 have hl := h.l; have hgl := h.t.l
 obtain ⟨r, hf, hc⟩ := find_ev R T S D s (by omega)
 unfold aK.f
 rcases hc with ⟨rfl, hno⟩ | ⟨i, rfl, hi⟩
 ·exact ⟨R, T, S, D, 5, ev_bind h.own (ev_bind hf (ev_pos (by decide) (ev_some _))), h⟩
 ·have hg := (h.s _ (iI hi)).1
  have hg12 := hg.l
  have hi0 : 0 ≤ (i : Int) := by omega
  have hi1 : (i : Int) < (S.length : Int) := by omega
  obtain ⟨R1, D1, h1, k1⟩ := drops_ok T S S[i].f1 hg.e (fun k j R D => aK.l0 k (i : Int) (j : Int) R T S D) (fun j hj k R D R' D' e => by
   have h1 : (j : Int) < (S[i].f1.length : Int) := by omega
   have h0 : 0 ≤ (j : Int) := by omega
   simp only [aK.l0, rdE_Snap S i hi]
   rw [if_pos hi0, if_pos hi1, if_pos h1, if_pos h0, dropv_eq, rdn _ j hj, e, gH, wnext j (by omega)]) S[i].f1.length 0 (toc T S) R D (Nat.zero_le _) rfl h.w (fun c _ => by rw [lO]; have := sum_get S i hi c; unfold toc; omega)
  rw [lO] at h1
  refine ⟨R1, T, S.take i ++ S.drop (i + 1), D1, 0, ev_bind h.own (ev_bind hf (ev_neg (by omega) (k1 _ (Ev.succ ?_)))), h1.congr fun c _ => ?_, h.t, ?_, by simp; omega, ?_⟩
  ·simp only [aK.l0, rdE_Snap S i hi, wnext i (by omega), gH, nA, mJ, iX]
   have t1 : (S.take i).length ≤ 3 := hU (by rw [mS]; omega) hl
   have t2 : (S.drop (i + 1)).length ≤ 3 := hU (by rw [List.length_drop]; omega) hl
   exact ev_pos hi0 (ev_pos hi1 (ev_neg (by omega) (ev_pos (by omega) (ev_pos (by omega) (ev_pos (by omega) (ev_pos (by omega) (ev_pos (by omega) (ev_some _))))))))
  ·have := sum_get S i hi c
   unfold toc
   omega
  ·intro x hx
   rcases nY.1 hx with hx | hx
   ·exact h.s x (List.mem_of_mem_take hx)
   ·exact h.s x (List.mem_of_mem_drop hx)
  ·rw [← List.eraseIdx_eq_take_drop_succ]
   exact h.u.sublist ((List.eraseIdx_sublist S i).map _)
theorem revert_ok {R T : List Int} {S : List S60} {D : List Int} (h : Rt R T S D) (s : ByteArray) : ∃ R' T' S' D' z, Ev (fun k => aM.f k R T S D s) (R', T', S', D', z) ∧ Rt R' T' S' D' := by
 have hl := h.l; have hgl := h.t.l
 obtain ⟨r, hf, hc⟩ := find_ev R T S D s (by omega)
 unfold aM.f
 rcases hc with ⟨rfl, hno⟩ | ⟨i, rfl, hi⟩
 ·exact ⟨R, T, S, D, 5, ev_bind h.own (ev_bind hf (ev_pos (by decide) (ev_some _))), h⟩
 ·have hg := (h.s _ (iI hi)).1
  have hg12 := hg.l
  have hi0 : 0 ≤ (i : Int) := by omega
  have hi1 : (i : Int) < (S.length : Int) := by omega
  obtain ⟨R1, e1, h1⟩ := raise_ok T S h.w S[i].f1 hg12 hg.e (fun c hc => by have := h.few c hc; have := hg.o c hc; omega)
  obtain ⟨R2, D2, h2, k2⟩ := drops_ok T S T h.t.e (fun k j R D => aM.l0 k (i : Int) (j : Int) R T S D) (fun j hj k R D R' D' e => by
   have h1 : (j : Int) < (T.length : Int) := by omega
   have h0 : 0 ≤ (j : Int) := by omega
   simp only [aM.l0]
   rw [if_pos h1, if_pos h0, rdn _ j hj, e, gH, wnext j (by omega)]) T.length 0 _ R1 D (Nat.zero_le _) rfl h1 (fun c _ => by rw [lO]; unfold toc; omega)
  rw [lO] at h2
  refine ⟨R2, S[i].f1, S, D2, 0, ev_bind h.own (ev_bind hf (ev_neg (by omega) (ev_pos hi0 (ev_pos hi1 ?_)))), h2.congr fun c _ => ?_, hg, h.s, h.l, h.u⟩
  ·simp only [rdE_Snap S i hi]
   refine ev_bind e1 (k2 _ (Ev.succ ?_))
   simp only [aM.l0, rdE_Snap S i hi, gH, nA, mJ]
   exact ev_neg (by omega) (ev_pos hi0 (ev_pos hi1 (ev_pos (by omega) (ev_some _))))
  ·unfold toc
   omega
theorem num_ok (l : List Int) (h : ∀ x ∈ l, 0 ≤ x ∧ x ≤ 255) (at_ seed : Int) (n : Nat) (hs : srcOK at_ seed n) (hn : n ≤ 10000000000) :
  ∃ r a s, cK.f l at_ seed = some (r, a, s) ∧ isNum r = true ∧ srcOK a s (n + 9) := by
 unfold cK.f
 obtain ⟨x, a1, s1, e1, x0, -, x1, o1⟩ := next_ok l h _ _ _ hs (by omega) 9
 rw [e1]; simp only [gH]
 obtain ⟨y, a2, s2, e2, y0, -, y1, o2⟩ := next_ok l h _ _ _ o1 (by omega) 70000
 rw [e2]; simp only [gH]
 obtain ⟨i, a3, s3, e3, i0, -, i1, o3⟩ := next_ok l h _ _ _ o2 (by omega) 9
 rw [e3]; simp only [gH]
 have x1' := x1 (by omega)
 have y1' := y1 (by omega)
 have i1' := i1 (by omega)
 have ei : wrap64 (kM i 4) = i / 4 := by rw [lH i0]; exact w64 (by omega) (by omega)
 rw [ei]
 rw [if_pos (by omega), if_pos (by simp; omega)]
 have hv : 0 ≤ rd ([x, y, 2147483647] : List Int) (i / 4) ∧ rd ([x, y, 2147483647] : List Int) (i / 4) ≤ 2147483647 := by
  have : i / 4 = 0 ∨ i / 4 = 1 ∨ i / 4 = 2 := by omega
  rcases this with e | e | e <;> rw [e]
  ·exact ⟨by show (0 : Int) ≤ x; omega, by show x ≤ (2147483647 : Int); omega⟩
  ·exact ⟨by show (0 : Int) ≤ y; omega, by show y ≤ (2147483647 : Int); omega⟩
  ·exact ⟨by show (0 : Int) ≤ 2147483647; omega, by show (2147483647 : Int) ≤ 2147483647; omega⟩
 exact ⟨_, _, _, rfl, inB_iff.2 hv, o3⟩
def names4 : List ByteArray := [(⟨#[97]⟩ : ByteArray), (⟨#[98]⟩ : ByteArray), (⟨#[99]⟩ : ByteArray), (⟨#[115, 110, 97, 112]⟩ : ByteArray)]
theorem name_ok (l : List Int) (h : ∀ x ∈ l, 0 ≤ x ∧ x ≤ 255) (at_ seed : Int) (n : Nat) (hs : srcOK at_ seed n) (hn : n ≤ 10000000000) :
  ∃ r a s, bO.f l at_ seed = some (r, a, s) ∧ nmOK r = true ∧ r.size ≤ 6 ∧ srcOK a s (n + 3) := by
 unfold bO.f cP.f
 obtain ⟨i, a1, s1, e1, i0, -, i1, o1⟩ := next_ok l h _ _ _ hs (by omega) 4
 have i1' := i1 (by omega)
 have hl : (names4.length : Int) = 4 := rfl
 have e1' : aD.f l at_ seed ((names4.length : Nat) : Int) = some (i, a1, s1) := e1
 show ∃ r a s, (if (names4.length : Int) = 0 then (some ((⟨#[]⟩ : ByteArray), at_, seed)) else ((aD.f l at_ seed ((names4.length : Nat) : Int)).bind fun bt270 => (if 0 ≤ bt270.1 then (if bt270.1 < (names4.length : Int) then (some (rdOf ByteArray.empty names4 bt270.1, bt270.2.1, bt270.2.2)) else (none)) else (none)))).bind (fun bt277 => (some (bt277.1, bt277.2.1, bt277.2.2))) = some (r, a, s) ∧ nmOK r = true ∧ r.size ≤ 6 ∧ srcOK a s (n + 3)
 rw [if_neg (by omega), e1', gH]
 dsimp only
 rw [if_pos (by omega), if_pos (by omega), gH]
 refine ⟨_, _, _, rfl, ?_⟩
 have : i = 0 ∨ i = 1 ∨ i = 2 ∨ i = 3 := by omega
 rcases this with rfl | rfl | rfl | rfl <;> (dsimp only; exact ⟨by decide, by decide, o1⟩)
theorem oc_zeros (n c : Nat) : oc (iJ n 0) c = 0 := by
 unfold oc
 rw [List.count_replicate, if_neg (by simp; omega)]
theorem eL (n c : Nat) : rd (iJ n 0) (c : Int) = 0 := by
 unfold rd
 simp only [iX, List.getD_eq_getElem?_getD, List.getElem?_replicate]
 by_cases h : c < n
 ·rw [if_pos h]; rfl
 ·rw [if_neg h]; rfl
theorem new_ok (a : Int) (h0 : 0 ≤ a) (h1 : a ≤ 12) : ∃ R T S D, bY.f a = some (R, T, S, D) ∧ Rt R T S D := by
 obtain ⟨n, rfl⟩ : ∃ n : Nat, a = (n : Int) := ⟨a.toNat, by omega⟩
 refine ⟨iJ 24 0, iJ n 0, [], iJ 24 0, ?_, ⟨by simp, by simp, fun c _ => ?_, fun c _ _ => eL 24 c, fun x hx => ?_, fun c _ => ?_⟩, ⟨by simp; omega, fun x hx => ?_, fun c _ => ?_⟩, by simp, by simp, by simp⟩
 ·unfold bY.f
  rw [if_pos (by omega), if_pos (by omega), if_pos (by omega), iX]
 ·rw [eL]; unfold toc; rw [oc_zeros]; rfl
 ·rw [(List.mem_replicate.1 hx).2]; decide
 ·unfold toc; rw [oc_zeros]; simp
 ·rw [(List.mem_replicate.1 hx).2]; omega
 ·rw [oc_zeros]; omega
/-- One round: what comes out is right, and the source has gone on a little. -/
theorem round_ok (l : List Int) (h : ∀ x ∈ l, 0 ≤ x ∧ x ≤ 255) (d : Nat) (hd : d ≤ 1000000) (g : Int) (g0 : 0 ≤ g) (at_ seed : Int) (n : Nat) (hs : srcOK at_ seed n) (hn : n ≤ 1000000000) {R T : List Int} {S : List S60} {D : List Int} (hR : Rt R T S D) (hg : 0 < T.length → g < (T.length : Int))
  (next : ∀ R T S D a s, Rt R T S D → srcOK a s (n + 20) → ∃ r, Ev (fun k => aA.l0 k (d : Int) l a s R T S D) r ∧ Rt r.1 r.2.1 r.2.2.1 r.2.2.2.1) :
  ∃ r, Ev (fun k => aA.j2 k ((d + 1 : Nat) : Int) g l at_ seed R T S D) r ∧ Rt r.1 r.2.1 r.2.2.1 r.2.2.2.1 := by
 obtain ⟨j, rfl⟩ : ∃ j : Nat, g = (j : Int) := ⟨g.toNat, by omega⟩
 have hd1 : wrap64 (((d + 1 : Nat) : Int) - 1) = (d : Int) := by rw [w64 (by omega) (by omega)]; omega
 obtain ⟨c, a1, s1, e1, c0, -, c1, o1⟩ := next_ok l h _ _ _ hs (by omega) 9
 have b1 := ev_of_eq (g := fun _ : Nat => aD.f l at_ seed 9) (fun _ => e1)
 by_cases c00 : c = 0
 ·obtain ⟨s, a2, s2, e2, hs1, hs2, o2⟩ := name_ok l h _ _ _ o1 (by omega)
  obtain ⟨R', T', S', D', z, hE, hR'⟩ := create_ok hR s hs1 hs2
  obtain ⟨r, hr, hRr⟩ := next R' T' S' D' a2 s2 hR' (srcOK_mono o2 (by omega))
  refine ⟨r, Ev.succ ?_, hRr⟩
  simp only [aA.j2, hd1]
  exact ev_bind b1 (ev_pos c00 (ev_bind (ev_of_eq fun _ => e2) (ev_bind hE hr)))
 by_cases c01 : c = 1
 ·obtain ⟨s, a2, s2, e2, hs1, hs2, o2⟩ := name_ok l h _ _ _ o1 (by omega)
  obtain ⟨R', T', S', D', z, hE, hR'⟩ := delete_ok hR s
  obtain ⟨r, hr, hRr⟩ := next R' T' S' D' a2 s2 hR' (srcOK_mono o2 (by omega))
  refine ⟨r, Ev.succ ?_, hRr⟩
  simp only [aA.j2, hd1]
  exact ev_bind b1 (ev_neg c00 (ev_pos c01 (ev_bind (ev_of_eq fun _ => e2) (ev_bind hE hr))))
 by_cases c02 : c = 2
 ·obtain ⟨s, a2, s2, e2, hs1, hs2, o2⟩ := name_ok l h _ _ _ o1 (by omega)
  obtain ⟨R', T', S', D', z, hE, hR'⟩ := revert_ok hR s
  obtain ⟨r, hr, hRr⟩ := next R' T' S' D' a2 s2 hR' (srcOK_mono o2 (by omega))
  refine ⟨r, Ev.succ ?_, hRr⟩
  simp only [aA.j2, hd1]
  exact ev_bind b1 (ev_neg c00 (ev_neg c01 (ev_pos c02 (ev_bind (ev_of_eq fun _ => e2) (ev_bind hE hr)))))
 by_cases c03 : c = 3
 ·obtain ⟨m, a2, s2, e2, m0, -, m1, o2⟩ := next_ok l h _ _ _ o1 (by omega) 13
  have m1' := m1 (by omega)
  obtain ⟨m, rfl⟩ : ∃ q : Nat, m = (q : Int) := ⟨m.toNat, by omega⟩
  obtain ⟨R', D', hE, hR'⟩ := resize_ok hR m (by omega)
  obtain ⟨r, hr, hRr⟩ := next R' _ S D' a2 s2 hR' (srcOK_mono o2 (by omega))
  refine ⟨r, Ev.succ ?_, hRr⟩
  simp only [aA.j2, hd1]
  exact ev_bind b1 (ev_neg c00 (ev_neg c01 (ev_neg c02 (ev_pos c03 (ev_bind (ev_of_eq fun _ => e2) (ev_bind hE hr))))))
 by_cases hT : 0 < T.length
 ·have hgT := hg hT
  have hj : j < T.length := by omega
  have hT' : (T.length : Int) > 0 := by omega
  by_cases c04 : c = 4
  ·obtain ⟨R', D', hE, hR'⟩ := zero_ok hR j hj
   obtain ⟨r, hr, hRr⟩ := next R' _ S D' a1 s1 hR' (srcOK_mono o1 (by omega))
   refine ⟨r, Ev.succ ?_, hRr⟩
   simp only [aA.j2, hd1]
   exact ev_bind b1 (ev_neg c00 (ev_neg c01 (ev_neg c02 (ev_neg c03 (ev_pos c04 (ev_pos hT' (ev_bind hE hr)))))))
  ·obtain ⟨v, a2, s2, e2, hv, o2⟩ := num_ok l h _ _ _ o1 (by omega)
   obtain ⟨R', T', D', z, hE, hR'⟩ := write_ok hR j hj v hv
   obtain ⟨r, hr, hRr⟩ := next R' T' S D' a2 s2 hR' (srcOK_mono o2 (by omega))
   refine ⟨r, Ev.succ ?_, hRr⟩
   simp only [aA.j2, hd1]
   exact ev_bind b1 (ev_neg c00 (ev_neg c01 (ev_neg c02 (ev_neg c03 (ev_neg c04 (ev_pos hT' (ev_bind (ev_of_eq fun _ => e2) (ev_bind hE hr))))))))
 ·have hT' : ¬ (T.length : Int) > 0 := by omega
  obtain ⟨r, hr, hRr⟩ := next R T S D a1 s1 hR (srcOK_mono o1 (by omega))
  refine ⟨r, Ev.succ ?_, hRr⟩
  simp only [aA.j2, hd1]
  by_cases c04 : c = 4
  ·exact ev_bind b1 (ev_neg c00 (ev_neg c01 (ev_neg c02 (ev_neg c03 (ev_pos c04 (ev_neg hT' hr))))))
  ·exact ev_bind b1 (ev_neg c00 (ev_neg c01 (ev_neg c02 (ev_neg c03 (ev_neg c04 (ev_neg hT' hr))))))
theorem rounds_ok (l : List Int) (h : ∀ x ∈ l, 0 ≤ x ∧ x ≤ 255) : ∀ (d : Nat) (n : Nat) (at_ seed : Int) (R T : List Int) (S : List S60) (D : List Int), d ≤ 1000 → n + 30 * d ≤ 1000000 → srcOK at_ seed n → Rt R T S D →
    ∃ r, Ev (fun k => aA.l0 k (d : Int) l at_ seed R T S D) r ∧ Rt r.1 r.2.1 r.2.2.1 r.2.2.2.1 := by
  intro d
  induction d with
  | zero =>
    intro n at_ seed R T S D _ _ hs hR
    refine ⟨(R, T, S, D, at_, seed), Ev.succ ?_, hR⟩
    simp only [aA.l0]
    exact ev_neg (by decide) (ev_bind hR.own (ev_some _))
  | succ d ih =>
    intro n at_ seed R T S D hd hn hs hR
    have hgl := hR.t.l
    by_cases hT : 0 < T.length
    · obtain ⟨g, a1, s1, e1, g0, -, g1, o1⟩ := next_ok l h _ _ _ hs (by omega) (T.length : Int)
      have g1' := g1 (by omega)
      obtain ⟨r, hr, hRr⟩ := round_ok l h d (by omega) g g0 a1 s1 (n + 3) o1 (by omega) hR (fun _ => g1') (fun R T S D a s hR hs => ih (n + 3 + 20) a s R T S D (by omega) (by omega) hs hR)
      refine ⟨r, Ev.succ ?_, hRr⟩
      simp only [aA.l0]
      exact ev_pos (by omega) (ev_pos (by omega) (ev_bind (ev_of_eq fun _ => e1) hr))
    · obtain ⟨r, hr, hRr⟩ := round_ok l h d (by omega) 0 (by omega) at_ seed n hs (by omega) hR (fun h => absurd h hT) (fun R T S D a s hR hs => ih (n + 20) a s R T S D (by omega) (by omega) hs hR)
      refine ⟨r, Ev.succ ?_, hRr⟩
      simp only [aA.l0]
      exact ev_pos (by omega) (ev_neg (by omega) hr)
theorem begun_ok (l : List Int) (h : ∀ x ∈ l, 0 ≤ x ∧ x ≤ 255) (hl : l.length ≤ 100000000) (n : Nat) (hn : n ≤ 1000) (at_ seed : Int) (hs : srcOK at_ seed n) {R T : List Int} {S : List S60} {D : List Int} (hR : Rt R T S D) :
  ∃ r, Ev (fun k => aA.j0 k l at_ seed R T S D) r ∧ Rt r.1 r.2.1 r.2.2.1 r.2.2.2.1 := by
 have e0 : wrap64 ((l.length : Int) / 12) = (l.length : Int) / 12 := w64 (by omega) (by omega)
 have e1 : wrap64 (1 + (l.length : Int) / 12) = 1 + (l.length : Int) / 12 := w64 (by omega) (by omega)
 obtain ⟨z, hz, hz0, hz1⟩ : ∃ z, mn (1 + (l.length : Int) / 12) 20 = z ∧ 1 ≤ z ∧ z ≤ 20 := ⟨_, rfl, by unfold mn; omega, by unfold mn; omega⟩
 have e2 : wrap64 (z + 12) = z + 12 := w64 (by omega) (by omega)
 obtain ⟨d, a1, s1, e3, d0, -, d1, o1⟩ := next_ok l h _ _ _ hs (by omega) (z + 12)
 have d1' := d1 (by omega)
 obtain ⟨d, rfl⟩ : ∃ q : Nat, d = (q : Int) := ⟨d.toNat, by omega⟩
 obtain ⟨r, hr, hRr⟩ := rounds_ok l h d (n + 3) a1 s1 R T S D (by omega) (by omega) o1 hR
 refine ⟨r, Ev.succ ?_, hRr⟩
 simp only [aA.j0, cZ.f, e0, e1, hz]
 refine ev_bind (ev_some _) ?_
 show Ev (fun k => (aD.f l at_ seed (wrap64 (z + 12))).bind _) r
 rw [e2]
 exact ev_bind (ev_of_eq fun _ => e3) hr
theorem image_ok (l : List Int) (h : ∀ x ∈ l, 0 ≤ x ∧ x ≤ 255) (hl : l.length ≤ 100000000) : ∃ R T S D, Ev (fun k => cU.f k l) (R, T, S, D) ∧ Rt R T S D := by
 have hs := source_ok l
 obtain ⟨m, a1, s1, e1, m0, -, m1, o1⟩ := next_ok l h _ _ _ hs (by omega) 13
 have m1' := m1 (by omega)
 obtain ⟨R, T, S, D, e2, hR⟩ := new_ok m m0 (by omega)
 obtain ⟨c, a2, s2, e3, c0, -, c1, o2⟩ := next_ok l h _ _ _ o1 (by omega) 2
 have key : ∃ r, Ev (fun k => aA.f k l 0 ((l.length : Int) % 1000)) r ∧ Rt r.1 r.2.1 r.2.2.1 r.2.2.2.1 := by
  unfold aA.f cO.f
  by_cases hc : (c == wrap64 (2 - 1)) = true
  ·obtain ⟨q, a3, s3, e4, q0, -, q1, o3⟩ := next_ok l h _ _ _ o2 (by omega) 7
   have q1' := q1 (by omega)
   have hw : wrap64 (6 + q) = 6 + q := w64 (by omega) (by omega)
   obtain ⟨R', T', S', D', e5, hR'⟩ := new_ok (6 + q) (by omega) (by omega)
   obtain ⟨r, hr, hRr⟩ := begun_ok l h hl _ (by omega) a3 s3 o3 hR'
   refine ⟨r, ev_bind (ev_of_eq fun _ => e1) (ev_bind (ev_of_eq fun _ => e2) (ev_bind (a := (c == wrap64 (2 - 1), a2, s2)) (ev_of_eq fun _ => by rw [e3]; rfl) (ev_pos hc (ev_bind (ev_of_eq fun _ => e4) (ev_bind (a := (R', T', S', D')) (ev_of_eq fun _ => by rw [hw]; exact e5) hr))))), hRr⟩
  ·obtain ⟨r, hr, hRr⟩ := begun_ok l h hl _ (by omega) a2 s2 o2 hR
   exact ⟨r, ev_bind (ev_of_eq fun _ => e1) (ev_bind (ev_of_eq fun _ => e2) (ev_bind (a := (c == wrap64 (2 - 1), a2, s2)) (ev_of_eq fun _ => by rw [e3]; rfl) (ev_neg hc hr))), hRr⟩
 obtain ⟨r, hr, hRr⟩ := key
 exact ⟨r.1, r.2.1, r.2.2.1, r.2.2.2.1, ev_bind (ev_some _) (ev_bind hr (ev_some _)), hRr⟩
theorem rdE_Shot (l : List S53) (i : Nat) (h : i < l.length) : aC l (i : Int) = l[i] := by simp [aC, h]
theorem ev_allE {g : Nat → Nat → Option Bool} (n : Nat) (P : Nat → Bool) (r : Bool) (hend : Ev (fun k => g k n) r) (hstep : ∀ i, i < n → ∀ b, Ev (fun k => g k (i + 1)) b → Ev (fun k => g k i) (P i && b)) : Ev (fun k => g k 0) ((iT n).all P && r) := by
  have hgo : ∀ d i, i ≤ n → n - i = d → Ev (fun k => g k i) (((iT n).drop i).all P && r) := by
    intro d
    induction d with
    | zero =>
      intro i hi hd
      have e : i = n := by omega
      subst e
      rw [iV (by simp)]; simp only [List.all_nil, jJ]; exact hend
    | succ d ih =>
      intro i hi hd
      have hlt : i < (iT n).length := by simp; omega
      have := hstep i (by omega) _ (ih (i + 1) (by omega) (by omega))
      rw [hP hlt, List.all_cons, mZ, Bool.and_assoc]
      exact this
  have := hgo n 0 (by omega) (by omega)
  rwa [lO] at this
def valsOK (l : List Int) : Bool := l.all (fun n => inB n 0 2147483647) && decide ((l.length : Int) ≤ 12)
theorem dS (l : List Int) (hl : l.length ≤ 1000000000) : Ev (fun k => aT.f k l) (valsOK l) := by
 unfold aT.f valsOK
 refine ev_all (g := fun k i => aT.l0 k l (i : Int)) l _ _ ?_ ?_
 ·refine kX (f := fun _ => some (decide ((l.length : Int) ≤ 12))) (fun k => ?_) (ev_some _)
  simp only [aT.l0]; rw [if_neg (by omega)]
 ·intro i hi k
  simp only [aT.l0, dH.f, l01In_eq, gH]
  rw [if_pos (by omega), if_pos (by omega), rdn l i hi, wnext i (by omega)]
theorem dT (l : List Int) : cE.f l = some (valsOK l) := by
 have hA : bF.f l () = some (l.all (fun n => inB n 0 2147483647)) := by unfold bF.f; exact allO_some _ _ (fun x _ => by simp only [cV.f, within_eq, gH])
 unfold cE.f valsOK
 rw [hA, gH]
 by_cases h : (l.length : Int) ≤ 12
 ·rw [if_pos h, decide_eq_true h, Bool.and_true]
 ·rw [if_neg h, decide_eq_false h, Bool.and_false]
def nmS (l : List S53) (i : Nat) : ByteArray := (aC l (i : Int)).f0
def okAt (l : List S53) (i : Nat) : Bool := nmOK (nmS l i) && (valsOK (aC l (i : Int)).f1 && (iT i).all (fun j => decide (nmS l j ≠ nmS l i)))
theorem eM (v : List Int) (l : List S53) (hv : v.length ≤ 1000000000) (hl : l.length ≤ 1000000000) (hs : ∀ x ∈ l, x.f0.size ≤ 1000000000 ∧ x.f1.length ≤ 1000000000) : Ev (fun k => aG.f k v l) (valsOK v && (decide ((l.length : Int) ≤ 3) && (iT l.length).all (okAt l))) := by
 have hL : Ev (fun k => aG.l0 k ((0 : Nat) : Int) v l) ((iT l.length).all (okAt l) && true) := by
  refine ev_allE (g := fun k i => aG.l0 k (i : Int) v l) l.length (okAt l) true ?_ ?_
  ·refine kX (f := fun _ => some true) (fun k => ?_) (ev_some _)
   simp only [aG.l0]; rw [if_neg (by omega)]
  ·intro i hi b hb
   have hmem := hs l[i] (iI hi)
   have hin : Ev (fun k => aG.l1 k (i : Int) ((0 : Nat) : Int) v l) ((iT i).all (fun j => decide (nmS l j ≠ nmS l i)) && b) := by
    refine ev_all (g := fun k j => aG.l1 k (i : Int) (j : Int) v l) (iT i) _ b ?_ ?_
    ·rw [kI]
     refine kX (f := fun k => aG.l0 k ((i + 1 : Nat) : Int) v l) (fun k => ?_) hb
     simp only [aG.l1]; rw [if_neg (by omega), wnext i (by omega)]
    ·intro j hj k
     rw [kI] at hj
     simp only [aG.l1, mZ]
     rw [if_pos (by omega), if_pos (by omega), if_pos (by omega), if_pos (by omega), if_pos (by omega), wnext j (by omega)]
     show (if (nmS l j).toList = (nmS l i).toList then some false else _) = _
     by_cases c : nmS l j = nmS l i
     ·rw [if_pos (by rw [c]), if_neg (by simp [c])]
     ·rw [if_neg (fun h => c (toList_inj.1 h)), if_pos (by simp [c])]
   refine Ev.succ ?_
   simp only [aG.l0]
   refine ev_pos (by omega) (ev_pos (by omega) ?_)
   have e1 : (aC l (i : Int)).f0 = nmS l i := rfl
   have e2 := rdE_Shot l i hi
   unfold okAt
   rw [e1]
   refine ev_bind (dR _ (by unfold nmS; rw [e2]; exact hmem.1)) ?_
   cases nmOK (nmS l i)
   ·refine ev_neg (by decide) (Ev.succ ?_)
    simp only [aG.j2, if_true, mB]; exact ev_some _
   ·refine ev_pos rfl (ev_bind (dS _ (by rw [e2]; exact hmem.2)) (Ev.succ ?_))
    cases valsOK (aC l (i : Int)).f1
    ·simp only [aG.j2, Bool.not_false, if_true, mB, Bool.and_false]; exact ev_some _
    ·simp only [aG.j2, Bool.not_true, Bool.false_eq_true, if_false, jJ]; exact hin
 rw [Bool.and_true] at hL
 unfold aG.f
 refine ev_bind (dS v hv) ?_
 cases valsOK v
 ·refine ev_neg (by decide) (Ev.succ ?_)
  simp only [aG.j0, if_true, mB]; exact ev_some _
 ·refine ev_pos rfl (Ev.succ ?_)
  simp only [aG.j0, decide_eq_true_eq, jJ]
  by_cases h3 : (l.length : Int) ≤ 3
  ·rw [decide_eq_true h3, jJ]; exact ev_neg (by omega) hL
  ·rw [decide_eq_false h3, mB]; exact ev_pos (by omega) (ev_some _)
theorem names_ev (v : List Int) (l : List S53) (hl : l.length ≤ 1000000000) : Ev (fun k => bB.f k v l) (l.map (·.f0)) := by
 unfold bB.f
 have h := ev_loop (g := fun k i => bB.l0 k ((l.map (·.f0)).take i) l (l.length : Int) (i : Int)) (r := l.map (·.f0)) l.length ?_ ?_ l.length 0 (by omega) (by omega)
 ·simpa using h
 ·refine kX (f := fun _ => some (l.map (·.f0))) (fun k => ?_) (ev_some _)
  simp only [bB.l0]
  rw [if_neg (by omega), iL (by simp)]
 ·intro i hi
  refine ⟨1, fun k => ⟨?_, by omega⟩⟩
  simp only [bB.l0]
  rw [if_pos (by omega), if_pos (by omega), if_pos (by omega), if_pos (by simp; omega), rdE_Shot l i hi, wnext i (by omega), hV (by simpa using hi), lW]
theorem gok_same (l : List S53) : (iT l.length).all (okAt l) = ((l.map (·.f0)).all nmOK && decide (l.map (·.f0)).Nodup && l.all (fun x => valsOK x.f1)) := by
 have hn : ∀ i (h : i < l.length), nmS l i = l[i].f0 := fun i h => by unfold nmS; rw [rdE_Shot l i h]
 rw [Bool.eq_iff_iff]
 simp only [jT, jZ, decide_eq_true_eq, lP, lG]
 constructor
 ·intro h
  have h' : ∀ i (hi : i < l.length), nmOK l[i].f0 = true ∧ valsOK l[i].f1 = true ∧ ∀ j, j < i → nmS l j ≠ nmS l i := fun i hi => by
   have := h i hi
   unfold okAt at this
   simp only [jT, jZ, decide_eq_true_eq, lP] at this
   rw [hn i hi, rdE_Shot l i hi] at this
   exact ⟨this.1, this.2.1, fun j hj => by have := this.2.2 j hj; rw [hn i hi]; exact this⟩
  refine ⟨⟨?_, ?_⟩, ?_⟩
  ·rintro x ⟨y, hy, rfl⟩
   obtain ⟨i, hi, rfl⟩ := List.getElem_of_mem hy
   exact (h' i hi).1
  ·rw [kO, jM]
   intro i j hi hj hij
   rw [iA] at hi hj
   have := (h' j hj).2.2 i hij
   rw [hn i hi, hn j hj] at this
   simpa using this
  ·intro x hx
   obtain ⟨i, hi, rfl⟩ := List.getElem_of_mem hx
   exact (h' i hi).2.1
 ·rintro ⟨⟨h1, h2⟩, h3⟩ i hi
  unfold okAt
  simp only [jT, jZ, decide_eq_true_eq, lP]
  rw [rdE_Shot l i hi]
  refine ⟨?_, h3 _ (iI hi), fun j hj => ?_⟩
  ·rw [hn i hi]; exact h1 _ ⟨_, iI hi, rfl⟩
  ·rw [hn i hi, hn j (by omega)]
   have := jM.1 (kO.1 h2) j i (by simp; omega) (by simpa using hi) hj
   simpa using this
theorem eN (v : List Int) (l : List S53) (hl : l.length ≤ 1000000000) (hs : ∀ x ∈ l, x.f0.size ≤ 1000000000) : Ev (fun k => cT.f k v l) (valsOK v && (decide ((l.length : Int) ≤ 3) && (iT l.length).all (okAt l))) := by
 unfold cT.f
 simp only [dT, gH]
 rw [gok_same]
 cases valsOK v
 ·exact ev_neg (by decide) (ev_some _)
 ·refine ev_pos rfl ?_
  rw [jJ]
  by_cases h3 : (l.length : Int) ≤ 3
  ·refine ev_pos h3 (ev_bind (names_ev v l hl) (ev_bind (areNames_ev _ (by simpa using hl) (fun x hx => by
    obtain ⟨y, hy, rfl⟩ := lG.1 hx; exact hs y hy)) ?_))
   have e : namesOK (l.map (·.f0)) = ((l.map (·.f0)).all nmOK && decide (l.map (·.f0)).Nodup) := by
    unfold namesOK; rw [decide_eq_true (by simpa using h3), jJ]
   have hA : bS.f l () = some (l.all (fun x => valsOK x.f1)) := by unfold bS.f; exact allO_some _ _ (fun x _ => by simp only [cY.f, dT, gH])
   rw [e, hA, decide_eq_true h3, jJ]
   cases ((l.map (·.f0)).all nmOK && decide (l.map (·.f0)).Nodup)
   ·exact ev_neg (by decide) (ev_some _)
   ·refine ev_pos rfl ?_
    simp only [gH, jJ]; exact ev_some _
  ·rw [decide_eq_false h3, mB]; exact ev_neg h3 (ev_some _)
def dgs (n : Int) : ByteArray := ⟨(Lib.itoa n).toArray⟩
theorem dgs_small {n : Int} (h0 : 0 ≤ n) (h : n < 10) : dgs n = strOfNums [(wrap64 (48 + n)) % 256] := by
 rw [w64 (n := 48 + n) (by omega) (by omega)]
 unfold dgs Lib.itoa
 rw [if_neg (by omega), Lib.decDigits_one (by omega)]
 have e : (48 + n) % 256 = ((48 + n.toNat : Nat) : Int) := by omega
 rw [e]; rfl
theorem dgs_step {n : Int} (h : 10 ≤ n) (hn : n ≤ 1000000000000) : dgs n = dgs (n / 10) ++ strOfNums [(wrap64 (48 + (iO n 10))) % 256] := by
 have hm : iO n 10 = n % 10 := jU (by omega)
 rw [hm, w64 (n := 48 + n % 10) (by omega) (by omega)]
 unfold dgs Lib.itoa
 rw [if_neg (by omega), if_neg (by omega)]
 have e : (48 + n % 10) % 256 = ((48 + n.toNat % 10 : Nat) : Int) := by omega
 have e2 : (n / 10).toNat = n.toNat / 10 := by omega
 rw [e, e2]
 conv => lhs; rw [Lib.decDigits, dif_neg (by omega)]
 rw [← List.append_toArray]
 apply ByteArray.ext
 rw [nC]; rfl
theorem digits_ev : ∀ (d : Nat) (n : Int), 0 ≤ n → n.toNat ≤ d → n ≤ 1000000000000 → Ev (fun k => bH.f k n) (dgs n) ∧ (dgs n).size ≤ n.toNat + 1 := by
  intro d
  induction d with
  | zero =>
    intro n h0 hd hn
    have h := dgs_small h0 (by omega : n < 10)
    refine ⟨Ev.succ ?_, by rw [h, strOfNums_size]; simp⟩
    simp only [bH.f]
    exact ev_neg (by omega) (ev_neg (by omega) (ev_pos (by omega) (by rw [← h]; exact ev_some _)))
  | succ d ih =>
    intro n h0 hd hn
    by_cases c : n < 10
    · have h := dgs_small h0 c
      refine ⟨Ev.succ ?_, by rw [h, strOfNums_size]; simp⟩
      simp only [bH.f]
      exact ev_neg (by omega) (ev_neg (by omega) (ev_pos (by omega) (by rw [← h]; exact ev_some _)))
    · have h := dgs_step (by omega : 10 ≤ n) hn
      have hq : kM n 10 = n / 10 := lH h0
      obtain ⟨h1, h2⟩ := ih (n / 10) (by omega) (by omega) (by omega)
      have hz : (strOfNums [(wrap64 (48 + (iO n 10))) % 256]).size = 1 := by rw [strOfNums_size]; rfl
      refine ⟨Ev.succ ?_, by rw [h, ba_size_append, hz]; omega⟩
      simp only [bH.f, gH]
      refine ev_neg (by omega) (ev_neg (by omega) (ev_neg (by omega) ?_))
      rw [hq, w64 (n := n / 10) (by omega) (by omega)]
      refine ev_bind h1 (ev_pos (by rw [hz]; omega) ?_)
      rw [← h]; exact ev_some _
def bl : ByteArray := ⟨#[32]⟩
theorem bl_size : bl.size = 1 := rfl
/-- A word, and others behind it, each with a blank ahead. -/
def jn (w : ByteArray) (r : List ByteArray) : ByteArray := r.foldl (fun o x => o ++ (bl ++ x)) w
theorem jn_cons (w x : ByteArray) (r : List ByteArray) : jn w (x :: r) = jn (w ++ (bl ++ x)) r := rfl
theorem jn_snoc (w x : ByteArray) (r : List ByteArray) : jn w (r ++ [x]) = jn w r ++ (bl ++ x) := by simp [jn]
theorem join_jn : ∀ (r : List ByteArray) (w : ByteArray), Lib.join ((w :: r).map (·.data.toList)) [32] = (jn w r).data.toList := by
  intro r
  induction r with
  | nil => intro w; simp [Lib.join, List.intercalate, jn]
  | cons x r ih =>
    intro w
    rw [jn_cons, ← ih]
    have hb : bl.data.toList = [32] := rfl
    cases r with
    | nil => simp [Lib.join, List.intercalate, nC, hb]
    | cons y r => simp [Lib.join, List.intercalate, nC, hb]
theorem jn_size (B : Nat) : ∀ (r : List ByteArray) (w : ByteArray), (∀ x ∈ r, x.size ≤ B) → (jn w r).size ≤ w.size + r.length * (B + 1) := by
  intro r
  induction r with
  | nil => intro w _; simp [jn]
  | cons x r ih =>
    intro w h
    rw [jn_cons]
    have h1 := ih (w ++ (bl ++ x)) (fun y hy => h y (by simp [hy])); have h2 := h x (by simp)
    rw [ba_size_append, ba_size_append, bl_size] at h1
    rw [List.length_cons, Nat.add_mul]
    omega
theorem Join_jn (w : ByteArray) (r : List ByteArray) (h : (jn w r).size ≤ 140737488355328) (hl : r.length ≤ 1000000000) : dC.f (w :: r) (⟨#[32]⟩ : ByteArray) = some (jn w r) := by
 unfold dC.f
 have e : (⟨#[32]⟩ : ByteArray).data.toList = [32] := rfl
 rw [e, join_jn, if_pos (by simp; omega), if_pos (show (jn w r).data.toList.length ≤ _ by rw [Array.length_toList]; exact h)]
theorem itoa_eq {n : Int} (h0 : 0 ≤ n) (hn : n ≤ 1000000000000) : cJ.f n = some (dgs n) := by
 unfold cJ.f
 rw [if_pos (by omega), if_pos (by omega)]; rfl
def okN (n : Int) : Prop := 0 ≤ n ∧ n ≤ 1000000000000
theorem ints_eq : ∀ (l : List Int) (out : List ByteArray), (∀ x ∈ l, okN x) → out.length + l.length ≤ 1000000000 → aY.ints out l = some (out ++ l.map dgs) := by
  intro l
  induction l with
  | nil => intro out _ _; simp [aY.ints]
  | cons x r ih =>
    intro out h hl
    rw [List.length_cons] at hl
    have hx := h x (by simp)
    simp only [aY.ints]
    rw [itoa_eq hx.1 hx.2, gH, if_pos (by omega), ih _ (fun y hy => h y (by simp [hy])) (by simp; omega)]
    simp
/-- What a value of type any says, and whether its numbers are right. -/
def anyW : Any → List ByteArray | .n x => [dgs x] | .s x => [x] | .ss _ l => l | .ns _ l => l.map dgs | .b _ => []
def anyOK : Any → Prop | .n x => okN x | .s _ => True | .ss _ _ => True | .ns _ l => ∀ x ∈ l, okN x | .b _ => False
theorem go_eq : ∀ (l : List Any) (out : List ByteArray), (∀ x ∈ l, anyOK x) → out.length + (l.flatMap anyW).length ≤ 1000000000 → aY.go out l = some (out ++ l.flatMap anyW) := by
  intro l
  induction l with
  | nil => intro out _ _; simp [aY.go]
  | cons x r ih =>
    intro out h hl
    rw [List.flatMap_cons, mD] at hl
    have hx := h x (by simp)
    have ih := fun o ho => ih o (fun y hy => h y (by simp [hy])) ho
    cases x with
    | b v => exact hx.elim
    | n v =>
      have hl' : (anyW (.n v)).length = 1 := rfl
      simp only [aY.go]
      rw [itoa_eq hx.1 hx.2, gH, if_pos (by omega), ih _ (by simp only [mD, nD, iA]; omega)]
      simp [anyW]
    | s v =>
      have hl' : (anyW (.s v)).length = 1 := rfl
      simp only [aY.go]
      rw [if_pos (by omega), ih _ (by simp only [mD, nD, iA]; omega)]
      simp [anyW]
    | ss v l =>
      have hl' : (anyW (.ss v l)).length = l.length := rfl
      simp only [aY.go]
      rw [if_pos (by omega), ih _ (by simp only [mD, nD, iA]; omega)]
      simp [anyW]
    | ns v l =>
      have hl' : (anyW (.ns v l)).length = l.length := by simp [anyW]
      simp only [aY.go]
      rw [ints_eq l out hx (by omega), gH, ih _ (by simp only [mD, nD, iA]; omega)]
      simp [anyW]
theorem said_eq (x : ByteArray) (r : List Any) (B : Nat) (hB : B ≤ 10000000000) (hx : x.size ≤ 1000000000) (hok : ∀ y ∈ r, anyOK y) (hl : (r.flatMap anyW).length ≤ 1000) (hs : ∀ y ∈ r.flatMap anyW, y.size ≤ B) : aY.f (.s x :: r) = some (jn x (r.flatMap anyW)) := by
 unfold aY.f
 rw [go_eq (.s x :: r) [] (by intro y hy; rcases nX.1 hy with rfl | hy; exact trivial; exact hok y hy) (by rw [List.flatMap_cons, mD, show (anyW (.s x)).length = 1 from rfl, mJ]; omega), gH]
 have e : [] ++ (Any.s x :: r).flatMap anyW = x :: r.flatMap anyW := rfl
 have h1 := jn_size B (r.flatMap anyW) x hs
 have h2 : (r.flatMap anyW).length * (B + 1) ≤ 1000 * 10000000001 := Nat.mul_le_mul hl (by omega)
 rw [e, Join_jn _ _ (by omega) (by omega)]
theorem said2_eq (x : ByteArray) (a : Any) (h : anyOK a) (hx : x.size ≤ 1000000000) (B : Nat) (hB : B ≤ 10000000000) (hl : (anyW a).length ≤ 500) (hs : ∀ y ∈ anyW a, y.size ≤ B) : aY.f [.s x, a] = some (jn x (anyW a)) := by
 have := said_eq x [a] B hB hx (by simpa using h) (by simpa using (by omega : (anyW a).length ≤ 1000)) (by simpa using hs)
 simpa using this
theorem dgs_le {n : Int} (h0 : 0 ≤ n) (hn : n ≤ 1000000000000) : (dgs n).size ≤ n.toNat + 1 := (digits_ev n.toNat n h0 (fQ _) hn).2
def gline (w : ByteArray) (l : List Int) : ByteArray := jn w (l.map dgs)
def col : ByteArray := ⟨#[58]⟩
def gtext (v : List Int) (l : List S53) : List ByteArray := gline (⟨#[110, 111, 119, 58]⟩ : ByteArray) v :: l.map (fun x => gline (x.f0 ++ col) x.f1)
theorem vals_fine {l : List Int} (h : valsOK l = true) : l.length ≤ 12 ∧ ∀ x ∈ l, 0 ≤ x ∧ x ≤ 2147483647 := by
 unfold valsOK at h
 simp only [jT, jZ, decide_eq_true_eq] at h
 exact ⟨by omega, fun x hx => inB_iff.1 (h.1 x hx)⟩
theorem dgs_small_size {n : Int} (h0 : 0 ≤ n) (h1 : n ≤ 2147483647) : (dgs n).size ≤ 2147483648 := by have := dgs_le (n := n) h0 (by omega); omega
theorem dgs_list {l : List Int} (h : valsOK l = true) : ∀ x ∈ l.map dgs, x.size ≤ 2147483648 := by
 intro x hx
 obtain ⟨y, hy, rfl⟩ := lG.1 hx
 have := (vals_fine h).2 y hy
 exact dgs_small_size this.1 this.2
theorem dU (w : ByteArray) (l : List Int) (h : valsOK l = true) (hw : w.size ≤ 2000000000) : Ev (fun k => bU.f k w l) (gline w l) := by
  obtain ⟨f1, f2⟩ := vals_fine h
  unfold bU.f gline
  have key : ∀ d i, i ≤ l.length → l.length - i = d → Ev (fun k => bU.l0 k (jn w ((l.map dgs).take i)) l (i : Int)) (jn w (l.map dgs)) := by
    intro d
    induction d with
    | zero =>
      intro i hi hd
      refine Ev.succ ?_
      simp only [bU.l0]
      refine ev_neg (by omega) ?_
      rw [iL (by rw [iA]; omega)]
      exact ev_some _
    | succ d ih =>
      intro i hi hd
      have hlt : i < l.length := by omega
      have hx := f2 _ (iI hlt); have hz := dgs_small_size hx.1 hx.2
      obtain ⟨B, hB⟩ : ∃ B : Nat, B = 2147483648 := ⟨_, rfl⟩
      have hj := jn_size B ((l.map dgs).take i) w (fun x hx => by rw [hB]; exact dgs_list h x (List.mem_of_mem_take hx)); have hj2 := Nat.mul_le_mul_right (B + 1) (show ((l.map dgs).take i).length ≤ 12 by rw [mS, iA]; omega)
      refine Ev.succ ?_
      simp only [bU.l0, rdn l i hlt, wnext i (show i < 1000000000000000000 by omega)]
      have hs : ((⟨#[32]⟩ : ByteArray) ++ dgs l[i]).size = 1 + (dgs l[i]).size := by rw [ba_size_append]; rfl
      refine ev_pos (by omega) (ev_pos (by omega) (ev_bind (digits_ev l[i].toNat l[i] hx.1 (fQ _) (by omega)).1 (ev_pos (by omega) (ev_pos (by rw [hs]; omega) ?_))))
      have := ih (i + 1) (by omega) (by omega)
      rw [hV (by rw [iA]; omega), jn_snoc, lW] at this
      exact this
  exact key l.length 0 (by omega) (by omega)
theorem dV (w : ByteArray) (l : List Int) (h : valsOK l = true) (hw : w.size ≤ 1000000000) : aY.f [Any.s w, Any.ns (.bool false) l] = some (gline w l) := by
 obtain ⟨f1, f2⟩ := vals_fine h
 exact said2_eq w (.ns (.bool false) l) (fun x hx => by have := f2 x hx; exact ⟨this.1, by omega⟩) hw 2147483648 (by omega) (by show (l.map dgs).length ≤ _; rw [iA]; omega) (dgs_list h)
def gokP (v : List Int) (l : List S53) : Bool := valsOK v && (decide ((l.length : Int) ≤ 3) && (iT l.length).all (okAt l))
theorem gok_facts {v : List Int} {l : List S53} (h : gokP v l = true) : valsOK v = true ∧ l.length ≤ 3 ∧ ∀ x ∈ l, valsOK x.f1 = true ∧ nmOK x.f0 = true := by
 unfold gokP at h
 rw [gok_same] at h
 simp only [jT, decide_eq_true_eq, jZ] at h
 obtain ⟨h1, h2, ⟨h3, _⟩, h4⟩ := h
 exact ⟨h1, by omega, fun x hx => ⟨h4 x hx, h3 _ (lG.2 ⟨x, hx, rfl⟩)⟩⟩
theorem nm_six {t : ByteArray} (h : nmOK t = true) : t.size ≤ 6 := by
 unfold nmOK at h
 simp only [jT, inB_iff] at h
 omega
theorem eE {v : List Int} {l : List S53} (h : gokP v l = true) : Ev (fun k => bD.f k v l) (gtext v l) := by
 obtain ⟨f1, f2, f3⟩ := gok_facts h
 unfold bD.f gtext
 refine ev_bind (dU _ v f1 (by show 4 ≤ _; omega)) ?_
 have h0 := ev_down (g := fun k i => bD.l0 k (gline (⟨#[110, 111, 119, 58]⟩ : ByteArray) v :: (l.map (fun x => gline (x.f0 ++ col) x.f1)).take i) (i : Int) v l) (r := gtext v l) l.length ?_ ?_
 ·exact h0
 ·refine Ev.succ ?_
  simp only [bD.l0]
  refine ev_neg (by omega) ?_
  rw [iL (by rw [iA]; omega)]
  exact ev_some _
 ·intro i hi hn
  have hx := f3 _ (iI hi); have h6 := nm_six hx.2
  have hc : (l[i].f0 ++ col).size = l[i].f0.size + 1 := by rw [ba_size_append]; rfl
  refine Ev.succ ?_
  simp only [bD.l0, rdE_Shot l i hi, wnext i (show i < 1000000000000000000 by omega)]
  refine ev_pos (by omega) (ev_pos (by omega) (ev_pos (by omega) (ev_bind (dU (l[i].f0 ++ col) l[i].f1 hx.1 (by omega)) (ev_pos (by simp; omega) ?_))))
  rw [hV (by rw [iA]; omega), lW] at hn
  exact hn
theorem eF {v : List Int} {l : List S53} (h : gokP v l = true) : Ev (fun k => aZ.f k v l) (gtext v l) := by
 obtain ⟨f1, f2, f3⟩ := gok_facts h
 unfold aZ.f gtext
 rw [dV _ v f1 (by show 4 ≤ _; omega)]
 simp only [gH]
 have h0 := ev_down (g := fun k i => aZ.l0 k (gline (⟨#[110, 111, 119, 58]⟩ : ByteArray) v :: (l.map (fun x => gline (x.f0 ++ col) x.f1)).take i) l (l.length : Int) (i : Int)) (r := gtext v l) l.length ?_ ?_
 ·exact h0
 ·refine Ev.succ ?_
  simp only [aZ.l0]
  refine ev_neg (by omega) ?_
  rw [iL (by rw [iA]; omega)]
  exact ev_some _
 ·intro i hi hn
  have hx := f3 _ (iI hi); have h6 := nm_six hx.2
  have hc : (l[i].f0 ++ col).size = l[i].f0.size + 1 := by rw [ba_size_append]; rfl
  refine Ev.succ ?_
  simp only [aZ.l0, rdE_Shot l i hi, wnext i (show i < 1000000000000000000 by omega)]
  have hL : aY.f [Any.s (l[i].f0 ++ (⟨#[58]⟩ : ByteArray)), Any.ns (.bool false) l[i].f1] = some (gline (l[i].f0 ++ col) l[i].f1) := dV (l[i].f0 ++ col) l[i].f1 hx.1 (by omega)
  rw [hL]
  simp only [gH]
  refine ev_pos (by omega) (ev_pos (by omega) (ev_pos (by omega) (ev_pos (by omega) (ev_pos (by simp; omega) ?_))))
  rw [hV (by rw [iA]; omega), lW] at hn
  exact hn
def gres (v : List Int) (l : List S53) : List ByteArray × Int := if gokP v l = true then (gtext v l, 0) else ([], 1)
theorem eR (v : List Int) (l : List S53) (hv : v.length ≤ 1000000000) (hl : l.length ≤ 1000000000) (hs : ∀ x ∈ l, x.f0.size ≤ 1000000000 ∧ x.f1.length ≤ 1000000000) : Ev (fun k => cR.f k v l) (gres v l) := by
 unfold cR.f gres
 refine ev_bind (eM v l hv hl hs) ?_
 show Ev _ (if gokP v l = true then _ else _)
 cases h : gokP v l
 ·exact ev_neg (by unfold gokP at h; rw [h]; decide) (ev_some _)
 ·exact ev_pos (by unfold gokP at h; exact h) (ev_bind (eE h) (ev_some _))
theorem eS (v : List Int) (l : List S53) (hl : l.length ≤ 1000000000) (hs : ∀ x ∈ l, x.f0.size ≤ 1000000000) : Ev (fun k => cL.f k v l) (gres v l) := by
 unfold cL.f gres
 refine ev_bind (eN v l hl hs) ?_
 show Ev _ (if gokP v l = true then _ else _)
 cases h : gokP v l
 ·exact ev_neg (by unfold gokP at h; rw [h]; decide) (ev_some _)
 ·exact ev_pos (by unfold gokP at h; exact h) (ev_bind (eF h) (ev_some _))
/-- The words of a text, by blanks. -/
def wsJ : List UInt8 → List UInt8 → List (List UInt8)
  | cur, [] => [cur]
  | cur, c :: r => if c = 32 then cur :: wsJ [] r else wsJ (cur ++ [c]) r
theorem wsJ_app : ∀ (p cur r : List UInt8), (∀ c ∈ p, c ≠ 32) → wsJ cur (p ++ 32 :: r) = (cur ++ p) :: wsJ [] r := by
  intro p
  induction p with
  | nil =>
    intro cur r _
    simp only [nA, wsJ, List.append_nil, if_true]
  | cons c p ih =>
    intro cur r h
    simp only [List.cons_append, wsJ]
    rw [if_neg (h c (by simp)), ih _ _ (fun x hx => h x (by simp [hx]))]
    simp
theorem wsJ_end : ∀ (p cur : List UInt8), (∀ c ∈ p, c ≠ 32) → wsJ cur p = [cur ++ p] := by
  intro p
  induction p with
  | nil => intro cur _; simp only [wsJ, List.append_nil]
  | cons c p ih =>
    intro cur h
    simp only [wsJ]
    rw [if_neg (h c (by simp)), ih _ (fun x hx => h x (by simp [hx]))]
    simp
def noB (x : ByteArray) : Prop := ∀ c ∈ x.data.toList, c ≠ 32
theorem data_app (a b : ByteArray) : (a ++ b).data.toList = a.data.toList ++ b.data.toList := by rw [ByteArray.data_append, Array.toList_append]
theorem data_inj {a b : ByteArray} (h : a.data.toList = b.data.toList) : a = b := by
 apply ByteArray.ext
 exact Array.toList_inj.1 h
theorem ws_jn : ∀ (r : List ByteArray) (w : ByteArray) (cur : List UInt8), noB w → (∀ x ∈ r, noB x) → ∀ p : ByteArray, wsJ cur (jn w r).data.toList = wsJ cur (jn w r).data.toList ∧ (jn (p ++ (bl ++ w)) r).data.toList = p.data.toList ++ 32 :: (jn w r).data.toList := by
  intro r
  induction r with
  | nil =>
    intro w cur _ _ p
    refine ⟨rfl, ?_⟩
    show (p ++ (bl ++ w)).data.toList = _
    rw [data_app, data_app]; rfl
  | cons x r ih =>
    intro w cur hw hr p
    refine ⟨rfl, ?_⟩
    rw [jn_cons, jn_cons]
    have h1 := (ih x cur (hr x (by simp)) (fun y hy => hr y (by simp [hy])) (p ++ (bl ++ w))).2; have h2 := (ih x cur (hr x (by simp)) (fun y hy => hr y (by simp [hy])) w).2
    rw [h1, h2, data_app, data_app]
    simp
    rfl
theorem ws_of : ∀ (r : List ByteArray) (w : ByteArray), noB w → (∀ x ∈ r, noB x) → wsJ [] (jn w r).data.toList = w.data.toList :: r.map (fun x => x.data.toList) := by
  intro r
  induction r with
  | nil => intro w hw _; exact wsJ_end _ _ hw
  | cons x r ih =>
    intro w hw hr
    have h := (ws_jn r x [] (hr x (by simp)) (fun y hy => hr y (by simp [hy])) w).2
    rw [jn_cons, h, wsJ_app _ _ _ hw, ih x (hr x (by simp)) (fun y hy => hr y (by simp [hy]))]
    simp
theorem jn_inj {w w' : ByteArray} {r r' : List ByteArray} (hw : noB w) (hw' : noB w') (hr : ∀ x ∈ r, noB x) (hr' : ∀ x ∈ r', noB x) (h : jn w r = jn w' r') : w = w' ∧ r = r' := by
  have e := ws_of r w hw hr
  rw [h, ws_of r' w' hw' hr'] at e
  injection e with e1 e2
  refine ⟨(data_inj e1).symm, ?_⟩
  have hm : ∀ a b : List ByteArray, b.map (fun x => x.data.toList) = a.map (fun x => x.data.toList) → a = b := by
    intro a
    induction a with
    | nil => intro b hb; cases b with
      | nil => rfl
      | cons y b => simp at hb
    | cons x a ih =>
      intro b hb
      cases b with
      | nil => simp at hb
      | cons y b =>
        simp only [jY, List.cons.injEq] at hb
        rw [ih b hb.2, data_inj hb.1]
  exact hm r r' e2
/-- The number that digits tell. -/
def dval (l : List UInt8) : Nat := l.foldl (fun a c => a * 10 + (c.toNat - 48)) 0
theorem dig_data {d : Int} (h0 : 0 ≤ d) (h1 : d < 10) : (strOfNums [(wrap64 (48 + d)) % 256]).data.toList = [UInt8.ofNat (48 + d.toNat)] := by
 rw [w64 (n := 48 + d) (by omega) (by omega)]
 have e : (48 + d) % 256 = ((48 + d.toNat : Nat) : Int) := by omega
 rw [e]; rfl
theorem dig_nat {d : Int} (h0 : 0 ≤ d) (h1 : d < 10) : (UInt8.ofNat (48 + d.toNat)).toNat = 48 + d.toNat := by
 have : d = 0 ∨ d = 1 ∨ d = 2 ∨ d = 3 ∨ d = 4 ∨ d = 5 ∨ d = 6 ∨ d = 7 ∨ d = 8 ∨ d = 9 := by omega
 rcases this with rfl | rfl | rfl | rfl | rfl | rfl | rfl | rfl | rfl | rfl <;> rfl
theorem dgs_told : ∀ (b : Nat) (n : Int), 0 ≤ n → n.toNat ≤ b → n ≤ 1000000000000 → dval (dgs n).data.toList = n.toNat ∧ noB (dgs n) := by
  intro b
  induction b with
  | zero =>
    intro n h0 hb hn
    have e : n = 0 := by omega
    subst e
    rw [dgs_small (by omega) (by omega)]
    refine ⟨by rw [dig_data (by omega) (by omega)]; rfl, ?_⟩
    intro c hc
    rw [dig_data (by omega) (by omega)] at hc
    rw [mC.1 hc]
    decide
  | succ b ih =>
    intro n h0 hb hn
    have hne : ∀ d : Int, 0 ≤ d → d < 10 → UInt8.ofNat (48 + d.toNat) ≠ 32 := by
      intro d h0 h1 e
      have := dig_nat h0 h1
      rw [e] at this
      have e32 : (32 : UInt8).toNat = 32 := rfl
      rw [e32] at this
      omega
    by_cases hs : n < 10
    · rw [dgs_small h0 hs]
      refine ⟨?_, ?_⟩
      · rw [dig_data h0 hs]
        show 0 * 10 + ((UInt8.ofNat (48 + n.toNat)).toNat - 48) = n.toNat
        rw [dig_nat h0 hs]; omega
      · intro c hc
        rw [dig_data h0 hs] at hc
        rw [mC.1 hc]
        exact hne n h0 hs
    · have ht : iO n 10 = n % 10 := jU h0
      have hi := ih (n / 10) (by omega) (by omega) (by omega)
      have hd0 : 0 ≤ n % 10 := by omega
      have hd1 : n % 10 < 10 := by omega
      rw [dgs_step (by omega) hn, ht]
      refine ⟨?_, ?_⟩
      · rw [data_app, dig_data hd0 hd1]
        unfold dval at hi ⊢
        rw [List.foldl_append, hi.1]
        show (n / 10).toNat * 10 + ((UInt8.ofNat (48 + (n % 10).toNat)).toNat - 48) = n.toNat
        rw [dig_nat hd0 hd1]; omega
      · intro c hc
        rw [data_app, dig_data hd0 hd1] at hc
        rcases nY.1 hc with hc | hc
        · exact hi.2 c hc
        · rw [mC.1 hc]; exact hne _ hd0 hd1
theorem dgs_inj {n m : Int} (h0 : 0 ≤ n) (h1 : n ≤ 2147483647) (h2 : 0 ≤ m) (h3 : m ≤ 2147483647) (h : dgs n = dgs m) : n = m := by
 have a := (dgs_told n.toNat n h0 (fQ _) (by omega)).1; have b := (dgs_told m.toNat m h2 (fQ _) (by omega)).1
 rw [h, b] at a
 omega
theorem gline_inj {w w' : ByteArray} {l m : List Int} (hw : noB w) (hw' : noB w') (hl : valsOK l = true) (hm : valsOK m = true) (h : gline w l = gline w' m) : w = w' ∧ l = m := by
  have fl := (vals_fine hl).2; have fm := (vals_fine hm).2
  have nb : ∀ k : List Int, (∀ x ∈ k, 0 ≤ x ∧ x ≤ 2147483647) → ∀ y ∈ k.map dgs, noB y := by
    intro k hk y hy
    obtain ⟨x, hx, rfl⟩ := lG.1 hy
    have := hk x hx
    exact (dgs_told x.toNat x this.1 (fQ _) (by omega)).2
  obtain ⟨e1, e2⟩ := jn_inj hw hw' (nb l fl) (nb m fm) h
  refine ⟨e1, ?_⟩
  clear h hl hm
  induction l generalizing m with
  | nil => cases m with
    | nil => rfl
    | cons y m => simp at e2
  | cons x l ih =>
    cases m with
    | nil => simp at e2
    | cons y m =>
      simp only [jY, List.cons.injEq] at e2
      have hx := fl x (by simp); have hy := fm y (by simp)
      rw [dgs_inj hx.1 hx.2 hy.1 hy.2 e2.1, ih (fun z hz => fl z (by simp [hz])) (fun z hz => fm z (by simp [hz])) e2.2]
theorem noB_name {s : ByteArray} (h : nmOK s = true) : noB (s ++ col) := by
 intro c hc
 rw [data_app] at hc
 rcases nY.1 hc with hc | hc
 ·intro e
  unfold nmOK at h
  rw [jT, jZ] at h
  obtain ⟨k, hk, hx⟩ := List.mem_iff_getElem.1 hc
  have hlt : k < s.size := by rw [Array.length_toList] at hk; exact hk
  have hb := inB_iff.1 (h.1 k (lP.2 hlt))
  have hbt : bt s (k : Int) = ((s.data.toList[k]).toNat : Int) := by
   unfold bt
   rw [dif_pos (by simpa using hlt)]
   rfl
  rw [hbt, hx, e] at hb
  have e32 : (32 : UInt8).toNat = 32 := rfl
  rw [e32] at hb
  omega
 ·have hcol : col.data.toList = [58] := rfl
  rw [hcol] at hc
  rw [mC.1 hc]
  decide
theorem noB_now : noB (⟨#[110, 111, 119, 58]⟩ : ByteArray) := by
 intro c hc
 have e : (⟨#[110, 111, 119, 58]⟩ : ByteArray).data.toList = [110, 111, 119, 58] := rfl
 rw [e] at hc
 simp only [nX, List.not_mem_nil, or_false] at hc
 rcases hc with rfl | rfl | rfl | rfl <;> decide
theorem shots_inj : ∀ (l m : List S53), (∀ x ∈ l, valsOK x.f1 = true ∧ nmOK x.f0 = true) → (∀ x ∈ m, valsOK x.f1 = true ∧ nmOK x.f0 = true) → l.map (fun x => gline (x.f0 ++ col) x.f1) = m.map (fun x => gline (x.f0 ++ col) x.f1) → l = m := by
  intro l
  induction l with
  | nil => intro m _ _ h; cases m with
    | nil => rfl
    | cons y m => simp at h
  | cons x l ih =>
    intro m hl hm h
    cases m with
    | nil => simp at h
    | cons y m =>
      simp only [jY, List.cons.injEq] at h
      have hx := hl x (by simp); have hy := hm y (by simp)
      obtain ⟨e1, e2⟩ := gline_inj (noB_name hx.2) (noB_name hy.2) hx.1 hy.1 h.1
      have e3 : x.f0 = y.f0 := by
        have : (x.f0 ++ col).data.toList = (y.f0 ++ col).data.toList := by rw [e1]
        rw [data_app, data_app] at this
        exact data_inj (List.append_cancel_right this)
      rw [ih m (fun z hz => hl z (by simp [hz])) (fun z hz => hm z (by simp [hz])) h.2]
      have exy : x = y := by cases x; cases y; simp only at e2 e3; rw [e2, e3]
      rw [exy]
theorem gtext_inj {v w : List Int} {l m : List S53} (h : gokP v l = true) (h' : gokP w m = true) (e : gtext v l = gtext w m) : v = w ∧ l = m := by
 obtain ⟨a1, _, a3⟩ := gok_facts h
 obtain ⟨b1, _, b3⟩ := gok_facts h'
 unfold gtext at e
 injection e with e1 e2
 exact ⟨(gline_inj noB_now noB_now a1 b1 e1).2, shots_inj l m a3 b3 e2⟩
theorem at_ok (l : List Int) (h : ∀ x ∈ l, 0 ≤ x ∧ x ≤ 255) (i : Int) (hi0 : 0 ≤ i) (hi : i ≤ 1000000) (n : Int) : ∃ r, dI.f l i n = some r ∧ 0 ≤ r ∧ (n ≤ 1 → r = 0) ∧ (1 ≤ n → r < n) := by
 unfold dI.f
 by_cases c1 : n ≤ 1
 ·rw [if_pos c1]; exact ⟨0, rfl, by omega, fun _ => rfl, fun _ => by omega⟩
 ·rw [if_neg c1]
  by_cases c2 : (l.length : Int) = 0
  ·rw [if_pos c2, if_neg (by omega)]
   have x1 : wrap64 (i * 7) = i * 7 := w64 (by omega) (by omega)
   rw [x1]
   have := tmod_range (show 0 ≤ i * 7 by omega) (show 0 < n by omega)
   exact ⟨_, rfl, this.1, fun h => absurd h c1, fun _ => this.2⟩
  ·rw [if_neg c2]
   have x1 : wrap64 (i + 1) = i + 1 := w64 (by omega) (by omega)
   rw [x1]
   have m1 := tmod_range hi0 (show 0 < (l.length : Int) by omega); have m2 := tmod_range (show 0 ≤ i + 1 by omega) (show 0 < (l.length : Int) by omega)
   rw [if_pos m1.1, if_pos m1.2, if_pos m2.1, if_pos m2.2, if_neg (by omega)]
   have b1 := eJ l h (iO i (l.length : Int)); have b2 := eJ l h (iO (i + 1) (l.length : Int))
   generalize rd l (iO i (l.length : Int)) = u at b1 ⊢
   generalize rd l (iO (i + 1) (l.length : Int)) = v at b2 ⊢
   have d0 : 0 ≤ kM i (l.length : Int) := by rw [lH hi0]; exact Int.ediv_nonneg hi0 (by omega)
   have d1 : kM i (l.length : Int) ≤ i := by rw [lH hi0]; exact Int.ediv_le_self _ hi0
   generalize kM i (l.length : Int) = q at d0 d1 ⊢
   have y1 : wrap64 u = u := w64 (by omega) (by omega)
   have y2 : wrap64 v = v := w64 (by omega) (by omega)
   have y3 : wrap64 q = q := w64 (by omega) (by omega)
   have y4 : wrap64 (u * 31) = u * 31 := w64 (by omega) (by omega)
   rw [y1, y2, y3, y4]
   have y5 : wrap64 (u * 31 + v) = u * 31 + v := w64 (by omega) (by omega)
   rw [y5]
   have y6 : wrap64 (u * 31 + v + q) = u * 31 + v + q := w64 (by omega) (by omega)
   rw [y6]
   have := tmod_range (show 0 ≤ u * 31 + v + q by omega) (show 0 < n by omega)
   exact ⟨_, rfl, this.1, fun h => absurd h c1, fun _ => this.2⟩
end Go.Proofs.YtniceoohmhjjlaaGreatDoor.Q
