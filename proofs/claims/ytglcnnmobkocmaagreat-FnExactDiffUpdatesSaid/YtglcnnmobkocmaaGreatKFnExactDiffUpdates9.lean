/- What laws.FnExactDiffUpdates reaches, part 9: the functions as Lean functions, the proofs that the program's functions answer so, and plain laws about them. -/
import Derived.Test.YtglcnnmobkocmaaGreatKFnExactDiffUpdates1
import Derived.Test.YtglcnnmobkocmaaGreatKFnExactDiffUpdates2
import Derived.Test.YtglcnnmobkocmaaGreatKFnExactDiffUpdates3
import Derived.Test.YtglcnnmobkocmaaGreatKFnExactDiffUpdates4
import Derived.Test.YtglcnnmobkocmaaGreatKFnExactDiffUpdates5
import Derived.Test.YtglcnnmobkocmaaGreatKFnExactDiffUpdates6
import Derived.Test.YtglcnnmobkocmaaGreatKFnExactDiffUpdates7
namespace Go.Proofs.YtglcnnmobkocmaaGreat.Q
open Go.RowKit Go.Proofs.YtglcnnmobkocmaaGreat.Ext Go.Proofs.YtglcnnmobkocmaaGreatW.PrintWords Go.Proofs.YtglcnnmobkocmaaGreatW.PrintLast Go.Proofs.YtglcnnmobkocmaaGreatW.PrintMore
attribute [local go_sem] max2_int min2_int max_two min_two max_three min_three max_four min_four   -- for this text's walks alone
set_option linter.unusedVariables false
set_option linter.unusedSimpArgs false

set_option linter.unusedVariables false
set_option linter.unusedSimpArgs false
def okI (x : Int) : Prop := (Lit.int .i64 x).wf = true
def okU8 (x : Int) : Prop := (Lit.int .u8 x).wf = true
def okB (_ : Bool) : Prop := True
def okS (x : ByteArray) : Prop := x.size ≤ maxLen
theorem w64 {n : Int} (h0 : -9223372036854775808 ≤ n) (h1 : n ≤ 9223372036854775807) : wrap64 n = n := by unfold wrap64; omega
theorem okI_iff {n : Int} (h : (Lit.int .i64 n).wf = true) : -9223372036854775808 ≤ n ∧ n ≤ 9223372036854775807 := by
 simp [Lit.wf, IntKind.min, IntKind.max, IntKind.signed, IntKind.bits] at h
 omega
theorem Ev.k {α : Type} {g : Nat → Option α} {r : α} (K : Nat) (h : ∀ k, K ≤ k → g k = some r) : Ev g r := ⟨K, h⟩
theorem ev_some {α : Type} (r : α) : Ev (fun _ => some r) r := ⟨0, fun _ _ => rfl⟩
theorem ev_of_eq {α : Type} {g : Nat → Option α} {r : α} (h : ∀ k, g k = some r) : Ev g r := ⟨0, fun k _ => h k⟩
theorem ev_bind {α β : Type} {g : Nat → Option α} {f : Nat → α → Option β} {a : α} {r : β} (h : Ev g a) (k : Ev (fun n => f n a) r) : Ev (fun n => (g n).bind (f n)) r := Ev.bind h k
theorem ev_if {α : Type} {c : Prop} [Decidable c] {g f : Nat → Option α} {r : α} (h : c → Ev g r) (h' : ¬ c → Ev f r) : Ev (fun n => if c then g n else f n) r := by
 by_cases hc : c
 ·simp only [if_pos hc]; exact h hc
 ·simp only [if_neg hc]; exact h' hc
theorem ev_pos {α : Type} {c : Prop} [Decidable c] {g f : Nat → Option α} {r : α} (hc : c) (h : Ev g r) : Ev (fun n => if c then g n else f n) r := by
 simp only [if_pos hc]; exact h
theorem ev_neg {α : Type} {c : Prop} [Decidable c] {g f : Nat → Option α} {r : α} (hc : ¬ c) (h : Ev f r) : Ev (fun n => if c then g n else f n) r := by
 simp only [if_neg hc]; exact h
theorem strOfNums_size (l : List Int) : (strOfNums l).size = l.length := by show (List.map _ l).toArray.size = _; simp
theorem ba_size_append (a b : ByteArray) : (a ++ b).size = a.size + b.size := by simp
theorem toList_inj {a b : ByteArray} : a.toList = b.toList ↔ a = b := by
 constructor
 ·intro h
  have h1 : a.data.toList = b.data.toList := by simpa [ByteArray.toList_eq] using h
  have : a.data = b.data := Array.toList_inj.1 h1
  cases a; cases b; simp_all
 ·rintro rfl; rfl
def inB (n a b : Int) : Bool := decide (a ≤ n) && decide (n ≤ b)
theorem inB_iff {n a b : Int} : inB n a b = true ↔ a ≤ n ∧ n ≤ b := by simp [inB]
theorem inB_no {n a b : Int} : inB n a b = false ↔ ¬ (a ≤ n ∧ n ≤ b) := by rw [← inB_iff]; simp
theorem l01In_eq (n a b : Int) : spec_l01In.f n a b = some (inB n a b) := by
 unfold spec_l01In.f inB; by_cases h : a ≤ n <;> simp [h]
theorem within_eq (n a b : Int) : impl_within.f n a b = some (inB n a b) := by
 unfold impl_within.f inB; by_cases h : a ≤ n <;> simp [h]
theorem and_opt {b : Bool} {c : Option Bool} {c' : Bool} (h : c = some c') : (if b = true then c else some false) = some (b && c') := by
 cases b <;> simp [h]
theorem ev_loop {α : Type} {g : Nat → Nat → Option α} {r : α} (n : Nat) (hend : Ev (fun k => g k n) r) (hstep : ∀ i, i < n → ∃ c, ∀ k, g (k + c) i = g k (i + 1) ∧ 1 ≤ c) : ∀ d i, i ≤ n → n - i = d → Ev (fun k => g k i) r := by
  intro d
  induction d with
  | zero =>
    intro i hi hd
    have e : i = n := by omega
    rw [e]; exact hend
  | succ d ih =>
    intro i hi hd
    obtain ⟨K, hK⟩ := ih (i + 1) (by omega) (by omega)
    obtain ⟨c, hc⟩ := hstep i (by omega)
    refine ⟨K + c, fun k hk => ?_⟩
    obtain ⟨m, rfl⟩ : ∃ m, k = m + c := ⟨k - c, by omega⟩
    show g (m + c) i = _
    rw [(hc m).1]; exact hK m (by omega)
theorem rdn (l : List Int) (i : Nat) (h : i < l.length) : rd l (i : Int) = l[i] := by simp [rd, h]
theorem wnext (i : Nat) (h : i < 1000000000000000000) : wrap64 ((i : Int) + 1) = ((i + 1 : Nat) : Int) := by rw [w64 (by omega) (by omega)]; omega
theorem eqIntS_ev (l : List Int) (hl : l.length ≤ 1000000000) : Ev (fun k => laws_eqIntS.f k l l) true := by
 unfold laws_eqIntS.f
 refine ev_pos rfl ?_
 refine ev_loop (g := fun k i => laws_eqIntS.l0 k l l (i : Int)) l.length ?_ ?_ l.length 0 (by omega) (by omega)
 ·refine Ev.step (f := fun _ => some true) (fun k => ?_) (ev_some _)
  simp only [laws_eqIntS.l0]; rw [if_neg (by omega)]
 ·intro i hi
  refine ⟨1, fun k => ⟨?_, by omega⟩⟩
  simp only [laws_eqIntS.l0]
  rw [if_pos (by omega), if_pos (by omega), if_pos (by omega), if_pos trivial, wnext i (by omega)]
/-- Consecutive numbers from a on, as many as a list has. -/
def countUp (a : Int) (n : Nat) : List Int := (List.range n).map (fun j : Nat => a + (j : Int))
theorem countUp_length (a : Int) (n : Nat) : (countUp a n).length = n := by simp [countUp]
theorem countUp_get (a : Int) (n i : Nat) (h : i < n) : (countUp a n)[i]'(by rw [countUp_length]; exact h) = a + (i : Int) := by simp [countUp]
theorem set_mid {α : Type} (l m : List α) (hlm : m.length = l.length) (i : Nat) (h : i < l.length) (x : α) (hx : m[i]'(by omega) = x) : (m.take i ++ l.drop i).set i x = m.take (i + 1) ++ l.drop (i + 1) := by
 subst hx
 rw [List.drop_eq_getElem_cons h, List.set_append_right _ _ (by rw [List.length_take]; omega)]
 have : i - (m.take i).length = 0 := by rw [List.length_take]; omega
 rw [this, zz, List.take_succ_eq_append_getElem (by omega), List.append_assoc]
 rfl
theorem Ev.succ {α : Type} {g : Nat → Option α} {r : α} (h : Ev (fun k => g (k + 1)) r) : Ev g r := Ev.step (f := fun k => g (k + 1)) (fun _ => rfl) h
theorem ev_all {α : Type} {g : Nat → Nat → Option Bool} (l : List α) (q : α → Bool) (r : Bool) (hend : Ev (fun k => g k l.length) r) (hstep : ∀ i (h : i < l.length) k, g (k + 1) i = if q l[i] = true then g k (i + 1) else some false) : Ev (fun k => g k 0) (l.all q && r) := by
  have hgo : ∀ d i, i ≤ l.length → l.length - i = d → Ev (fun k => g k i) ((l.drop i).all q && r) := by
    intro d
    induction d with
    | zero =>
      intro i hi hd
      have e : i = l.length := by omega
      subst e
      rw [List.drop_of_length_le (by omega)]; simp only [List.all_nil, Bool.true_and]; exact hend
    | succ d ih =>
      intro i hi hd
      have hlt : i < l.length := by omega
      refine Ev.step (f := fun k => if q l[i] = true then g k (i + 1) else some false) (hstep i hlt) ?_
      rw [List.drop_eq_getElem_cons hlt, List.all_cons]
      cases hq : q l[i]
      · simp only [Bool.false_and, Bool.false_eq_true, if_false]; exact ev_some _
      · simp only [Bool.true_and, if_true]; exact ih (i + 1) (by omega) (by omega)
  have := hgo l.length 0 (by omega) (by omega)
  rwa [List.drop_zero] at this
theorem ev_asks {α β : Type} {g : Nat → Nat → Option β} (l : List α) (q : α → Bool) (r bad : β) (hend : Ev (fun k => g k l.length) r) (hstep : ∀ i (h : i < l.length) k, g (k + 1) i = if q l[i] = true then g k (i + 1) else some bad) : Ev (fun k => g k 0) (if l.all q = true then r else bad) := by
  have hgo : ∀ d i, i ≤ l.length → l.length - i = d → Ev (fun k => g k i) (if (l.drop i).all q = true then r else bad) := by
    intro d
    induction d with
    | zero =>
      intro i hi hd
      have e : i = l.length := by omega
      subst e
      rw [List.drop_of_length_le (by omega)]; simp only [List.all_nil, if_true]; exact hend
    | succ d ih =>
      intro i hi hd
      have hlt : i < l.length := by omega
      refine Ev.step (f := fun k => if q l[i] = true then g k (i + 1) else some bad) (hstep i hlt) ?_
      rw [List.drop_eq_getElem_cons hlt, List.all_cons]
      cases hq : q l[i]
      · simp only [Bool.false_and, Bool.false_eq_true, if_false]; exact ev_some _
      · simp only [Bool.true_and, if_true]; exact ih (i + 1) (by omega) (by omega)
  have := hgo l.length 0 (by omega) (by omega)
  rwa [List.drop_zero] at this
theorem compactI_full (zs : List Int) : (Lib.compact zs).length = zs.length ↔ ∀ j, j < zs.length → Lib.keeps zs.toArray j = true := by
 unfold Lib.compact Lib.compactUpTo
 rw [List.length_map]
 constructor
 ·intro h j hj
  have h2 : ((List.range zs.length).filter (Lib.keeps zs.toArray)).length = (List.range zs.length).length := by rw [h, List.length_range]
  exact (List.length_filter_eq_length_iff.1 h2) j (List.mem_range.2 hj)
 ·intro h
  have : ((List.range zs.length).filter (Lib.keeps zs.toArray)).length = (List.range zs.length).length := List.length_filter_eq_length_iff.2 (fun j hj => h j (List.mem_range.1 hj))
  rw [this, List.length_range]
theorem sortedI_nodup (ss : List Int) : (Lib.compact (ss.mergeSort fun x y => decide (x ≤ y))).length = ss.length ↔ ss.Nodup := by
 have hp := List.mergeSort_perm ss (fun x y => decide (x ≤ y))
 have hs : (ss.mergeSort fun x y => decide (x ≤ y)).Pairwise (fun x y => decide (x ≤ y) = true) := List.pairwise_mergeSort (fun a b c h1 h2 => by
  simp only [decide_eq_true_eq] at *; exact Int.le_trans h1 h2) (fun a b => by
  simp only [Bool.or_eq_true, decide_eq_true_eq]; exact Int.le_total a b) ss
 rw [← hp.nodup_iff, ← hp.length_eq, compactI_full]
 generalize (ss.mergeSort fun x y => decide (x ≤ y)) = s at hs
 have hle : ∀ i j (hi : i < j) (hj : j < s.length), s[i] ≤ s[j] := fun i j hi hj => by
  have := List.pairwise_iff_getElem.1 hs i j (by omega) hj hi
  simpa using this
 constructor
 ·intro h
  rw [List.nodup_iff_pairwise_ne, List.pairwise_iff_getElem]
  intro i j hi hj hij e
  have h1 := h (i + 1) (by omega)
  have h2 : s[i]'hi = s[i + 1]'(by omega) := by
   refine Int.le_antisymm (hle i (i + 1) (by omega) (by omega)) ?_
   by_cases c : i + 1 = j
   ·subst c; rw [e]; exact Int.le_refl _
   ·rw [e]; exact hle (i + 1) j (by omega) hj
  simp [Lib.keeps, h2, show i + 1 < s.length by omega, show i < s.length from hi] at h1
 ·intro h j hj
  by_cases c : j = 0
  ·subst c; simp [Lib.keeps]
  ·have hne : s[j]'hj ≠ s[j - 1]'(by omega) := by
    intro e
    have := List.pairwise_iff_getElem.1 (List.nodup_iff_pairwise_ne.1 h) (j - 1) j (by omega) hj (by omega)
    exact this e.symm
   simp [Lib.keeps, hj, show j - 1 < s.length by omega, hne]
def tableOK (l : List Int) : Bool := decide ((l.length : Int) ≤ 12) && l.all (fun n => inB n 0 25)
theorem spec_TableOK_ev (l : List Int) (hl : l.length ≤ 1000000000) : Ev (fun k => spec_TableOK.f k l) (tableOK l) := by
  unfold spec_TableOK.f
  by_cases h : (l.length : Int) > 4096
  · have : tableOK l = false := by unfold tableOK; rw [decide_eq_false (by omega)]; rfl
    rw [this]; exact ev_pos h (ev_some _)
  · refine ev_neg h ?_
    have hgo : ∀ d i, i ≤ l.length → l.length - i = d → Ev (fun k => spec_TableOK.l0 k l (i : Int)) ((l.drop i).all (fun n => inB n 0 25) && decide ((l.length : Int) ≤ 12)) := by
      intro d
      induction d with
      | zero =>
        intro i hi hd
        refine Ev.step (f := fun _ => some (decide ((l.length : Int) ≤ 12))) (fun k => ?_) ?_
        · simp only [spec_TableOK.l0]; rw [if_neg (by omega)]
        · rw [List.drop_of_length_le (by omega)]; simp only [List.all_nil, Bool.true_and]; exact ev_some _
      | succ d ih =>
        intro i hi hd
        have hlt : i < l.length := by omega
        refine Ev.step (f := fun k => if inB l[i] 0 25 = true then spec_TableOK.l0 k l ((i + 1 : Nat) : Int) else some false) (fun k => ?_) ?_
        · simp only [spec_TableOK.l0, l01In_eq, Option.bind_some]
          rw [if_pos (by omega), if_pos (by omega), rdn l i hlt, wnext i (by omega)]
        · rw [List.drop_eq_getElem_cons hlt, List.all_cons]
          cases hq : inB l[i] 0 25
          · simp only [Bool.false_and]; exact ev_some _
          · simp only [Bool.true_and]; exact ih (i + 1) (by omega) (by omega)
    have := hgo l.length 0 (by omega) (by omega)
    rw [List.drop_zero, Bool.and_comm] at this
    exact this
theorem impl_TableOK_eq (l : List Int) : impl_TableOK.f l = some (tableOK l) := by
 unfold impl_TableOK.f tableOK
 have ha : all80_impl_TableOK_1.f l () = some (l.all (fun n => inB n 0 25)) := by
  unfold all80_impl_TableOK_1.f; exact allO_some _ _ (fun x _ => by simp only [impl_TableOK_1.f, within_eq, Option.bind_some])
 by_cases h : (l.length : Int) ≤ 12
 ·rw [if_pos h, ha]; simp [h]
 ·rw [if_neg h]; simp [h]
theorem ev_down {α : Type} {g : Nat → Nat → Option α} {r : α} (n : Nat) (hend : Ev (fun k => g k n) r) (hstep : ∀ i, i < n → Ev (fun k => g k (i + 1)) r → Ev (fun k => g k i) r) : Ev (fun k => g k 0) r := by
  have : ∀ d i, i ≤ n → n - i = d → Ev (fun k => g k i) r := by
    intro d
    induction d with
    | zero => intro i hi hd; have e : i = n := by omega
              rw [e]; exact hend
    | succ d ih => intro i hi hd; exact hstep i (by omega) (ih (i + 1) (by omega) (by omega))
  exact this n 0 (by omega) (by omega)
theorem markText_from : ∀ (d : Nat) (x : Int) (t : ByteArray), 0 ≤ x → x.toNat ≤ d → (t.size : Int) + x ≤ 1000000000000000 → ∃ r, Ev (fun k => laws_markText.l0 k x t) r := by
  intro d
  induction d with
  | zero =>
    intro x t h0 hd hs
    have e : x = 0 := by omega
    subst e
    refine ⟨(⟨#[109]⟩ : ByteArray) ++ t, Ev.step (f := fun _ => some ((⟨#[109]⟩ : ByteArray) ++ t)) (fun k => ?_) (ev_some _)⟩
    simp only [laws_markText.l0]
    rw [if_neg (by omega), if_pos (by omega)]
  | succ d ih =>
    intro x t h0 hd hs
    by_cases hx : x > 0
    · have hq : Int.tdiv x 10 = x / 10 := Int.tdiv_eq_ediv_of_nonneg h0
      have h1 : 0 ≤ x / 10 := by omega
      have hz : (strOfNums [(wrap64 (48 + (Int.tmod x 10))) % 256]).size = 1 := by rw [strOfNums_size]; rfl
      have hz2 : ((strOfNums [(wrap64 (48 + (Int.tmod x 10))) % 256]) ++ t).size = 1 + t.size := by rw [ba_size_append, hz]
      obtain ⟨r, hr⟩ := ih (x / 10) ((strOfNums [(wrap64 (48 + (Int.tmod x 10))) % 256]) ++ t) h1 (by omega) (by rw [hz2]; omega)
      refine ⟨r, Ev.step (f := fun k => laws_markText.l0 k (x / 10) ((strOfNums [(wrap64 (48 + (Int.tmod x 10))) % 256]) ++ t)) (fun k => ?_) hr⟩
      simp only [laws_markText.l0, Option.bind_some]
      rw [if_pos hx, if_pos (by rw [hz]; omega), hq, w64 (n := x / 10) (by omega) (by omega)]
    · refine ⟨(⟨#[109]⟩ : ByteArray) ++ t, Ev.step (f := fun _ => some ((⟨#[109]⟩ : ByteArray) ++ t)) (fun k => ?_) (ev_some _)⟩
      simp only [laws_markText.l0]
      rw [if_neg hx, if_pos (by omega)]
theorem markText_total (n : Int) (h : n ≤ 100000000000000) : ∃ r, Ev (fun k => laws_markText.f k n) r := by
 unfold laws_markText.f
 by_cases hn : n ≤ 0
 ·exact ⟨_, ev_pos hn (ev_some _)⟩
 ·obtain ⟨r, hr⟩ := markText_from n.toNat n (⟨#[]⟩ : ByteArray) (by omega) (by omega) (by show ((0 : Nat) : Int) + n ≤ _; omega)
  exact ⟨r, ev_neg hn hr⟩
open Classical in
noncomputable def mText (n : Int) : ByteArray := if h : ∃ r, Ev (fun k => laws_markText.f k n) r then h.choose else ByteArray.empty
theorem mText_ev (n : Int) (h : n ≤ 100000000000000) : Ev (fun k => laws_markText.f k n) (mText n) := by
 have := markText_total n h
 unfold mText
 rw [dif_pos this]; exact this.choose_spec
theorem szIntS_eq (l : List Int) (hl : l.length ≤ maxLen) (a : Int) (h0 : 0 ≤ a) (ha : a ≤ 1048576) : laws_szIntS.f l a = some (if a - (l.length : Int) < 0 then -1 else a - (l.length : Int)) := by
 have hM : maxLen = 9223372036854775807 := rfl
 unfold laws_szIntS.f
 rw [w64 (n := a - (l.length : Int)) (by omega) (by omega)]
 split <;> rfl
theorem toIntS_ev (l : List Int) (hl : l.length ≤ 1048576) : Ev (fun k => laws_toIntS.f k l) l := by
 unfold laws_toIntS.f
 refine ev_pos (by omega) (ev_pos (by omega) ?_)
 rw [Int.toNat_natCast]
 have hc : l.length = (List.replicate l.length (0 : Int)).length := by simp
 have h := ev_loop (g := fun k i => laws_toIntS.l0 k l (l.take i ++ (List.replicate l.length (0 : Int)).drop i) (i : Int)) (r := l) l.length ?_ ?_ l.length 0 (by omega) (by omega)
 ·simpa using h
 ·refine Ev.step (f := fun _ => some l) (fun k => ?_) (ev_some _)
  simp only [laws_toIntS.l0]
  rw [if_neg (by omega), List.drop_of_length_le (by simp), List.take_of_length_le (by simp)]; simp
 ·intro i hi
  refine ⟨1, fun k => ⟨?_, by omega⟩⟩
  simp only [laws_toIntS.l0]
  have hlen : (l.take i ++ (List.replicate l.length (0 : Int)).drop i).length = l.length := by simp; omega
  rw [if_pos (by omega), if_pos (by omega), if_pos (by rw [hlen]; omega), rdn l i hi, Int.toNat_natCast, set_mid _ _ hc i (by simpa using hi) _ rfl, wnext i (by omega)]
theorem rdE_Snap (l : List S103) (i : Nat) (h : i < l.length) : rd_T103 l (i : Int) = l[i] := by simp [rd_T103, h]
theorem rdP_Snap (l : List S102) (i : Nat) (h : i < l.length) : rd_T102 l (i : Int) = l[i] := by simp [rd_T102, h]
def cvSnap (x : S102) : S103 := ⟨x.f0, x.f1⟩
theorem szSnap_le (x : S102) (h0 : x.f0.size ≤ maxLen) (h1 : x.f1.length ≤ maxLen) (a : Int) (ha0 : 0 ≤ a) (ha : a ≤ 1048576) : ∃ s, laws_szSnap.f x.f0 x.f1 a = some s ∧ (s < 0 ∨ (0 ≤ s ∧ s ≤ a ∧ (x.f0.size : Int) ≤ a ∧ (x.f1.length : Int) ≤ a)) := by
 have hM : maxLen = 9223372036854775807 := rfl
 unfold laws_szSnap.f
 rw [w64 (n := a - (x.f0.size : Int)) (by omega) (by omega)]
 by_cases c : a - (x.f0.size : Int) < 0
 ·rw [if_pos c]; exact ⟨-1, rfl, Or.inl (by omega)⟩
 ·rw [if_neg c, szIntS_eq x.f1 h1 _ (by omega) (by omega), Option.bind_some]
  by_cases c2 : a - (x.f0.size : Int) - (x.f1.length : Int) < 0
  ·rw [if_pos c2, if_pos (by omega)]; exact ⟨-1, rfl, Or.inl (by omega)⟩
  ·rw [if_neg c2, if_neg c2]; exact ⟨_, rfl, Or.inr ⟨by omega, by omega, by omega, by omega⟩⟩
theorem szSnapS_from (l : List S102) (hs : ∀ x ∈ l, x.f0.size ≤ maxLen ∧ x.f1.length ≤ maxLen) (hl : l.length ≤ 1048576) : ∀ d i (x : Int), 0 ≤ x → x ≤ 1048576 → i ≤ l.length → l.length - i = d → ∃ s, Ev (fun k => laws_szSnapS.l0 k l x (i : Int)) s ∧ (s < 0 ∨ (s ≤ x ∧ 0 ≤ s ∧ ∀ j (h : j < l.length), i ≤ j → (l[j].f0.size : Int) ≤ x ∧ (l[j].f1.length : Int) ≤ x)) := by
  intro d
  induction d with
  | zero =>
    intro i x h0 hx hi hd
    refine ⟨x, Ev.step (f := fun _ => some x) (fun k => ?_) (ev_some _), Or.inr ⟨by omega, h0, fun j hj hij => absurd hj (by omega)⟩⟩
    simp only [laws_szSnapS.l0]; rw [if_neg (by omega)]
  | succ d ih =>
    intro i x h0 hx hi hd
    have hlt : i < l.length := by omega
    have hz := hs l[i] (List.getElem_mem hlt)
    obtain ⟨s, e, hb⟩ := szSnap_le l[i] hz.1 hz.2 x h0 hx
    by_cases hc : s < 0
    · refine ⟨-1, Ev.step (f := fun _ => some (-1)) (fun k => ?_) (ev_some _), Or.inl (by omega)⟩
      simp only [laws_szSnapS.l0]
      rw [if_pos (by omega), if_pos (by omega), rdP_Snap l i hlt, e, Option.bind_some, if_pos hc]
    · rcases hb with hb | ⟨b0, b1, b2, b3⟩
      · exact absurd hb hc
      · obtain ⟨s', h1, h2⟩ := ih (i + 1) s b0 (by omega) (by omega) (by omega)
        refine ⟨s', Ev.step (f := fun k => laws_szSnapS.l0 k l s ((i + 1 : Nat) : Int)) (fun k => ?_) h1, ?_⟩
        · simp only [laws_szSnapS.l0]
          rw [if_pos (by omega), if_pos (by omega), rdP_Snap l i hlt, e, Option.bind_some, if_neg hc, wnext i (by omega)]
        · rcases h2 with h2 | ⟨h2, h3, h4⟩
          · exact Or.inl h2
          · refine Or.inr ⟨by omega, h3, fun j hj hij => ?_⟩
            rcases Nat.eq_or_lt_of_le hij with e' | e'
            · subst e'; exact ⟨b2, b3⟩
            · have := h4 j hj e'; omega
theorem szSnapS_ev (l : List S102) (hs : ∀ x ∈ l, x.f0.size ≤ maxLen ∧ x.f1.length ≤ maxLen) (hm : l.length ≤ maxLen) (a : Int) (h0 : 0 ≤ a) (ha : a ≤ 1048576) : ∃ s, Ev (fun k => laws_szSnapS.f k l a) s ∧ (s < 0 ∨ (s ≤ a ∧ 0 ≤ s ∧ (l.length : Int) ≤ a ∧ ∀ x ∈ l, (x.f0.size : Int) ≤ a ∧ (x.f1.length : Int) ≤ a)) := by
 have hM : maxLen = 9223372036854775807 := rfl
 unfold laws_szSnapS.f
 rw [w64 (n := a - (l.length : Int)) (by omega) (by omega)]
 by_cases hc : a - (l.length : Int) < 0
 ·exact ⟨-1, ev_pos hc (ev_some _), Or.inl (by omega)⟩
 ·obtain ⟨s, h1, h2⟩ := szSnapS_from l hs (by omega) l.length 0 (a - (l.length : Int)) (by omega) (by omega) (by omega) (by omega)
  refine ⟨s, ev_neg hc h1, ?_⟩
  rcases h2 with h2 | ⟨h2, h3, h4⟩
  ·exact Or.inl h2
  ·refine Or.inr ⟨by omega, h3, by omega, fun x hx => ?_⟩
   obtain ⟨j, hj, rfl⟩ := List.getElem_of_mem hx
   have := h4 j hj (by omega); omega
theorem toSnapS_ev (l : List S102) (hl : l.length ≤ 1048576) (hs : ∀ x ∈ l, x.f1.length ≤ 1048576) : Ev (fun k => laws_toSnapS.f k l) (l.map cvSnap) := by
 unfold laws_toSnapS.f
 refine ev_pos (by omega) (ev_pos (by omega) ?_)
 rw [Int.toNat_natCast]
 have hc : (l.map cvSnap).length = (List.replicate l.length z103).length := by simp
 have h := ev_down (g := fun k i => laws_toSnapS.l0 k l ((l.map cvSnap).take i ++ (List.replicate l.length z103).drop i) (i : Int)) (r := l.map cvSnap) l.length ?_ ?_
 ·simpa using h
 ·refine Ev.step (f := fun _ => some (l.map cvSnap)) (fun k => ?_) (ev_some _)
  simp only [laws_toSnapS.l0]
  rw [if_neg (by omega), List.drop_of_length_le (by simp), List.take_of_length_le (by simp)]; simp
 ·intro i hi h
  have hlen : ((l.map cvSnap).take i ++ (List.replicate l.length z103).drop i).length = l.length := by simp; omega
  refine Ev.succ ?_
  simp only [laws_toSnapS.l0, laws_toSnap.f, rdP_Snap l i hi]
  refine ev_pos (by omega) (ev_pos (by omega) (ev_bind (ev_bind (toIntS_ev l[i].f1 (hs _ (List.getElem_mem hi))) (ev_some _)) (ev_pos (by rw [hlen]; omega) ?_)))
  rw [Int.toNat_natCast, set_mid _ _ hc i (by simpa using hi) _ (by simp [cvSnap]), wnext i (by omega)]
  exact h
theorem eqSnapS_ev (l : List S103) (hl : l.length ≤ 1000000000) (hs : ∀ x ∈ l, x.f1.length ≤ 1000000000) : Ev (fun k => laws_eqSnapS.f k l l) true := by
 unfold laws_eqSnapS.f
 refine ev_pos rfl ?_
 refine ev_down (g := fun k i => laws_eqSnapS.l0 k l l (i : Int)) l.length ?_ ?_
 ·refine Ev.step (f := fun _ => some true) (fun k => ?_) (ev_some _)
  simp only [laws_eqSnapS.l0]; rw [if_neg (by omega)]
 ·intro i hi h
  refine Ev.succ ?_
  simp only [laws_eqSnapS.l0, laws_eqSnap.f, rdE_Snap l i hi, wnext i (show i < 1000000000000000000 by omega), if_true]
  exact ev_pos (by omega) (ev_pos (by omega) (ev_pos (by omega) (ev_bind (ev_bind (eqIntS_ev _ (hs _ (List.getElem_mem hi))) (ev_pos rfl (ev_some _))) (ev_pos rfl h))))
def clu (l : List Int) : List Int := (l.filter (fun n => decide (n ≥ 2))).map (fun n => wrap64 (n - 2))
theorem clu_take (l : List Int) (i : Nat) (h : i < l.length) : clu (l.take (i + 1)) = if l[i] ≥ 2 then clu (l.take i) ++ [wrap64 (l[i] - 2)] else clu (l.take i) := by
 unfold clu
 rw [List.take_succ_eq_append_getElem h, List.filter_append, List.map_append]
 by_cases c : l[i] ≥ 2
 ·rw [if_pos c]; simp [c]
 ·rw [if_neg c]; simp [c]
theorem clu_length (l : List Int) : (clu l).length ≤ l.length := by unfold clu; rw [List.length_map]; exact List.length_filter_le _ _
theorem clu_take_length (l : List Int) (i : Nat) : (clu (l.take i)).length ≤ l.length := Nat.le_trans (clu_length _) (by simp; omega)
theorem spec_clu_ev (l : List Int) (hl : l.length ≤ 1000000000) : Ev (fun k => spec_l09Clusters.f k l) (clu l) := by
 unfold spec_l09Clusters.f
 have h := ev_loop (g := fun k i => spec_l09Clusters.l0 k l (clu (l.take i)) (i : Int)) (r := clu l) l.length ?_ ?_ l.length 0 (by omega) (by omega)
 ·simpa [clu] using h
 ·refine Ev.step (f := fun _ => some (clu l)) (fun k => ?_) (ev_some _)
  simp only [spec_l09Clusters.l0]; rw [if_neg (by omega), List.take_of_length_le (by omega)]
 ·intro i hi
  have hb := clu_take_length l i
  refine ⟨1, fun k => ⟨?_, by omega⟩⟩
  simp only [spec_l09Clusters.l0]
  rw [if_pos (by omega), if_pos (by omega), rdn l i hi, wnext i (by omega), clu_take l i hi]
  by_cases c : l[i] ≥ 2
  ·rw [if_pos c, if_pos c, if_pos (by omega)]
  ·rw [if_neg c, if_neg c]
theorem impl_clu_ev (l : List Int) (hl : l.length ≤ 1000000000) : Ev (fun k => impl_clusters.f k l) (clu l) := by
 unfold impl_clusters.f
 have h := ev_loop (g := fun k i => impl_clusters.l0 k (clu (l.take i)) l (l.length : Int) (i : Int)) (r := clu l) l.length ?_ ?_ l.length 0 (by omega) (by omega)
 ·simpa [clu] using h
 ·refine Ev.step (f := fun _ => some (clu l)) (fun k => ?_) (ev_some _)
  simp only [impl_clusters.l0]; rw [if_neg (by omega), List.take_of_length_le (by omega)]
 ·intro i hi
  have hb := clu_take_length l i
  refine ⟨1, fun k => ⟨?_, by omega⟩⟩
  simp only [impl_clusters.l0]
  rw [if_pos (by omega), if_pos (by omega), if_pos (by omega), rdn l i hi, wnext i (by omega), clu_take l i hi]
  by_cases c : l[i] ≥ 2
  ·rw [if_pos c, if_pos c, if_pos (by omega)]
  ·rw [if_neg c, if_neg c]
theorem ev_askE {β : Type} {g : Nat → Nat → Option β} (n : Nat) (P : Nat → Bool) (r bad : β) (hend : Ev (fun k => g k n) r) (hstep : ∀ i, i < n → ∀ b, Ev (fun k => g k (i + 1)) b → Ev (fun k => g k i) (if P i = true then b else bad)) : Ev (fun k => g k 0) (if (List.range n).all P = true then r else bad) := by
  have hgo : ∀ d i, i ≤ n → n - i = d → Ev (fun k => g k i) (if ((List.range n).drop i).all P = true then r else bad) := by
    intro d
    induction d with
    | zero =>
      intro i hi hd
      have e : i = n := by omega
      subst e
      rw [List.drop_of_length_le (by simp)]; simp only [List.all_nil, if_true]; exact hend
    | succ d ih =>
      intro i hi hd
      have hlt : i < (List.range n).length := by simp; omega
      have := hstep i (by omega) _ (ih (i + 1) (by omega) (by omega))
      rw [List.drop_eq_getElem_cons hlt, List.all_cons, List.getElem_range]
      cases hq : P i
      · rw [hq] at this; simpa using this
      · rw [hq] at this; simpa using this
  have := hgo n 0 (by omega) (by omega)
  rwa [List.drop_zero] at this
theorem apart_nodup (l : List Int) : (List.range l.length).all (fun i => (List.range i).all (fun j => decide (rd l (i : Int) ≠ rd l (j : Int)))) = decide l.Nodup := by
 rw [Bool.eq_iff_iff, decide_eq_true_eq, List.nodup_iff_pairwise_ne, List.pairwise_iff_getElem]
 simp only [List.all_eq_true, List.mem_range, decide_eq_true_eq]
 constructor
 ·intro h i j hi hj hij e
  have := h j hj i hij
  rw [rdn l j hj, rdn l i hi] at this
  exact this e.symm
 ·intro h j hj i hij
  rw [rdn l j hj, rdn l i (by omega)]
  exact fun e => h i j (by omega) hj hij e.symm
theorem spec_twice_ev (l : List Int) (hl : l.length ≤ 1000000000) : Ev (fun k => spec_l10Twice.f k l) (!decide (clu l).Nodup) := by
 unfold spec_l10Twice.f
 refine ev_bind (spec_clu_ev l hl) ?_
 have ht := clu_length l
 generalize clu l = t at ht
 have h := ev_askE (g := fun k i => spec_l10Twice.l0 k t (i : Int)) t.length (fun i => (List.range i).all (fun j => decide (rd t (i : Int) ≠ rd t (j : Int)))) false true ?_ ?_
 ·rw [apart_nodup] at h
  have e : (if decide t.Nodup = true then false else true) = !decide t.Nodup := by cases decide t.Nodup <;> rfl
  rw [e] at h; exact h
 ·refine Ev.step (f := fun _ => some false) (fun k => ?_) (ev_some _)
  simp only [spec_l10Twice.l0]; rw [if_neg (by omega)]
 ·intro i hi b hb
  refine Ev.succ ?_
  simp only [spec_l10Twice.l0]
  refine ev_pos (by omega) ?_
  have := ev_asks (g := fun k j => spec_l10Twice.l1 k t (i : Int) (j : Int)) (List.range i) (fun j => decide (rd t (i : Int) ≠ rd t (j : Int))) b true ?_ ?_
  ·exact this
  ·rw [List.length_range]
   refine Ev.step (f := fun k => spec_l10Twice.l0 k t ((i + 1 : Nat) : Int)) (fun k => ?_) hb
   simp only [spec_l10Twice.l1]; rw [if_neg (by omega), wnext i (by omega)]
  ·intro j hj k
   rw [List.length_range] at hj
   simp only [spec_l10Twice.l1, List.getElem_range]
   rw [if_pos (by omega), if_pos (by omega), if_pos (by omega), if_pos (by omega), if_pos (by omega), wnext j (by omega)]
   by_cases c : rd t (i : Int) = rd t (j : Int)
   ·rw [if_pos c, if_neg (by simp [c])]
   ·rw [if_neg c, if_pos (by simp [c])]
theorem clu_in {l : List Int} (h : tableOK l = true) : ∀ c ∈ clu l, 0 ≤ c ∧ c < 24 := by
 unfold tableOK at h
 simp only [Bool.and_eq_true, List.all_eq_true] at h
 intro c hc
 obtain ⟨x, hx, rfl⟩ := List.mem_map.1 hc
 obtain ⟨hx1, hx2⟩ := List.mem_filter.1 hx
 have := inB_iff.1 (h.2 x hx1)
 have h2 := of_decide_eq_true hx2
 rw [w64 (by omega) (by omega)]; omega
def bump (o : List Int) (c : Int) : List Int := o.set c.toNat (wrap64 (rd o c + 1))
def cnt (o : List Int) (cs : List Int) : List Int := cs.foldl bump o
def cntT (o : List Int) (ts : List (List Int)) : List Int := ts.foldl (fun o t => cnt o (clu t)) o
theorem cnt_length (o cs : List Int) : (cnt o cs).length = o.length := by
  unfold cnt
  induction cs generalizing o with
  | nil => rfl
  | cons c cs ih => rw [List.foldl_cons, ih]; simp [bump]
theorem cntT_length (o : List Int) (ts : List (List Int)) : (cntT o ts).length = o.length := by
  unfold cntT
  induction ts generalizing o with
  | nil => rfl
  | cons t ts ih => rw [List.foldl_cons, ih, cnt_length]
theorem cnt_take (o cs : List Int) (i : Nat) (h : i < cs.length) : cnt o (cs.take (i + 1)) = bump (cnt o (cs.take i)) cs[i] := by
 unfold cnt; rw [List.take_succ_eq_append_getElem h, List.foldl_append]; rfl
theorem cntT_take (o : List Int) (ts : List (List Int)) (i : Nat) (h : i < ts.length) : cntT o (ts.take (i + 1)) = cnt (cntT o (ts.take i)) (clu ts[i]) := by
 unfold cntT; rw [List.take_succ_eq_append_getElem h, List.foldl_append]; rfl
theorem rdL (ts : List (List Int)) (i : Nat) (h : i < ts.length) : rd_L3 ts (i : Int) = ts[i] := by simp [rd_L3, h]
/-- The tables of an image. -/
def tabs (T : List Int) (S : List S103) : List (List Int) := T :: S.map (·.f1)
def zeros24 : List Int := List.replicate 24 0
theorem spec_count_ev (R T : List Int) (S : List S103) (D : List Int) (hS : S.length ≤ 3) (ht : ∀ t ∈ tabs T S, tableOK t = true) : Ev (fun k => spec_l10Count.f k R T S D) (cntT zeros24 (tabs T S)) := by
 unfold spec_l10Count.f
 refine ev_pos (by omega) ?_
 have hlen : (tabs T S).length ≤ 4 := by simp [tabs]; omega
 have htab : ∀ t ∈ tabs T S, t.length ≤ 12 := fun t h => by
  have := ht t h
  unfold tableOK at this
  rw [Bool.and_eq_true] at this
  have := of_decide_eq_true this.1
  omega
 have h := ev_loop (g := fun k i => spec_l10Count.l0 k (List.replicate 24 0) ((tabs T S).take (i + 1)) (i : Int) R T S D) (r := cntT zeros24 (tabs T S)) S.length ?_ ?_ S.length 0 (by omega) (by omega)
 ·exact h
 ·refine Ev.step (f := fun k => spec_l10Count.l1 k (List.replicate 24 0) (tabs T S) 0) (fun k => ?_) ?_
  ·simp only [spec_l10Count.l0]; rw [if_neg (by omega), List.take_of_length_le (by simp [tabs])]
  ·generalize tabs T S = ts at ht hlen htab
   refine ev_down (g := fun k i => spec_l10Count.l1 k (cntT zeros24 (ts.take i)) ts (i : Int)) ts.length ?_ ?_
   ·refine Ev.step (f := fun _ => some (cntT zeros24 ts)) (fun k => ?_) (ev_some _)
    simp only [spec_l10Count.l1]; rw [if_neg (by omega), List.take_of_length_le (by omega)]
   ·intro i hi hr
    refine Ev.succ ?_
    simp only [spec_l10Count.l1]
    have hm := List.getElem_mem hi
    refine ev_pos (by omega) (ev_pos (by omega) ?_)
    rw [rdL ts i hi]
    refine ev_bind (spec_clu_ev _ (by have := htab _ hm; omega)) ?_
    have hc := clu_in (ht _ hm)
    have hcl : (clu ts[i]).length ≤ 12 := Nat.le_trans (clu_length _) (htab _ hm)
    rw [cntT_take _ _ _ hi] at hr
    have ho : (cntT zeros24 (ts.take i)).length = 24 := by rw [cntT_length]; rfl
    generalize clu ts[i] = cs at hc hcl hr
    generalize cntT zeros24 (ts.take i) = o at ho hr
    refine ev_down (g := fun k j => spec_l10Count.l2 k (cnt o (cs.take j)) ts (i : Int) cs (j : Int)) cs.length ?_ ?_
    ·refine Ev.step (f := fun k => spec_l10Count.l1 k (cnt o cs) ts ((i + 1 : Nat) : Int)) (fun k => ?_) hr
     simp only [spec_l10Count.l2]; rw [if_neg (by omega), List.take_of_length_le (by omega), wnext i (by omega)]
    ·intro j hj h2
     have hb := hc _ (List.getElem_mem hj)
     rw [cnt_take _ _ _ hj] at h2
     refine Ev.succ ?_
     simp only [spec_l10Count.l2, rdn cs j hj]
     refine ev_pos (by omega) (ev_pos (by omega) (ev_pos hb.1 (ev_pos (by rw [cnt_length]; omega) ?_)))
     rw [wnext j (by omega)]
     exact h2
 ·intro i hi
  refine ⟨1, fun k => ⟨?_, by omega⟩⟩
  simp only [spec_l10Count.l0]
  have hl2 : ((tabs T S).take (i + 1)).length ≤ 4 := Nat.le_trans (by rw [List.length_take]; omega) hlen
  rw [if_pos (by omega), if_pos (by omega), if_pos (by omega), wnext i (by omega), rdE_Snap S i hi, List.take_succ_eq_append_getElem (i := i + 1) (by simp [tabs]; omega)]
  simp [tabs]
theorem impl_names_ev (R T : List Int) (S : List S103) (D : List Int) (hl : S.length ≤ 1000000000) : Ev (fun k => impl_Image_names.f k R T S D) (S.map (·.f0)) := by
 unfold impl_Image_names.f
 have h := ev_loop (g := fun k i => impl_Image_names.l0 k ((S.map (·.f0)).take i) S (S.length : Int) (i : Int)) (r := S.map (·.f0)) S.length ?_ ?_ S.length 0 (by omega) (by omega)
 ·simpa using h
 ·refine Ev.step (f := fun _ => some (S.map (·.f0))) (fun k => ?_) (ev_some _)
  simp only [impl_Image_names.l0]
  rw [if_neg (by omega), List.take_of_length_le (by simp)]
 ·intro i hi
  refine ⟨1, fun k => ⟨?_, by omega⟩⟩
  simp only [impl_Image_names.l0]
  rw [if_pos (by omega), if_pos (by omega), if_pos (by omega), if_pos (by simp; omega), rdE_Snap S i hi, wnext i (by omega), List.take_succ_eq_append_getElem (by simpa using hi), List.getElem_map]
theorem impl_tables_ev (R T : List Int) (S : List S103) (D : List Int) (hl : S.length ≤ 1000000000) : Ev (fun k => impl_Image_tables.f k R T S D) (tabs T S) := by
 unfold impl_Image_tables.f
 have h := ev_loop (g := fun k i => impl_Image_tables.l0 k ((tabs T S).take (i + 1)) S (S.length : Int) (i : Int)) (r := tabs T S) S.length ?_ ?_ S.length 0 (by omega) (by omega)
 ·exact h
 ·refine Ev.step (f := fun _ => some (tabs T S)) (fun k => ?_) (ev_some _)
  simp only [impl_Image_tables.l0]
  rw [if_neg (by omega), List.take_of_length_le (by simp [tabs])]
 ·intro i hi
  refine ⟨1, fun k => ⟨?_, by omega⟩⟩
  simp only [impl_Image_tables.l0]
  have hl2 : ((tabs T S).take (i + 1)).length ≤ 1000000001 := by rw [List.length_take]; omega
  rw [if_pos (by omega), if_pos (by omega), if_pos (by omega), if_pos (by omega), wnext i (by omega), rdE_Snap S i hi, List.take_succ_eq_append_getElem (i := i + 1) (by simp [tabs]; omega)]
  simp [tabs]
theorem impl_count_ev (R T : List Int) (S : List S103) (D : List Int) (hS : S.length ≤ 3) (ht : ∀ t ∈ tabs T S, tableOK t = true) : Ev (fun k => impl_Image_counted.f k R T S D) (cntT zeros24 (tabs T S)) := by
 unfold impl_Image_counted.f
 refine ev_pos (by omega) (ev_bind (impl_tables_ev R T S D (by omega)) ?_)
 have hlen : (tabs T S).length ≤ 4 := by simp [tabs]; omega
 have htab : ∀ t ∈ tabs T S, t.length ≤ 12 := fun t h => by
  have := ht t h
  unfold tableOK at this
  rw [Bool.and_eq_true] at this
  have := of_decide_eq_true this.1
  omega
 generalize tabs T S = ts at ht hlen htab
 refine ev_down (g := fun k i => impl_Image_counted.l0 k (cntT zeros24 (ts.take i)) ts (ts.length : Int) (i : Int)) ts.length ?_ ?_
 ·refine Ev.step (f := fun _ => some (cntT zeros24 ts)) (fun k => ?_) (ev_some _)
  simp only [impl_Image_counted.l0]; rw [if_neg (by omega), List.take_of_length_le (by omega)]
 ·intro i hi hr
  refine Ev.succ ?_
  simp only [impl_Image_counted.l0]
  have hm := List.getElem_mem hi
  refine ev_pos (by omega) (ev_pos (by omega) (ev_pos (by omega) ?_))
  rw [rdL ts i hi]
  refine ev_bind (impl_clu_ev _ (by have := htab _ hm; omega)) ?_
  have hc := clu_in (ht _ hm)
  have hcl : (clu ts[i]).length ≤ 12 := Nat.le_trans (clu_length _) (htab _ hm)
  rw [cntT_take _ _ _ hi] at hr
  have ho : (cntT zeros24 (ts.take i)).length = 24 := by rw [cntT_length]; rfl
  generalize clu ts[i] = cs at hc hcl hr
  generalize cntT zeros24 (ts.take i) = o at ho hr
  refine ev_down (g := fun k j => impl_Image_counted.l1 k (cnt o (cs.take j)) ts (ts.length : Int) (i : Int) cs (cs.length : Int) (j : Int)) cs.length ?_ ?_
  ·refine Ev.step (f := fun k => impl_Image_counted.l0 k (cnt o cs) ts (ts.length : Int) ((i + 1 : Nat) : Int)) (fun k => ?_) hr
   simp only [impl_Image_counted.l1]; rw [if_neg (by omega), List.take_of_length_le (by omega), wnext i (by omega)]
  ·intro j hj h2
   have hb := hc _ (List.getElem_mem hj)
   rw [cnt_take _ _ _ hj] at h2
   refine Ev.succ ?_
   simp only [impl_Image_counted.l1, rdn cs j hj]
   refine ev_pos (by omega) (ev_pos (by omega) (ev_pos (by omega) (ev_pos hb.1 (ev_pos (by rw [cnt_length]; omega) ?_))))
   rw [wnext j (by omega)]
   exact h2
theorem compact_full (zs : List (List UInt8)) : (Lib.compact zs).length = zs.length ↔ ∀ j, j < zs.length → Lib.keeps zs.toArray j = true := by
 unfold Lib.compact Lib.compactUpTo
 rw [List.length_map]
 constructor
 ·intro h j hj
  have h2 : ((List.range zs.length).filter (Lib.keeps zs.toArray)).length = (List.range zs.length).length := by rw [h, List.length_range]
  exact (List.length_filter_eq_length_iff.1 h2) j (List.mem_range.2 hj)
 ·intro h
  have : ((List.range zs.length).filter (Lib.keeps zs.toArray)).length = (List.range zs.length).length := List.length_filter_eq_length_iff.2 (fun j hj => h j (List.mem_range.1 hj))
  rw [this, List.length_range]
theorem sorted_nodup (ss : List (List UInt8)) : (Lib.compact (ss.mergeSort fun x y => decide (x ≤ y))).length = ss.length ↔ ss.Nodup := by
 have hp := List.mergeSort_perm ss (fun x y => decide (x ≤ y))
 have hs : (ss.mergeSort fun x y => decide (x ≤ y)).Pairwise (fun x y => decide (x ≤ y) = true) := List.pairwise_mergeSort (fun a b c h1 h2 => by
  simp only [decide_eq_true_eq] at *; exact List.le_trans h1 h2) (fun a b => by
  simp only [Bool.or_eq_true, decide_eq_true_eq]; exact List.le_total a b) ss
 rw [← hp.nodup_iff, ← hp.length_eq, compact_full]
 generalize (ss.mergeSort fun x y => decide (x ≤ y)) = s at hs
 have hle : ∀ i j (hi : i < j) (hj : j < s.length), s[i] ≤ s[j] := fun i j hi hj => by
  have := List.pairwise_iff_getElem.1 hs i j (by omega) hj hi
  simpa using this
 constructor
 ·intro h
  rw [List.nodup_iff_pairwise_ne, List.pairwise_iff_getElem]
  intro i j hi hj hij e
  have h1 := h (i + 1) (by omega)
  have h2 : s[i]'hi = s[i + 1]'(by omega) := by
   refine List.le_antisymm (hle i (i + 1) (by omega) (by omega)) ?_
   by_cases c : i + 1 = j
   ·subst c; rw [e]; exact List.le_refl _
   ·rw [e]; exact hle (i + 1) j (by omega) hj
  simp [Lib.keeps, h2, show i + 1 < s.length by omega, show i < s.length from hi] at h1
 ·intro h j hj
  by_cases c : j = 0
  ·subst c; simp [Lib.keeps]
  ·have hne : s[j]'hj ≠ s[j - 1]'(by omega) := by
    intro e
    have := List.pairwise_iff_getElem.1 (List.nodup_iff_pairwise_ne.1 h) (j - 1) j (by omega) hj (by omega)
    exact this e.symm
   simp [Lib.keeps, hj, show j - 1 < s.length by omega, hne]
def nmOK (t : ByteArray) : Bool := (List.range t.size).all (fun i => inB (bt t (i : Int)) 97 122) && inB (t.size : Int) 1 6
theorem spec_Name_ev (t : ByteArray) (ht : t.size ≤ 1000000000) : Ev (fun k => spec_l10Name.f k t) (nmOK t) := by
 unfold spec_l10Name.f nmOK
 refine ev_all (g := fun k i => spec_l10Name.l0 k t (i : Int)) (List.range t.size) (fun i => inB (bt t (i : Int)) 97 122) _ ?_ ?_
 ·refine Ev.step (f := fun _ => some (inB (t.size : Int) 1 6)) (fun k => ?_) (ev_some _)
  simp only [spec_l10Name.l0, l01In_eq, Option.bind_some, List.length_range]; rw [if_neg (by omega)]
 ·intro i hi k
  rw [List.length_range] at hi
  simp only [spec_l10Name.l0, List.getElem_range]
  rw [if_pos (by omega), if_pos (by omega), wnext i (by omega)]
  unfold inB
  by_cases h1 : bt t (i : Int) < 97
  ·rw [if_pos h1, if_neg (by simp; omega)]
  ·rw [if_neg h1]
   by_cases h2 : bt t (i : Int) > 122
   ·rw [if_pos h2, if_neg (by simp; omega)]
   ·rw [if_neg h2, if_pos (by simp; omega)]
theorem impl_Name_ev (t : ByteArray) (ht : t.size ≤ 1000000000) : Ev (fun k => impl_snapNameOK.f k t) (nmOK t) := by
 unfold impl_snapNameOK.f nmOK
 refine ev_all (g := fun k i => impl_snapNameOK.l0 k t (t.size : Int) (i : Int)) (List.range t.size) (fun i => inB (bt t (i : Int)) 97 122) _ ?_ ?_
 ·refine Ev.step (f := fun _ => some (inB (t.size : Int) 1 6)) (fun k => ?_) (ev_some _)
  simp only [impl_snapNameOK.l0, within_eq, Option.bind_some, List.length_range]; rw [if_neg (by omega)]
 ·intro i hi k
  rw [List.length_range] at hi
  simp only [impl_snapNameOK.l0, List.getElem_range]
  rw [if_pos (by omega), if_pos (by omega), if_pos (by omega), wnext i (by omega)]
  unfold inB
  by_cases h1 : bt t (i : Int) < 97
  ·rw [if_pos h1, if_neg (by simp; omega)]
  ·rw [if_neg h1]
   by_cases h2 : bt t (i : Int) > 122
   ·rw [if_pos h2, if_neg (by simp; omega)]
   ·rw [if_neg h2, if_pos (by simp; omega)]
theorem ev_allO {α : Type} (p : Nat → α → Option Bool) (q : α → Bool) : ∀ l : List α, (∀ x ∈ l, Ev (fun k => p k x) (q x)) → Ev (fun k => allO (p k) l) (l.all q) := by
  intro l
  induction l with
  | nil => intro _; exact ev_some true
  | cons x xs ih =>
    intro h
    have hx := h x (by simp); have hxs := ih (fun y hy => h y (by simp [hy]))
    simp only [allO, List.all_cons]
    refine ev_bind hx ?_
    cases q x
    · exact ev_neg (by decide) (ev_some _)
    · exact ev_pos rfl (by simpa using hxs)
def namesOK (l : List ByteArray) : Bool := decide ((l.length : Int) ≤ 3) && (l.all nmOK && decide l.Nodup)
theorem areNames_ev (l : List ByteArray) (hl : l.length ≤ 1000000000) (hs : ∀ x ∈ l, x.size ≤ 1000000000) : Ev (fun k => impl_areNames.f k l) (namesOK l) := by
 unfold impl_areNames.f namesOK
 refine ev_pos (by omega) ?_
 by_cases h3 : (l.length : Int) ≤ 3
 ·rw [decide_eq_true h3, Bool.true_and]
  refine ev_pos h3 (ev_bind (a := l.all nmOK) (by unfold all115_impl_snapNameOK.f; exact ev_allO _ _ l (fun x hx => impl_Name_ev x (hs x hx))) ?_)
  cases l.all nmOK
  ·exact ev_neg (by decide) (ev_some _)
  ·refine ev_pos rfl ?_
   have e : (((Lib.compact (impl_areNames_sorted l)).length : Int) == (l.length : Int)) = decide l.Nodup := by
    rw [Bool.eq_iff_iff, beq_iff_eq, decide_eq_true_eq]
    have hn : (l.map (·.data.toList)).Nodup ↔ l.Nodup := by
     have ht : ∀ a b : ByteArray, a.data.toList ≠ b.data.toList ↔ a ≠ b := fun a b => by
      constructor
      ·intro h e; exact h (by rw [e])
      ·intro h e; exact h (by cases a; cases b; simpa [Array.toList_inj] using e)
     unfold List.Nodup
     rw [List.pairwise_map]
     simp only [ht]
    rw [← hn, ← sorted_nodup (l.map (·.data.toList)), List.length_map]
    unfold impl_areNames_sorted
    exact Int.ofNat_inj
   rw [e, Bool.true_and]; exact ev_some _
 ·rw [decide_eq_false h3, Bool.false_and]
  exact ev_neg h3 (ev_some _)
def refsOK (l : List Int) : Bool := l.all (fun n => inB n 0 15) && ((l.length : Int) == 24)
theorem spec_RefsOK_ev (l : List Int) (hl : l.length ≤ 1000000000) : Ev (fun k => spec_RefsOK.f k l) (refsOK l) := by
 unfold spec_RefsOK.f
 by_cases h : (l.length : Int) > 4096
 ·have : refsOK l = false := by
   unfold refsOK
   rw [show ((l.length : Int) == 24) = false from beq_eq_false_iff_ne.2 (by omega), Bool.and_false]
  rw [this]; exact ev_pos h (ev_some _)
 ·refine ev_neg h ?_
  refine ev_all (g := fun k i => spec_RefsOK.l0 k l (i : Int)) l (fun n => inB n 0 15) _ ?_ ?_
  ·refine Ev.step (f := fun _ => some ((l.length : Int) == 24)) (fun k => ?_) (ev_some _)
   simp only [spec_RefsOK.l0]; rw [if_neg (by omega)]
  ·intro i hi k
   simp only [spec_RefsOK.l0, l01In_eq, Option.bind_some]
   rw [if_pos (by omega), if_pos (by omega), rdn l i hi, wnext i (by omega)]
theorem impl_RefsOK_eq (l : List Int) : impl_RefsOK.f l = some (refsOK l) := by
 have ha : all80_impl_RefsOK_1.f l () = some (l.all (fun n => inB n 0 15)) := by
  unfold all80_impl_RefsOK_1.f; exact allO_some _ _ (fun x _ => by simp only [impl_RefsOK_1.f, within_eq, Option.bind_some])
 unfold impl_RefsOK.f refsOK
 by_cases h : (l.length : Int) = 24
 ·rw [if_pos h, ha, show ((l.length : Int) == 24) = true from beq_iff_eq.2 h, Bool.and_true]; rfl
 ·rw [if_neg h, show ((l.length : Int) == 24) = false from beq_eq_false_iff_ne.2 h, Bool.and_false]
theorem refs_len {l : List Int} (h : refsOK l = true) : l.length = 24 := by
 unfold refsOK at h; rw [Bool.and_eq_true, beq_iff_eq] at h; omega
theorem impl_once_ev (l : List Int) (hl : l.length ≤ 1000000000) : Ev (fun k => impl_once.f k l) (decide (clu l).Nodup) := by
 unfold impl_once.f
 refine ev_bind (impl_clu_ev l hl) ?_
 have ht := clu_length l
 generalize clu l = t at ht
 refine ev_pos (by omega) ?_
 have e : (((Lib.compact (impl_once_sorted t)).length : Int) == (t.length : Int)) = decide t.Nodup := by
  rw [Bool.eq_iff_iff, beq_iff_eq, decide_eq_true_eq, ← sortedI_nodup t]
  unfold impl_once_sorted
  exact Int.ofNat_inj
 rw [e]; exact ev_some _
def once (l : List Int) : Bool := decide (clu l).Nodup
def isNum (n : Int) : Bool := inB n 0 2147483647
def nm (l : List S103) (i : Nat) : ByteArray := (rd_T103 l (i : Int)).f0
def fAt (l : List S103) (i : Nat) : Bool := nmOK (nm l i) && (tableOK (rd_T103 l (i : Int)).f1 && (List.range i).all (fun j => decide (nm l j ≠ nm l i)))
def form (R T : List Int) (S : List S103) (D : List Int) : Bool := refsOK R && (tableOK T && (decide ((S.length : Int) ≤ 3) && (((D.length : Int) == 24) && ((List.range S.length).all (fAt S) && D.all isNum))))
theorem spec_form_ev (R T : List Int) (S : List S103) (D : List Int) (hR : R.length ≤ 1000000000) (hT : T.length ≤ 1000000000) (hS : S.length ≤ 1000000000) (hD : D.length ≤ 1000000000) (hs : ∀ x ∈ S, x.f0.size ≤ 1000000000 ∧ x.f1.length ≤ 1000000000) :
  Ev (fun k => spec_l10Form.f k R T S D) (form R T S D) := by
 have hDl : Ev (fun k => spec_l10Form.l2 k ((0 : Nat) : Int) R T S D) (D.all isNum && true) := by
  refine ev_all (g := fun k i => spec_l10Form.l2 k (i : Int) R T S D) D isNum true ?_ ?_
  ·refine Ev.step (f := fun _ => some true) (fun k => ?_) (ev_some _)
   simp only [spec_l10Form.l2]; rw [if_neg (by omega)]
  ·intro i hi k
   simp only [spec_l10Form.l2, spec_l02Int.f, l01In_eq, Option.bind_some]
   rw [if_pos (by omega), if_pos (by omega), rdn D i hi, wnext i (by omega)]
   rfl
 rw [Bool.and_true] at hDl
 have hL : Ev (fun k => spec_l10Form.l0 k ((0 : Nat) : Int) R T S D) (if (List.range S.length).all (fAt S) = true then D.all isNum else false) := by
  refine ev_askE (g := fun k i => spec_l10Form.l0 k (i : Int) R T S D) S.length (fAt S) (D.all isNum) false ?_ ?_
  ·refine Ev.step (f := fun k => spec_l10Form.l2 k ((0 : Nat) : Int) R T S D) (fun k => ?_) hDl
   simp only [spec_l10Form.l0]; rw [if_neg (by omega)]; rfl
  ·intro i hi b hb
   have hmem := hs S[i] (List.getElem_mem hi)
   have hin : Ev (fun k => spec_l10Form.l1 k (i : Int) ((0 : Nat) : Int) R T S D) (if (List.range i).all (fun j => decide (nm S j ≠ nm S i)) = true then b else false) := by
    refine ev_asks (g := fun k j => spec_l10Form.l1 k (i : Int) (j : Int) R T S D) (List.range i) _ b false ?_ ?_
    ·rw [List.length_range]
     refine Ev.step (f := fun k => spec_l10Form.l0 k ((i + 1 : Nat) : Int) R T S D) (fun k => ?_) hb
     simp only [spec_l10Form.l1]; rw [if_neg (by omega), wnext i (by omega)]
    ·intro j hj k
     rw [List.length_range] at hj
     simp only [spec_l10Form.l1, List.getElem_range]
     rw [if_pos (by omega), if_pos (by omega), if_pos (by omega), if_pos (by omega), if_pos (by omega), wnext j (by omega)]
     show (if (nm S j).toList = (nm S i).toList then some false else _) = _
     by_cases c : nm S j = nm S i
     ·rw [if_pos (by rw [c]), if_neg (by simp [c])]
     ·rw [if_neg (fun h => c (toList_inj.1 h)), if_pos (by simp [c])]
   refine Ev.succ ?_
   simp only [spec_l10Form.l0]
   refine ev_pos (by omega) (ev_pos (by omega) ?_)
   have e1 : (rd_T103 S (i : Int)).f0 = nm S i := rfl
   have e2 := rdE_Snap S i hi
   unfold fAt
   rw [e1]
   refine ev_bind (spec_Name_ev _ (by unfold nm; rw [e2]; exact hmem.1)) ?_
   cases nmOK (nm S i)
   ·refine ev_neg (by decide) (Ev.succ ?_)
    simp only [spec_l10Form.j2, if_true, Bool.false_and, Bool.false_eq_true, if_false]; exact ev_some _
   ·refine ev_pos rfl (ev_bind (spec_TableOK_ev _ (by rw [e2]; exact hmem.2)) (Ev.succ ?_))
    cases tableOK (rd_T103 S (i : Int)).f1
    ·simp only [spec_l10Form.j2, Bool.not_false, if_true, Bool.false_and, Bool.and_false, Bool.false_eq_true, if_false]; exact ev_some _
    ·simp only [spec_l10Form.j2, Bool.not_true, Bool.false_eq_true, if_false, Bool.true_and]; exact hin
 unfold spec_l10Form.f form
 refine ev_bind (spec_RefsOK_ev R hR) ?_
 cases refsOK R
 ·refine ev_neg (by decide) (Ev.succ ?_)
  simp only [spec_l10Form.j0, if_true, Bool.false_and]; exact ev_some _
 ·refine ev_pos rfl (ev_bind (spec_TableOK_ev T hT) ?_)
  cases tableOK T
  ·refine ev_neg (by decide) (Ev.succ ?_)
   simp only [spec_l10Form.j0, if_true, Bool.false_and, Bool.and_false]; exact ev_some _
  ·refine ev_pos rfl ?_
   by_cases h3 : (S.length : Int) ≤ 3
   ·rw [decide_eq_true h3]
    refine ev_neg (by omega) (Ev.succ ?_)
    simp only [spec_l10Form.j0, bne, Bool.true_and]
    by_cases c24 : ((D.length : Int) == 24) = true
    rotate_left
    ·rw [Bool.not_eq_true] at c24
     simp only [c24, Bool.not_false, if_true, Bool.false_and]; exact ev_some _
    ·simp only [c24, Bool.not_true, Bool.false_eq_true, if_false, Bool.true_and]
     have e : (if (List.range S.length).all (fAt S) = true then D.all isNum else false) = ((List.range S.length).all (fAt S) && D.all isNum) := by cases (List.range S.length).all (fAt S) <;> simp
     rw [e] at hL
     exact hL
   ·rw [decide_eq_false h3]
    refine ev_pos (by omega) (Ev.succ ?_)
    simp only [spec_l10Form.j0, if_true, Bool.false_and, Bool.and_false]; exact ev_some _
def near (R T : List Int) (S : List S103) (D : List Int) : Bool := refsOK R && (decide ((S.length : Int) ≤ 3) && (namesOK (S.map (·.f0)) && ((tabs T S).all (fun l => tableOK l && once l) && (((D.length : Int) == 24) && D.all isNum))))
theorem impl_near_ev (R T : List Int) (S : List S103) (D : List Int) (hT : T.length ≤ 1000000000) (hS : S.length ≤ 1000000000) (hs : ∀ x ∈ S, x.f0.size ≤ 1000000000 ∧ x.f1.length ≤ 1000000000) :
  Ev (fun k => impl_Image_nearlyOK.f k R T S D) (near R T S D) := by
 have hD : all80_impl_isNumber.f D () = some (D.all isNum) := by unfold all80_impl_isNumber.f; exact allO_some _ _ (fun x _ => by simp only [impl_isNumber.f, within_eq, Option.bind_some]; rfl)
 have hts : ∀ l ∈ tabs T S, l.length ≤ 1000000000 := by
  intro l hl
  simp only [tabs, List.mem_cons, List.mem_map] at hl
  rcases hl with rfl | ⟨x, hx, rfl⟩
  ·exact hT
  ·exact (hs x hx).2
 unfold impl_Image_nearlyOK.f near
 simp only [impl_RefsOK_eq, Option.bind_some, hD]
 cases refsOK R
 ·exact ev_neg (by decide) (ev_some _)
 ·refine ev_pos rfl ?_
  by_cases h3 : (S.length : Int) ≤ 3
  ·rw [decide_eq_true h3]
   refine ev_pos h3 (ev_bind (impl_names_ev R T S D hS) (ev_bind (areNames_ev _ (by simpa using hS) (fun x hx => by
    obtain ⟨y, hy, rfl⟩ := List.mem_map.1 hx; exact (hs y hy).1)) ?_))
   simp only [Bool.true_and]
   cases namesOK (S.map (·.f0))
   ·exact ev_neg (by decide) (ev_some _)
   ·refine ev_pos rfl (ev_bind (impl_tables_ev R T S D hS) (ev_bind (a := (tabs T S).all (fun l => tableOK l && once l)) (by
     unfold all75_impl_Image_nearlyOK_1.f
     refine ev_allO _ _ _ (fun l hl => ?_)
     simp only [impl_Image_nearlyOK_1.f, impl_TableOK_eq, Option.bind_some]
     cases tableOK l
     ·exact ev_neg (by decide) (ev_some _)
     ·exact ev_pos rfl (ev_bind (impl_once_ev l (hts l hl)) (ev_some _))) ?_))
    simp only [Bool.true_and]
    cases (tabs T S).all (fun l => tableOK l && once l)
    ·exact ev_neg (by decide) (ev_some _)
    ·refine ev_pos rfl ?_
     by_cases h24 : (D.length : Int) = 24
     ·rw [show ((D.length : Int) == 24) = true from beq_iff_eq.2 h24]
      exact ev_pos h24 (ev_some _)
     ·rw [show ((D.length : Int) == 24) = false from beq_eq_false_iff_ne.2 h24]
      exact ev_neg h24 (ev_some _)
  ·rw [decide_eq_false h3]; exact ev_neg h3 (ev_some _)
theorem form_near (R T : List Int) (S : List S103) (D : List Int) : (form R T S D && (once T && S.all (fun x => once x.f1))) = near R T S D := by
 have hn : ∀ i (h : i < S.length), nm S i = S[i].f0 := fun i h => by unfold nm; rw [rdE_Snap S i h]
 have key : (List.range S.length).all (fAt S) = ((S.map (·.f0)).all nmOK && decide (S.map (·.f0)).Nodup && S.all (fun x => tableOK x.f1)) := by
  rw [Bool.eq_iff_iff]
  simp only [Bool.and_eq_true, List.all_eq_true, decide_eq_true_eq, List.mem_range, List.mem_map]
  constructor
  ·intro h
   have h' : ∀ i (hi : i < S.length), nmOK S[i].f0 = true ∧ tableOK S[i].f1 = true ∧ ∀ j, j < i → nm S j ≠ nm S i := fun i hi => by
    have := h i hi
    unfold fAt at this
    simp only [Bool.and_eq_true, List.all_eq_true, decide_eq_true_eq, List.mem_range] at this
    rw [hn i hi, rdE_Snap S i hi] at this
    exact ⟨this.1, this.2.1, fun j hj => by have := this.2.2 j hj; rw [hn i hi]; exact this⟩
   refine ⟨⟨?_, ?_⟩, ?_⟩
   ·rintro x ⟨y, hy, rfl⟩
    obtain ⟨i, hi, rfl⟩ := List.getElem_of_mem hy
    exact (h' i hi).1
   ·rw [List.nodup_iff_pairwise_ne, List.pairwise_iff_getElem]
    intro i j hi hj hij
    rw [List.length_map] at hi hj
    have := (h' j hj).2.2 i hij
    rw [hn i hi, hn j hj] at this
    simpa using this
   ·intro x hx
    obtain ⟨i, hi, rfl⟩ := List.getElem_of_mem hx
    exact (h' i hi).2.1
  ·rintro ⟨⟨h1, h2⟩, h3⟩ i hi
   unfold fAt
   simp only [Bool.and_eq_true, List.all_eq_true, decide_eq_true_eq, List.mem_range]
   rw [rdE_Snap S i hi]
   refine ⟨?_, h3 _ (List.getElem_mem hi), fun j hj => ?_⟩
   ·rw [hn i hi]; exact h1 _ ⟨_, List.getElem_mem hi, rfl⟩
   ·rw [hn i hi, hn j (by omega)]
    have := List.pairwise_iff_getElem.1 (List.nodup_iff_pairwise_ne.1 h2) j i (by simp; omega) (by simpa using hi) hj
    simpa using this
 unfold form near
 rw [key]
 have h2 : (tabs T S).all (fun l => tableOK l && once l) = ((tableOK T && once T) && (S.all (fun x => tableOK x.f1) && S.all (fun x => once x.f1))) := by
  unfold tabs
  rw [List.all_cons, List.all_map]
  congr 1
  rw [Bool.eq_iff_iff]
  simp only [Bool.and_eq_true, List.all_eq_true, Function.comp]
  exact ⟨fun h => ⟨fun x hx => (h x hx).1, fun x hx => (h x hx).2⟩, fun h x hx => ⟨h.1 x hx, h.2 x hx⟩⟩
 rw [h2]
 by_cases h3 : (S.length : Int) ≤ 3
 ·have e : namesOK (S.map (·.f0)) = ((S.map (·.f0)).all nmOK && decide (S.map (·.f0)).Nodup) := by
   unfold namesOK; rw [decide_eq_true (by simpa using h3), Bool.true_and]
  rw [e, decide_eq_true h3]
  cases refsOK R <;> cases tableOK T <;> cases ((D.length : Int) == 24) <;> cases (S.map (·.f0)).all nmOK <;> cases decide (S.map (·.f0)).Nodup <;> cases S.all (fun x => tableOK x.f1) <;> cases D.all isNum <;> cases once T <;> cases S.all (fun x => once x.f1) <;> rfl
 ·rw [decide_eq_false h3]; simp
theorem near_tabs {R T : List Int} {S : List S103} {D : List Int} (h : near R T S D = true) : R.length = 24 ∧ S.length ≤ 3 ∧ (∀ t ∈ tabs T S, tableOK t = true) ∧ D.length = 24 := by
 unfold near at h
 simp only [Bool.and_eq_true, List.all_eq_true, decide_eq_true_eq, beq_iff_eq] at h
 obtain ⟨h1, h2, _, h4, h5, _⟩ := h
 exact ⟨refs_len h1, by omega, fun t ht => (h4 t ht).1, by omega⟩
/-- How many tables have each cluster. -/
def counts (T : List Int) (S : List S103) : List Int := cntT zeros24 (tabs T S)
theorem counts_length (T : List Int) (S : List S103) : (counts T S).length = 24 := by unfold counts; rw [cntT_length]; rfl
def zeroD (R D : List Int) : Bool := (List.range 24).all (fun i => if rd R (i : Int) = 0 then decide (rd D (i : Int) = 0) else true)
def imgOK (R T : List Int) (S : List S103) (D : List Int) : Bool := near R T S D && (decide (R = counts T S) && zeroD R D)
theorem spec_ImageOK_ev (R T : List Int) (S : List S103) (D : List Int) (hR : R.length ≤ 1000000000) (hT : T.length ≤ 1000000000) (hS : S.length ≤ 1000000000) (hD : D.length ≤ 1000000000) (hs : ∀ x ∈ S, x.f0.size ≤ 1000000000 ∧ x.f1.length ≤ 1000000000) :
  Ev (fun k => spec_ImageOK.f k R T S D) (imgOK R T S D) := by
 unfold spec_ImageOK.f imgOK
 have hfn := form_near R T S D
 refine ev_bind (spec_form_ev R T S D hR hT hS hD hs) ?_
 cases hform : form R T S D
 ·rw [hform, Bool.false_and] at hfn
  rw [← hfn]
  refine ev_neg (by decide) (Ev.succ ?_)
  simp only [spec_ImageOK.j0, if_true, Bool.false_and]; exact ev_some _
 ·rw [hform, Bool.true_and] at hfn
  refine ev_pos rfl (ev_bind (spec_twice_ev T hT) (Ev.succ ?_))
  have hform' := hform
  unfold form at hform'
  simp only [Bool.and_eq_true, decide_eq_true_eq, beq_iff_eq] at hform'
  obtain ⟨f1, f2, f3, f4, f5, f6⟩ := hform'
  have hR24 := refs_len f1
  have ht : ∀ t ∈ tabs T S, tableOK t = true := by
   intro t ht
   simp only [tabs, List.mem_cons, List.mem_map] at ht
   rcases ht with rfl | ⟨x, hx, rfl⟩
   ·exact f2
   ·obtain ⟨i, hi, rfl⟩ := List.getElem_of_mem hx
    have := List.all_eq_true.1 f5 i (List.mem_range.2 hi)
    unfold fAt at this
    rw [rdE_Snap S i hi] at this
    simp only [Bool.and_eq_true] at this
    exact this.2.1
  show Ev (fun k => spec_ImageOK.j0 (k + 1) (!once T) R T S D) _
  simp only [spec_ImageOK.j0]
  cases hoT : once T
  ·rw [hoT, Bool.false_and] at hfn
   rw [← hfn, Bool.false_and]
   exact ev_pos rfl (ev_some _)
  ·rw [hoT, Bool.true_and] at hfn
   refine ev_neg (by decide) ?_
   have hfin : Ev (fun k => spec_ImageOK.l1 k (counts T S) ((0 : Nat) : Int) R T S D) (decide (R = counts T S) && zeroD R D) := by
    have hcl := counts_length T S
    generalize counts T S = n at hcl
    have h := ev_askE (g := fun k i => spec_ImageOK.l1 k n (i : Int) R T S D) 24 (fun i => decide (rd n (i : Int) = rd R (i : Int)) && (if rd R (i : Int) = 0 then decide (rd D (i : Int) = 0) else true)) true false ?_ ?_
    ·have e : (if (List.range 24).all (fun i => decide (rd n (i : Int) = rd R (i : Int)) && (if rd R (i : Int) = 0 then decide (rd D (i : Int) = 0) else true)) = true then true else false) = (decide (R = n) && zeroD R D) := by
      rw [Bool.eq_iff_iff]
      unfold zeroD
      simp only [Bool.if_false_right, Bool.and_true, decide_eq_true_eq, List.all_eq_true, List.mem_range, Bool.and_eq_true]
      constructor
      ·intro h
       refine ⟨List.ext_getElem (by omega) (fun i h1 h2 => ?_), fun i hi => (h i hi).2⟩
       have := (h i (by omega)).1
       rw [rdn n i h2, rdn R i h1] at this
       exact this.symm
      ·rintro ⟨rfl, h2⟩ i hi
       exact ⟨rfl, h2 i hi⟩
     rw [e] at h; exact h
    ·refine Ev.step (f := fun _ => some true) (fun k => ?_) (ev_some _)
     simp only [spec_ImageOK.l1]; rw [if_neg (by decide)]
    ·intro i hi b hb
     refine Ev.succ ?_
     simp only [spec_ImageOK.l1]
     refine ev_pos (by omega) (ev_pos (by omega) (ev_pos (by omega) (ev_pos (by omega) ?_)))
     rw [wnext i (by omega)]
     by_cases c : rd n (i : Int) = rd R (i : Int)
     ·rw [c]
      refine ev_pos rfl ?_
      by_cases c2 : rd R (i : Int) = 0
      ·refine ev_pos c2 (ev_pos (by omega) ?_)
       by_cases c3 : rd D (i : Int) = 0
       ·simp only [c2, c3]; simpa using hb
       ·simp only [c2, c3]; simpa using ev_some false
      ·simp only [c2]; simpa using hb
     ·simp only [c]; simpa using ev_some false
   have hL := ev_askE (g := fun k i => spec_ImageOK.l0 k (i : Int) R T S D) S.length (fun i => once (rd_T103 S (i : Int)).f1) (decide (R = counts T S) && zeroD R D) false ?_ ?_
   ·have e : (List.range S.length).all (fun i => once (rd_T103 S (i : Int)).f1) = S.all (fun x => once x.f1) := by
     rw [Bool.eq_iff_iff]
     simp only [List.all_eq_true, List.mem_range]
     constructor
     ·intro h x hx
      obtain ⟨i, hi, rfl⟩ := List.getElem_of_mem hx
      have := h i hi
      rwa [rdE_Snap S i hi] at this
     ·intro h i hi
      rw [rdE_Snap S i hi]; exact h _ (List.getElem_mem hi)
    rw [e, hfn] at hL
    have e2 : (if near R T S D = true then (decide (R = counts T S) && zeroD R D) else false) = (near R T S D && (decide (R = counts T S) && zeroD R D)) := by cases near R T S D <;> simp
    rw [e2] at hL
    exact hL
   ·refine Ev.step (f := fun k => (spec_l10Count.f k R T S D).bind fun t => spec_ImageOK.l1 k t 0 R T S D) (fun k => ?_) (ev_bind (spec_count_ev R T S D (by omega) ht) hfin)
    simp only [spec_ImageOK.l0]; rw [if_neg (by omega)]
   ·intro i hi b hb
    refine Ev.succ ?_
    simp only [spec_ImageOK.l0]
    refine ev_pos (by omega) (ev_pos (by omega) (ev_bind (spec_twice_ev _ (by rw [rdE_Snap S i hi]; exact (hs _ (List.getElem_mem hi)).2)) ?_))
    show Ev (fun k => if (!once (rd_T103 S (i : Int)).f1) = true then some false else spec_ImageOK.l0 k (wrap64 ((i : Int) + 1)) R T S D) _
    rw [wnext i (by omega)]
    cases once (rd_T103 S (i : Int)).f1
    ·exact ev_pos rfl (ev_some _)
    ·exact ev_neg (by decide) hb
theorem equal_ev (a b : List Int) (ha : a.length = 24) (hb : b.length = 24) : Ev (fun k => slices_Equal_int_int.f k a b) (decide (a = b)) := by
 unfold slices_Equal_int_int.f
 refine ev_pos (by omega) ?_
 have h := ev_askE (g := fun k i => slices_Equal_int_int.l0 k a b (a.length : Int) (i : Int)) 24 (fun i => decide (rd a (i : Int) = rd b (i : Int))) true false ?_ ?_
 ·have e : (if (List.range 24).all (fun i => decide (rd a (i : Int) = rd b (i : Int))) = true then true else false) = decide (a = b) := by
   rw [Bool.eq_iff_iff]
   simp only [Bool.if_false_right, Bool.and_true, decide_eq_true_eq, List.all_eq_true, List.mem_range]
   constructor
   ·intro h
    refine List.ext_getElem (by omega) (fun i h1 h2 => ?_)
    have := h i (by omega)
    rwa [rdn a i h1, rdn b i h2] at this
   ·rintro rfl i hi; rfl
  rw [e] at h; exact h
 ·refine Ev.step (f := fun _ => some true) (fun k => ?_) (ev_some _)
  simp only [slices_Equal_int_int.l0]; rw [if_neg (by omega)]
 ·intro i hi r hr
  refine Ev.succ ?_
  simp only [slices_Equal_int_int.l0]
  refine ev_pos (by omega) (ev_pos (by omega) (ev_pos (by omega) (ev_pos (by omega) ?_)))
  rw [wnext i (by omega)]
  by_cases c : rd a (i : Int) = rd b (i : Int)
  ·simp only [c]; simpa using hr
  ·simp only [c]; simpa using ev_some false
theorem impl_ImageOK_ev (R T : List Int) (S : List S103) (D : List Int) (hT : T.length ≤ 1000000000) (hS : S.length ≤ 1000000000) (hs : ∀ x ∈ S, x.f0.size ≤ 1000000000 ∧ x.f1.length ≤ 1000000000) :
  Ev (fun k => impl_ImageOK.f k R T S D) (imgOK R T S D) := by
 unfold impl_ImageOK.f imgOK
 refine ev_bind (impl_near_ev R T S D hT hS hs) ?_
 cases hn : near R T S D
 ·refine ev_neg (by decide) (Ev.succ ?_)
  simp only [impl_ImageOK.j0, if_true, Bool.false_and]; exact ev_some _
 ·obtain ⟨n1, n2, n3, n4⟩ := near_tabs hn
  refine ev_pos rfl (ev_bind (impl_count_ev R T S D n2 n3) (ev_bind (equal_ev R _ n1 (counts_length T S)) (Ev.succ ?_)))
  show Ev (fun k => impl_ImageOK.j0 (k + 1) (!decide (R = counts T S)) R T S D) _
  simp only [impl_ImageOK.j0, Bool.true_and]
  cases decide (R = counts T S)
  ·exact ev_pos rfl (ev_some _)
  ·refine ev_neg (by decide) ?_
   rw [Bool.true_and]
   have h := ev_askE (g := fun k i => impl_ImageOK.l0 k D (D.length : Int) (i : Int) R T S D) 24 (fun i => if rd R (i : Int) = 0 then decide (rd D (i : Int) = 0) else true) true false ?_ ?_
   ·have e : (if (List.range 24).all (fun i => if rd R (i : Int) = 0 then decide (rd D (i : Int) = 0) else true) = true then true else false) = zeroD R D := by
     unfold zeroD
     cases (List.range 24).all (fun i => if rd R (i : Int) = 0 then decide (rd D (i : Int) = 0) else true) <;> rfl
    rw [e] at h; exact h
   ·refine Ev.step (f := fun _ => some true) (fun k => ?_) (ev_some _)
    simp only [impl_ImageOK.l0]; rw [if_neg (by omega)]
   ·intro i hi b hb
    refine Ev.succ ?_
    simp only [impl_ImageOK.l0]
    refine ev_pos (by omega) (ev_pos (by omega) (ev_pos (by omega) (ev_pos (by omega) ?_)))
    rw [wnext i (by omega)]
    by_cases c2 : rd R (i : Int) = 0
    ·by_cases c3 : rd D (i : Int) = 0
     ·simp only [c2, c3]; simpa using hb
     ·simp only [c2, c3]; simpa using ev_some false
    ·simp only [c2]; simpa using hb
/-- An image that came in, copied; what its size tells of it. -/
structure Fits (R T : List Int) (S : List S102) (D : List Int) : Prop where
  hR : R.length ≤ 1048576
  hT : T.length ≤ 1048576
  hS : S.length ≤ 1048576
  hD : D.length ≤ 1048576
  hs : ∀ x ∈ S, x.f0.size ≤ 1048576 ∧ x.f1.length ≤ 1048576
theorem szImage_ev (R T : List Int) (S : List S102) (D : List Int) (hR : R.length ≤ maxLen) (hT : T.length ≤ maxLen) (hS : S.length ≤ maxLen) (hD : D.length ≤ maxLen) (hs : ∀ x ∈ S, x.f0.size ≤ maxLen ∧ x.f1.length ≤ maxLen) :
  ∃ s, Ev (fun k => laws_szImage.f k R T S D 1048576) s ∧ (s < 0 ∨ (0 ≤ s ∧ Fits R T S D)) := by
 unfold laws_szImage.f
 have hM : maxLen = 9223372036854775807 := rfl
 simp only [szIntS_eq R hR 1048576 (by omega) (by omega), Option.bind_some]
 by_cases c : (1048576 : Int) - (R.length : Int) < 0
 ·rw [if_pos c]; exact ⟨-1, ev_pos (by omega) (ev_some _), Or.inl (by omega)⟩
 ·rw [if_neg c]
  generalize ha : (1048576 : Int) - (R.length : Int) = a at c
  simp only [szIntS_eq T hT a (by omega) (by omega), Option.bind_some]
  by_cases c2 : a - (T.length : Int) < 0
  ·rw [if_pos c2]; exact ⟨-1, ev_neg (by omega) (ev_pos (by omega) (ev_some _)), Or.inl (by omega)⟩
  ·rw [if_neg c2]
   generalize hb : a - (T.length : Int) = b at c2
   obtain ⟨s, h1, h2⟩ := szSnapS_ev S hs hS b (by omega) (by omega)
   by_cases hs0 : s < 0
   ·exact ⟨-1, ev_neg (by omega) (ev_neg (by omega) (ev_bind h1 (ev_pos hs0 (ev_some _)))), Or.inl (by omega)⟩
   ·rcases h2 with h2 | ⟨b1, b2, b3, b4⟩
    ·exact absurd h2 hs0
    ·have hz := szIntS_eq D hD s (by omega) (by omega)
     by_cases c4 : s - (D.length : Int) < 0
     ·refine ⟨-1, ev_neg (by omega) (ev_neg (by omega) (ev_bind h1 (ev_neg hs0 (ev_bind (ev_of_eq fun _ => hz) ?_)))), Or.inl (by omega)⟩
      rw [if_pos c4]; exact ev_pos (by omega) (ev_some _)
     ·refine ⟨s - (D.length : Int), ev_neg (by omega) (ev_neg (by omega) (ev_bind h1 (ev_neg hs0 (ev_bind (ev_of_eq fun _ => hz) ?_)))), Or.inr ⟨by omega, by omega, by omega, by omega, by omega, fun x hx => by have := b4 x hx; omega⟩⟩
      rw [if_neg c4]; exact ev_neg c4 (ev_some _)
theorem toImage_ev (R T : List Int) (S : List S102) (D : List Int) (h : Fits R T S D) : Ev (fun k => laws_toImage.f k R T S D) (R, T, S.map cvSnap, D) := by
 unfold laws_toImage.f
 exact ev_bind (toIntS_ev R h.hR) (ev_bind (toIntS_ev T h.hT) (ev_bind (toSnapS_ev S h.hS (fun x hx => (h.hs x hx).2)) (ev_bind (toIntS_ev D h.hD) (ev_some _))))
theorem eqImage_ev (R T : List Int) (S : List S102) (D : List Int) (h : Fits R T S D) : Ev (fun k => laws_eqImage.f k R T (S.map cvSnap) D R T (S.map cvSnap) D) true := by
 have := h.hR; have := h.hT; have := h.hD; have hS := h.hS
 unfold laws_eqImage.f
 refine ev_bind (eqIntS_ev R (by omega)) (ev_pos rfl (ev_bind (eqIntS_ev T (by omega)) (ev_pos rfl (ev_bind (eqSnapS_ev (S.map cvSnap) (by rw [List.length_map]; omega) (fun x hx => ?_)) (ev_pos rfl (ev_bind (eqIntS_ev D (by omega)) (ev_pos rfl (ev_some _))))))))
 obtain ⟨y, hy, rfl⟩ := List.mem_map.1 hx
 have := (h.hs y hy).2
 show y.f1.length ≤ _
 omega
theorem cv_fits {S : List S102} (h : ∀ x ∈ S, x.f0.size ≤ 1048576 ∧ x.f1.length ≤ 1048576) : ∀ x : S103, x ∈ S.map cvSnap → x.f0.size ≤ 1000000000 ∧ x.f1.length ≤ 1000000000 := by
 intro x hx
 obtain ⟨y, hy, rfl⟩ := List.mem_map.1 hx
 have := h y hy
 show y.f0.size ≤ _ ∧ y.f1.length ≤ _
 omega
def laws_heldIntS.l0 : Nat → List Int → Int → Int → Option (Int)
  | 0, _, _, _ => none
  | k + 1, x0, x1, x5 => if x5 < (x0.length : Int) then (if 0 ≤ x5 then (if (rd x0 x5) = x1 then (laws_heldIntS.l0 k x0 (wrap64 (x1 + 1)) (wrap64 (x5 + 1))) else (some (-1))) else (none)) else (some x1)
def laws_heldIntS.f (k : Nat) (l0 : List Int) (a1 : Int) : Option (Int) := laws_heldIntS.l0 k l0 a1 0
theorem laws_heldIntS.mono_l : ∀ k, (∀ y0 y1 y2, LeO (laws_heldIntS.l0 k y0 y1 y2) (laws_heldIntS.l0 (k + 1) y0 y1 y2))
  | 0 => fun _ _ _ r h => by simp [laws_heldIntS.l0] at h
  | k + 1 => by
    have ih0 := laws_heldIntS.mono_l k
    · intro y0 y1 y2
      unfold laws_heldIntS.l0
      repeat' first| (with_reducible first | exact ih0 _ _ _ | exact LeO.refl _ | exact LeO.none _ | refine LeO.ite ?_ ?_ | refine LeO.bind ?_ (fun _ => ?_)) | exact ih0 _ _ _ | exact LeO.none _ | refine LeO.ite ?_ ?_ | refine LeO.bind ?_ (fun _ => ?_)
theorem laws_heldIntS.mono : ∀ a0 a1 k, LeO (laws_heldIntS.f k a0 a1) (laws_heldIntS.f (k + 1) a0 a1) := by
 intro a0 a1 k
 have ih0 := laws_heldIntS.mono_l k
 unfold laws_heldIntS.f
 repeat' first| (with_reducible first | exact ih0 _ _ _ | exact LeO.refl _ | exact LeO.none _ | refine LeO.ite ?_ ?_ | refine LeO.bind ?_ (fun _ => ?_)) | exact ih0 _ _ _ | exact LeO.none _ | refine LeO.ite ?_ ?_ | refine LeO.bind ?_ (fun _ => ?_)
set_option maxHeartbeats 8000000 in
set_option maxRecDepth 100000 in
theorem laws_heldIntS.calls (k : Nat) (A0 : Option Addr) (c0 : Nat) (l0 : List Int) (a1 : Int) (r : Int) (w : World) (hr0 : Kd.C (Kd.int .i64) w A0 l0.length l0) (hc0 : l0.length ≤ c0) (h : laws_heldIntS.f k l0 a1 = some r) :
    Calls Tryz.prog 51 #[.slice A0 l0.length c0, .int .i64 a1] w fun e w' => e = .returned (.int .i64 r) ∧ Drawn0 w w' := by
 have HR0 := zm hr0; have HC0 := zm hc0; clear hr0 hc0
 have H : (laws_heldIntS.l0 k l0 a1 0) = some r := h
 clear h
 have H' := zm H
 clear H
 go_enter Tryz.func51, Tryz.ntmps51
 go_wp2
 go_loopg [1, 5] k (fun kq v1 v5 w' => ∃ (x1_1 : Int) (x5_1 : Int), v1 = .int .i64 x1_1 ∧ v5 = .int .i64 x5_1 ∧ Aside0 (laws_heldIntS.l0 kq l0 x1_1 x5_1 = some r) ∧ Aside0 (kq ≤ k) ∧ Drawn0 w w')
 case atStart => exact ⟨(a1), (0), zr, zr, H', ⟨Nat.le_refl _⟩, by repeat (first | exact Drawn0.refl _ | apply Drawn0.step)⟩
 case round =>
  clear H'
  try clear p2
  obtain ⟨x1_1, x5_1, rfl, rfl, HA, HK1, ⟨m1, rfl⟩⟩ := hrel
  cases gk with
  | zero => exact absurd HA.out (by simp [laws_heldIntS.l0])
  | succ k1 =>
   have H := HA.out; clear HA
   simp only [laws_heldIntS.l0] at H
   by_cases c3 : x5_1 < (l0.length : Int)
   ·rw [if_pos c3] at H
    have c3b0 := decide_eq_true c3; clear c3
    by_cases c4 : 0 ≤ x5_1
    ·rw [if_pos c4] at H
     have c4b0 := decide_eq_true c4; clear c4
     by_cases c5 : (rd l0 x5_1) = x1_1
     ·rw [if_pos c5] at H
      have c5b0 : ((rd l0 x5_1) == x1_1) = true := beq_iff_eq.mpr c5
      have c5b1 : ((rd l0 x5_1) != x1_1) = false := bne_eq_false_iff_eq.mpr c5
      clear c5
      have H' := zm H
      clear H
      have p596 : 0 ≤ (x5_1 : Int) := zd
      have q596 : x5_1 < (l0.length : Int) := zd
      obtain ⟨ad596, e596, hx596_0⟩ := Kd.at_int HR0.out x5_1 p596 q596
      cases e596; replace p596 := eq_true p596; replace q596 := eq_true q596
      go_wp2
      go_roundg k1
      case measure => have := HK1.out; omega
      case rel => exact ⟨(wrap64 (x1_1 + 1)), (wrap64 (x5_1 + 1)), zr, zr, H', ⟨by have := HK1.out; omega⟩, by repeat (first | exact Drawn0.refl _ | apply Drawn0.step)⟩
     ·rw [if_neg c5] at H
      have c5b0 : ((rd l0 x5_1) == x1_1) = false := beq_eq_false_iff_ne.mpr c5
      have c5b1 : ((rd l0 x5_1) != x1_1) = true := bne_iff_ne.mpr c5
      obtain rfl := Option.some.inj H
      have p596 : 0 ≤ (x5_1 : Int) := zd
      have q596 : x5_1 < (l0.length : Int) := zd
      obtain ⟨ad596, e596, hx596_0⟩ := Kd.at_int HR0.out x5_1 p596 q596
      cases e596; replace p596 := eq_true p596; replace q596 := eq_true q596
      go_wp2
      go_ret
      exact ⟨zr, by repeat (first | exact Drawn0.refl _ | apply Drawn0.step)⟩
    ·rw [if_neg c4] at H
     exact absurd H (by simp)
   ·rw [if_neg c3] at H
    have c3b0 := decide_eq_false c3; clear c3; obtain rfl := Option.some.inj H
    go_wp2
    go_ret
    exact ⟨zr, by repeat (first | exact Drawn0.refl _ | apply Drawn0.step)⟩
theorem markIntS_ev (l : List Int) (a : Int) (ha : 0 ≤ a) (hl : l.length + a ≤ 1000000000000000) : Ev (fun k => laws_markIntS.f k l a) (a + (l.length : Int), countUp a l.length) := by
 unfold laws_markIntS.f
 have hc := countUp_length a l.length; have h := ev_loop (g := fun k i => laws_markIntS.l0 k ((countUp a l.length).take i ++ l.drop i) (a + (i : Int)) (i : Int)) (r := (a + (l.length : Int), countUp a l.length)) l.length ?_ ?_ l.length 0 (by omega) (by omega)
 ·simpa using h
 ·refine Ev.step (f := fun _ => some (a + (l.length : Int), countUp a l.length)) (fun k => ?_) (ev_some _)
  simp only [laws_markIntS.l0]
  rw [if_neg (by simp; omega), List.drop_of_length_le (by omega), List.take_of_length_le (by omega)]; simp
 ·intro i hi
  refine ⟨1, fun k => ⟨?_, by omega⟩⟩
  simp only [laws_markIntS.l0]
  have hlen : ((countUp a l.length).take i ++ l.drop i).length = l.length := by simp [hc]; omega
  rw [if_pos (by rw [hlen]; omega), if_pos (by omega), Int.toNat_natCast, set_mid l _ hc i hi _ (countUp_get a l.length i hi), wnext i (by omega), w64 (by omega) (by omega)]
  rw [show a + (i : Int) + 1 = a + ((i + 1 : Nat) : Int) by omega]
theorem heldIntS_ev (n : Nat) (a : Int) (ha : 0 ≤ a) (hl : n + a ≤ 1000000000000000) : Ev (fun k => laws_heldIntS.f k (countUp a n) a) (a + (n : Int)) := by
 unfold laws_heldIntS.f
 have hc := countUp_length a n; have h := ev_loop (g := fun k i => laws_heldIntS.l0 k (countUp a n) (a + (i : Int)) (i : Int)) (r := a + (n : Int)) n ?_ ?_ n 0 (by omega) (by omega)
 ·simpa using h
 ·refine Ev.step (f := fun _ => some (a + (n : Int))) (fun k => ?_) (ev_some _)
  simp only [laws_heldIntS.l0]
  rw [if_neg (by omega)]
 ·intro i hi
  refine ⟨1, fun k => ⟨?_, by omega⟩⟩
  simp only [laws_heldIntS.l0]
  rw [if_pos (by omega), if_pos (by omega), rdn _ i (by omega), countUp_get a n i hi, if_pos rfl, wnext i (by omega), w64 (by omega) (by omega)]
  rw [show a + (i : Int) + 1 = a + ((i + 1 : Nat) : Int) by omega]
theorem markSnapS_from : ∀ d (y : List S103) (i : Nat) (b : Int), (∀ x ∈ y, x.f1.length ≤ 1048576) → y.length ≤ 1048576 → i ≤ y.length → y.length - i = d → 0 ≤ b → b + 1048577 * (d : Int) ≤ 10000000000000 → ∃ r, Ev (fun k => laws_markSnapS.l0 k y b (i : Int)) r ∧ 0 ≤ r.1 ∧ r.1 ≤ b + 1048577 * (d : Int) := by
  intro d
  induction d with
  | zero =>
    intro y i b hs hl hi hd h0 hb
    refine ⟨(b, y), Ev.step (f := fun _ => some (b, y)) (fun k => ?_) (ev_some _), h0, by show b ≤ _; omega⟩
    simp only [laws_markSnapS.l0]; rw [if_neg (by omega)]
  | succ d ih =>
    intro y i b hs hl hi hd h0 hb
    have hlt : i < y.length := by omega
    have hL := hs _ (List.getElem_mem hlt); have ht := mText_ev b (by omega)
    have e1 : rd_T103 (y.set i (⟨mText b, (rd_T103 y (i : Int)).f1⟩ : S103)) (i : Int) = ⟨mText b, y[i].f1⟩ := by
      rw [rdE_Snap _ i (by simpa using hlt), List.getElem_set_self, rdE_Snap y i hlt]
    have hm := markIntS_ev y[i].f1 (b + 1) (by omega) (by omega)
    obtain ⟨r, h1, h2, h3⟩ := ih ((y.set i (⟨mText b, (rd_T103 y (i : Int)).f1⟩ : S103)).set i (⟨mText b, countUp (b + 1) y[i].f1.length⟩ : S103)) (i + 1) (b + 1 + (y[i].f1.length : Int)) (by
      intro x hx
      rcases List.mem_or_eq_of_mem_set hx with hx | rfl
      · rcases List.mem_or_eq_of_mem_set hx with hx | rfl
        · exact hs x hx
        · show (rd_T103 y (i : Int)).f1.length ≤ _
          rw [rdE_Snap y i hlt]; exact hL
      · show (countUp _ _).length ≤ _
        rw [countUp_length]; exact hL) (by simpa using hl) (by simp; omega) (by simp; omega) (by omega) (by omega)
    refine ⟨r, Ev.succ ?_, h2, by omega⟩
    simp only [laws_markSnapS.l0]
    refine ev_pos (by omega) (ev_pos (by omega) (ev_bind ht ?_))
    rw [Int.toNat_natCast, e1, w64 (n := b + 1) (by omega) (by omega), wnext i (by omega)]
    exact ev_bind hm h1
theorem markImage_ev (R T : List Int) (S : List S103) (D : List Int) (hR : R.length ≤ 1048576) (hT : T.length ≤ 1048576) (hS : S.length ≤ 1048576) (hD : D.length ≤ 1048576) (hs : ∀ x ∈ S, x.f1.length ≤ 1048576) : ∃ r, Ev (fun k => laws_markImage.f k R T S D 1) r ∧ 0 ≤ r := by
 unfold laws_markImage.f
 obtain ⟨r, h1, h2, h3⟩ := markSnapS_from S.length S 0 (1 + (R.length : Int) + (T.length : Int)) hs hS (by omega) (by omega) (by omega) (by omega)
 exact ⟨_, ev_bind (markIntS_ev R 1 (by omega) (by omega)) (ev_bind (markIntS_ev T _ (by omega) (by omega)) (ev_bind (by unfold laws_markSnapS.f; exact h1) (ev_bind (markIntS_ev D r.1 h2 (by omega)) (ev_some _)))), by show 0 ≤ r.1 + _; omega⟩
theorem rdE_Update (l : List S77) (i : Nat) (h : i < l.length) : rd_T77 l (i : Int) = l[i] := by simp [rd_T77, h]
theorem rdset_Update (l : List S77) (i : Nat) (v : S77) (h : i < l.length) : rd_T77 (l.set i v) (i : Int) = v := by simp [rd_T77, h]
theorem eqUpdateS_ev (l : List S77) (hl : l.length ≤ 1000000000) : Ev (fun k => laws_eqUpdateS.f k l l) true := by
 unfold laws_eqUpdateS.f
 refine ev_pos rfl ?_
 refine ev_loop (g := fun k i => laws_eqUpdateS.l0 k l l (i : Int)) l.length ?_ ?_ l.length 0 (by omega) (by omega)
 ·refine Ev.step (f := fun _ => some true) (fun k => ?_) (ev_some _)
  simp only [laws_eqUpdateS.l0]; rw [if_neg (by omega)]
 ·intro i hi
  refine ⟨1, fun k => ⟨?_, by omega⟩⟩
  simp only [laws_eqUpdateS.l0, laws_eqUpdate.f]
  rw [if_pos (by omega), if_pos (by omega), if_pos (by omega), wnext i (by omega)]
  simp only [if_true, Option.bind_some]
noncomputable def mUpdate (n : Int) : S77 := ⟨n, mText (n + 1)⟩
noncomputable def msUpdate (a : Int) (n : Nat) : List S77 := (List.range n).map (fun j : Nat => mUpdate (a + 2 * (j : Int)))
theorem msUpdate_length (a : Int) (n : Nat) : (msUpdate a n).length = n := by simp [msUpdate]
theorem msUpdate_get (a : Int) (n i : Nat) (h : i < n) : (msUpdate a n)[i]'(by rw [msUpdate_length]; exact h) = mUpdate (a + 2 * (i : Int)) := by simp [msUpdate]
theorem markUpdateS_ev (l : List S77) (a : Int) (ha : 0 ≤ a) (hl : l.length + a ≤ 10000000000000) (hl2 : l.length ≤ 1000000000000) : Ev (fun k => laws_markUpdateS.f k l a) (a + 2 * (l.length : Int), msUpdate a l.length) := by
 unfold laws_markUpdateS.f
 have hc := msUpdate_length a l.length; have h := ev_down (g := fun k i => laws_markUpdateS.l0 k ((msUpdate a l.length).take i ++ l.drop i) (a + 2 * (i : Int)) (i : Int)) (r := (a + 2 * (l.length : Int), msUpdate a l.length)) l.length ?_ ?_
 ·simpa using h
 ·refine Ev.step (f := fun _ => some (a + 2 * (l.length : Int), msUpdate a l.length)) (fun k => ?_) (ev_some _)
  simp only [laws_markUpdateS.l0]
  rw [if_neg (by simp; omega), List.drop_of_length_le (by omega), List.take_of_length_le (by omega)]; simp
 ·intro i hi h
  have hlen : ((msUpdate a l.length).take i ++ l.drop i).length = l.length := by simp [hc]; omega
  refine Ev.step (f := fun k => (laws_markText.f k (a + 2 * (i : Int) + 1)).bind fun t => laws_markUpdateS.l0 k (((msUpdate a l.length).take i ++ l.drop i).set i (⟨a + 2 * (i : Int), t⟩ : S77)) (a + 2 * (i : Int) + 2) ((i + 1 : Nat) : Int)) (fun k => ?_) (ev_bind (mText_ev _ (by omega)) ?_)
  ·have w1 : wrap64 (a + 2 * (i : Int) + 1) = a + 2 * (i : Int) + 1 := by rw [w64 (by omega) (by omega)]; try omega
   have w2 : wrap64 (a + 2 * (i : Int) + 1 + 1) = a + 2 * (i : Int) + 2 := by rw [w64 (by omega) (by omega)]; try omega
   simp only [laws_markUpdateS.l0, Option.bind_some, Int.toNat_natCast]
   rw [if_pos (by rw [hlen]; omega)]
   rw [if_pos (by omega)]
   simp only [rdset_Update _ _ _ (show i < _ by rw [hlen]; exact hi), List.set_set, w1, w2, wnext i (by omega)]
  ·have ev_ : (⟨a + 2 * (i : Int), mText (a + 2 * (i : Int) + 1)⟩ : S77) = mUpdate (a + 2 * (i : Int)) := rfl
   rw [ev_, set_mid l _ hc i hi _ (msUpdate_get a l.length i hi)]
   rw [show a + 2 * (i : Int) + 2 = a + 2 * ((i + 1 : Nat) : Int) by omega]
   exact h
theorem heldUpdateS_ev (n : Nat) (a : Int) (ha : 0 ≤ a) (hl : n + a ≤ 10000000000000) (hl2 : n ≤ 1000000000000) : Ev (fun k => laws_heldUpdateS.f k (msUpdate a n) a) (a + 2 * (n : Int)) := by
 unfold laws_heldUpdateS.f
 have hc := msUpdate_length a n; have h := ev_down (g := fun k i => laws_heldUpdateS.l0 k (msUpdate a n) (a + 2 * (i : Int)) (i : Int)) (r := a + 2 * (n : Int)) n ?_ ?_
 ·simpa using h
 ·refine Ev.step (f := fun _ => some (a + 2 * (n : Int))) (fun k => ?_) (ev_some _)
  simp only [laws_heldUpdateS.l0]
  rw [if_neg (by omega)]
 ·intro i hi h
  refine Ev.step (f := fun k => if ((rd_T77 (msUpdate a n) (i : Int)).f0) = a + 2 * (i : Int) then ((laws_markText.f k (a + 2 * (i : Int) + 1)).bind fun t => if ((rd_T77 (msUpdate a n) (i : Int)).f1).toList = t.toList then (laws_heldUpdateS.l0 k (msUpdate a n) (a + 2 * (i : Int) + 2) ((i + 1 : Nat) : Int)) else (some (-1))) else (some (-1))) (fun k => ?_) (ev_pos (by rw [rdE_Update _ i (by omega), msUpdate_get a n i hi]; rfl) (ev_bind (mText_ev _ (by omega)) (ev_pos (by rw [rdE_Update _ i (by omega), msUpdate_get a n i hi]; rfl) ?_)))
  ·have w1 : wrap64 (a + 2 * (i : Int) + 1) = a + 2 * (i : Int) + 1 := by rw [w64 (by omega) (by omega)]; try omega
   have w2 : wrap64 (a + 2 * (i : Int) + 1 + 1) = a + 2 * (i : Int) + 2 := by rw [w64 (by omega) (by omega)]; try omega
   simp only [laws_heldUpdateS.l0]
   rw [if_pos (by omega), if_pos (by omega)]
   simp only [w1, w2, wnext i (by omega)]
  ·rw [show a + 2 * (i : Int) + 2 = a + 2 * ((i + 1 : Nat) : Int) by omega]
   exact h
def low (t : ByteArray) (i : Nat) : Bool := inB (bt t (i : Int)) 97 122
def nameOK (t : ByteArray) : Bool := (List.range t.size).all (low t) && inB (t.size : Int) 1 6
theorem wn (i : Nat) (h : i < 1000000000000000000) : wrap64 ((i : Int) + 1) = ((i + 1 : Nat) : Int) := by rw [w64 (by omega) (by omega)]; omega
theorem range_cut (i n : Nat) (h : i < n) : List.range' i (n - i) = i :: List.range' (i + 1) (n - (i + 1)) := by
 obtain ⟨d, rfl⟩ : ∃ d, n = i + 1 + d := ⟨n - (i + 1), by omega⟩
 rw [show i + 1 + d - i = d + 1 by omega, show i + 1 + d - (i + 1) = d by omega, List.range'_succ]
theorem spec_name_from (t : ByteArray) (ht : t.size ≤ 1000000000000) (d : Nat) : ∀ (k i : Nat), i ≤ t.size → t.size - i = d → d < k →
    spec_l10Name.l0 k t i = some ((List.range' i (t.size - i)).all (low t) && inB (t.size : Int) 1 6) := by
  induction d with
  | zero =>
    intro k i hi hd hk
    obtain ⟨k, rfl⟩ : ∃ m, k = m + 1 := ⟨k - 1, by omega⟩
    simp only [spec_l10Name.l0, l01In_eq, Option.bind_some]
    rw [if_neg (by omega), hd]; rfl
  | succ d ih =>
    intro k i hi hd hk
    obtain ⟨k, rfl⟩ : ∃ m, k = m + 1 := ⟨k - 1, by omega⟩
    simp only [spec_l10Name.l0]
    rw [if_pos (by omega), if_pos (by omega), range_cut i t.size (by omega), List.all_cons, wn i (by omega)]
    have := ih k (i + 1) (by omega) (by omega) (by omega)
    by_cases h1 : bt t (i : Int) < 97
    · have e : low t i = false := by unfold low; rw [inB_no]; omega
      rw [if_pos h1, e]; rfl
    · by_cases h2 : bt t (i : Int) > 122
      · have e : low t i = false := by unfold low; rw [inB_no]; omega
        rw [if_neg h1, if_pos h2, e]; rfl
      · have e : low t i = true := by unfold low; rw [inB_iff]; omega
        rw [if_neg h1, if_neg h2, e, Bool.true_and]; exact this
theorem spec_name_ev (t : ByteArray) (ht : t.size ≤ 1000000000000) : Ev (fun k => spec_l10Name.f k t) (nameOK t) :=
 ⟨t.size + 1, fun k hk => by have := spec_name_from t ht t.size k 0 (by omega) (by omega) (by omega); simpa [spec_l10Name.f, nameOK, List.range_eq_range'] using this⟩
theorem impl_name_from (t : ByteArray) (ht : t.size ≤ 1000000000000) (d : Nat) : ∀ (k i : Nat), i ≤ t.size → t.size - i = d → d < k →
    impl_snapNameOK.l0 k t (t.size : Int) i = some ((List.range' i (t.size - i)).all (low t) && inB (t.size : Int) 1 6) := by
  induction d with
  | zero =>
    intro k i hi hd hk
    obtain ⟨k, rfl⟩ : ∃ m, k = m + 1 := ⟨k - 1, by omega⟩
    simp only [impl_snapNameOK.l0, within_eq, Option.bind_some]
    rw [if_neg (by omega), hd]; rfl
  | succ d ih =>
    intro k i hi hd hk
    obtain ⟨k, rfl⟩ : ∃ m, k = m + 1 := ⟨k - 1, by omega⟩
    simp only [impl_snapNameOK.l0]
    rw [if_pos (by omega), if_pos (by omega), if_pos (by omega), range_cut i t.size (by omega), List.all_cons, wn i (by omega)]
    have := ih k (i + 1) (by omega) (by omega) (by omega)
    by_cases h1 : bt t (i : Int) < 97
    · have e : low t i = false := by unfold low; rw [inB_no]; omega
      rw [if_pos h1, e]; rfl
    · by_cases h2 : bt t (i : Int) > 122
      · have e : low t i = false := by unfold low; rw [inB_no]; omega
        rw [if_neg h1, if_pos h2, e]; rfl
      · have e : low t i = true := by unfold low; rw [inB_iff]; omega
        rw [if_neg h1, if_neg h2, e, Bool.true_and]; exact this
theorem impl_name_ev (t : ByteArray) (ht : t.size ≤ 1000000000000) : Ev (fun k => impl_snapNameOK.f k t) (nameOK t) :=
 ⟨t.size + 1, fun k hk => by have := impl_name_from t ht t.size k 0 (by omega) (by omega) (by omega); simpa [impl_snapNameOK.f, nameOK, List.range_eq_range'] using this⟩
def nameStep (t : ByteArray) (n : Int) (i : Nat) : Int := wrap64 ((wrap64 ((wrap64 (27 * n)) + (((bt t (i : Int)) - 97) % 256))) + 1)
def nameNum (t : ByteArray) : Int := (List.range t.size).foldl (nameStep t) 0
theorem spec_num_from (t : ByteArray) (ht : t.size ≤ 1000000000000) (d : Nat) : ∀ (k i : Nat) (n : Int), i ≤ t.size → t.size - i = d → d < k →
    spec_l11Name.l0 k t n i = some ((List.range' i (t.size - i)).foldl (nameStep t) n) := by
  induction d with
  | zero =>
    intro k i n hi hd hk
    obtain ⟨k, rfl⟩ : ∃ m, k = m + 1 := ⟨k - 1, by omega⟩
    simp only [spec_l11Name.l0]
    rw [if_neg (by omega), hd]; rfl
  | succ d ih =>
    intro k i n hi hd hk
    obtain ⟨k, rfl⟩ : ∃ m, k = m + 1 := ⟨k - 1, by omega⟩
    simp only [spec_l11Name.l0]
    rw [if_pos (by omega), if_pos (by omega), range_cut i t.size (by omega), List.foldl_cons, wn i (by omega)]
    exact ih k (i + 1) _ (by omega) (by omega) (by omega)
theorem spec_num_ev (t : ByteArray) (ht : t.size ≤ 1000000000000) : Ev (fun k => spec_l11Name.f k t) (nameNum t) :=
 ⟨t.size + 1, fun k hk => by have := spec_num_from t ht t.size k 0 0 (by omega) (by omega) (by omega); simpa [spec_l11Name.f, nameNum, List.range_eq_range'] using this⟩
theorem impl_num_from (t : ByteArray) (ht : t.size ≤ 1000000000000) (d : Nat) : ∀ (k i : Nat) (n : Int), i ≤ t.size → t.size - i = d → d < k →
    impl_packName.l0 k t n (t.size : Int) i = some ((List.range' i (t.size - i)).foldl (nameStep t) n) := by
  induction d with
  | zero =>
    intro k i n hi hd hk
    obtain ⟨k, rfl⟩ : ∃ m, k = m + 1 := ⟨k - 1, by omega⟩
    simp only [impl_packName.l0]
    rw [if_neg (by omega), hd]; rfl
  | succ d ih =>
    intro k i n hi hd hk
    obtain ⟨k, rfl⟩ : ∃ m, k = m + 1 := ⟨k - 1, by omega⟩
    simp only [impl_packName.l0]
    rw [if_pos (by omega), if_pos (by omega), if_pos (by omega), range_cut i t.size (by omega), List.foldl_cons, wn i (by omega)]
    exact ih k (i + 1) _ (by omega) (by omega) (by omega)
theorem impl_num_ev (t : ByteArray) (ht : t.size ≤ 1000000000000) : Ev (fun k => impl_packName.f k t) (nameNum t) :=
 ⟨t.size + 1, fun k hk => by have := impl_num_from t ht t.size k 0 0 (by omega) (by omega) (by omega); simpa [impl_packName.f, nameNum, List.range_eq_range'] using this⟩
/-- The bytes of a number. -/
def quad (n : Int) : List Int := [n % 256, n / 256 % 256, n / 65536 % 256, n / 16777216 % 256]
def packP (l : List Int) : List Int := l.flatMap quad
theorem packP_length (l : List Int) : (packP l).length = 4 * l.length := by
  induction l with
  | nil => rfl
  | cons x xs ih => simp only [packP, List.flatMap_cons, List.length_append] at ih ⊢; rw [ih]; simp [quad]; omega
theorem packP_snoc (l : List Int) (x : Int) : packP (l ++ [x]) = packP l ++ quad x := by simp [packP]
theorem rd_eq (l : List Int) (i : Nat) (h : i < l.length) : rd l (i : Int) = l[i] := by simp [rd, h]
theorem take_next {α : Type} (l : List α) (i : Nat) (h : i < l.length) : l.take (i + 1) = l.take i ++ [l[i]] := by
 rw [List.take_succ_eq_append_getElem h]
theorem spec_pack_in (l out : List Int) (i : Nat) (n : Int) (h : out.length + 4 < 140737488355328) (k : Nat) (hk : 5 ≤ k) :
  spec_l02Pack.l1 k l out i n 0 = spec_l02Pack.l0 (k - 5) l (out ++ quad n) (wrap64 ((i : Int) + 1)) := by
 obtain ⟨k, rfl⟩ : ∃ m, k = m + 5 := ⟨k - 5, by omega⟩
 have e1 : wrap64 (0 + 1) = 1 := by rw [w64 (by omega) (by omega)]; omega
 have e2 : wrap64 (1 + 1) = 2 := by rw [w64 (by omega) (by omega)]; omega
 have e3 : wrap64 (2 + 1) = 3 := by rw [w64 (by omega) (by omega)]; omega
 have e4 : wrap64 (3 + 1) = 4 := by rw [w64 (by omega) (by omega)]; omega
 simp only [spec_l02Pack.l1, e1, e2, e3, e4, List.length_append, List.length_cons, List.length_nil]
 rw [if_pos (by omega), if_pos (by omega), if_pos (by omega), if_pos (by omega), if_pos (by omega), if_pos (by omega), if_pos (by omega), if_pos (by omega), if_neg (by omega)]
 simp only [quad, Nat.add_sub_cancel, List.append_assoc, List.cons_append, List.nil_append]
 rw [Int.ediv_ediv_of_nonneg (by omega), Int.ediv_ediv_of_nonneg (by omega)]
 rfl
theorem spec_pack_from (l : List Int) (hl : l.length ≤ 1000000000) (d : Nat) : ∀ (k i : Nat), i ≤ l.length → l.length - i = d → 6 * d < k →
    spec_l02Pack.l0 k l (packP (l.take i)) i = some (strOfNums (packP l)) := by
  induction d with
  | zero =>
    intro k i hi hd hk
    obtain ⟨k, rfl⟩ : ∃ m, k = m + 1 := ⟨k - 1, by omega⟩
    simp only [spec_l02Pack.l0]
    rw [if_neg (by omega), List.take_of_length_le (by omega)]
  | succ d ih =>
    intro k i hi hd hk
    obtain ⟨k, rfl⟩ : ∃ m, k = m + 1 := ⟨k - 1, by omega⟩
    have hlt : i < l.length := by omega
    have hp := packP_length (l.take i)
    have hl2 : (l.take i).length ≤ i := List.length_take_le _ _
    simp only [spec_l02Pack.l0]
    rw [if_pos (by omega), if_pos (by omega), spec_pack_in _ _ _ _ (by omega) _ (by omega), rd_eq l i hlt, ← packP_snoc, ← take_next l i hlt, w64 (by omega) (by omega)]
    exact ih (k - 5) (i + 1) (by omega) (by omega) (by omega)
theorem spec_pack_ev (l : List Int) (hl : l.length ≤ 1000000000) : Ev (fun k => spec_l02Pack.f k l) (strOfNums (packP l)) :=
 ⟨6 * l.length + 1, fun k hk => by have := spec_pack_from l hl l.length k 0 (by omega) (by omega) (by omega); simpa [spec_l02Pack.f, packP] using this⟩
theorem impl_pack_from (l : List Int) (hl : l.length ≤ 1000000000) (d : Nat) : ∀ (k i : Nat), i ≤ l.length → l.length - i = d → d < k →
    impl_pack.l0 k (packP (l.take i)) l (l.length : Int) i = some (strOfNums (packP l)) := by
  induction d with
  | zero =>
    intro k i hi hd hk
    obtain ⟨k, rfl⟩ : ∃ m, k = m + 1 := ⟨k - 1, by omega⟩
    simp only [impl_pack.l0]
    rw [if_neg (by omega), List.take_of_length_le (by omega)]
  | succ d ih =>
    intro k i hi hd hk
    obtain ⟨k, rfl⟩ : ∃ m, k = m + 1 := ⟨k - 1, by omega⟩
    have hlt : i < l.length := by omega
    have hp := packP_length (l.take i)
    have hl2 : (l.take i).length ≤ i := List.length_take_le _ _
    simp only [impl_pack.l0]
    rw [if_pos (by omega), if_pos (by omega), if_pos (by omega)]
    simp only [Option.bind_some, List.length_cons, List.length_nil]
    rw [if_pos (by omega), rd_eq l i hlt]
    have : packP (l.take i) ++ [l[i] % 256, l[i] / 256 % 256, l[i] / 65536 % 256, l[i] / 16777216 % 256] = packP (l.take (i + 1)) := by
      rw [take_next l i hlt, packP_snoc]; rfl
    rw [this, w64 (by omega) (by omega)]
    exact ih k (i + 1) (by omega) (by omega) (by omega)
theorem impl_pack_ev (l : List Int) (hl : l.length ≤ 1000000000) : Ev (fun k => impl_pack.f k l) (strOfNums (packP l)) :=
 ⟨l.length + 1, fun k hk => by have := impl_pack_from l hl l.length k 0 (by omega) (by omega) (by omega); simpa [impl_pack.f, packP] using this⟩
/-- One step of the sum. -/
def sumStep (t : ByteArray) (n : Int) (i : Nat) : Int := Int.tmod (wrap64 (n + (wrap64 ((wrap64 ((i : Int) + 1)) * (wrap64 ((wrap64 (bt t i)) + 1)))))) 251
def sumP (t : ByteArray) : Int := (List.range t.size).foldl (sumStep t) 0
theorem range_split (i n : Nat) (h : i < n) : List.range' i (n - i) = i :: List.range' (i + 1) (n - (i + 1)) := by
 obtain ⟨d, rfl⟩ : ∃ d, n = i + 1 + d := ⟨n - (i + 1), by omega⟩
 rw [show i + 1 + d - i = d + 1 by omega, show i + 1 + d - (i + 1) = d by omega, List.range'_succ]
theorem spec_sum_from (t : ByteArray) (ht : t.size ≤ 1000000000000) (d : Nat) : ∀ (k i : Nat) (n : Int), i ≤ t.size → t.size - i = d → d < k →
    spec_l02Sum.l0 k t n i = some ((List.range' i (t.size - i)).foldl (sumStep t) n) := by
  induction d with
  | zero =>
    intro k i n hi hd hk
    obtain ⟨k, rfl⟩ : ∃ m, k = m + 1 := ⟨k - 1, by omega⟩
    simp only [spec_l02Sum.l0]
    rw [if_neg (by omega), hd]; rfl
  | succ d ih =>
    intro k i n hi hd hk
    obtain ⟨k, rfl⟩ : ∃ m, k = m + 1 := ⟨k - 1, by omega⟩
    simp only [spec_l02Sum.l0]
    rw [if_pos (by omega), if_pos (by omega), range_split i t.size (by omega)]
    have e : wrap64 ((i : Int) + 1) = ((i + 1 : Nat) : Int) := by rw [w64 (by omega) (by omega)]; rfl
    have := ih k (i + 1) (sumStep t n i) (by omega) (by omega) (by omega)
    rw [List.foldl_cons, ← this]
    simp only [sumStep, e]
theorem spec_sum_ev (t : ByteArray) (ht : t.size ≤ 1000000000000) : Ev (fun k => spec_l02Sum.f k t) (sumP t) :=
 ⟨t.size + 1, fun k hk => by have := spec_sum_from t ht t.size k 0 0 (by omega) (by omega) (by omega); simpa [spec_l02Sum.f, sumP, List.range_eq_range'] using this⟩
theorem impl_sum_from (t : ByteArray) (ht : t.size ≤ 1000000000000) (d : Nat) : ∀ (k i : Nat) (n : Int), i ≤ t.size → t.size - i = d → d < k →
    impl_sumOf.l0 k t n (t.size : Int) i = some ((List.range' i (t.size - i)).foldl (sumStep t) n) := by
  induction d with
  | zero =>
    intro k i n hi hd hk
    obtain ⟨k, rfl⟩ : ∃ m, k = m + 1 := ⟨k - 1, by omega⟩
    simp only [impl_sumOf.l0]
    rw [if_neg (by omega), hd]; rfl
  | succ d ih =>
    intro k i n hi hd hk
    obtain ⟨k, rfl⟩ : ∃ m, k = m + 1 := ⟨k - 1, by omega⟩
    simp only [impl_sumOf.l0]
    rw [if_pos (by omega), if_pos (by omega), if_pos (by omega), range_split i t.size (by omega)]
    have e : wrap64 ((i : Int) + 1) = ((i + 1 : Nat) : Int) := by rw [w64 (by omega) (by omega)]; rfl
    have := ih k (i + 1) (sumStep t n i) (by omega) (by omega) (by omega)
    rw [List.foldl_cons, ← this]
    simp only [sumStep, e]
theorem impl_sum_ev (t : ByteArray) (ht : t.size ≤ 1000000000000) : Ev (fun k => impl_sumOf.f k t) (sumP t) :=
 ⟨t.size + 1, fun k hk => by have := impl_sum_from t ht t.size k 0 0 (by omega) (by omega) (by omega); simpa [impl_sumOf.f, sumP, List.range_eq_range'] using this⟩
/-- A record. -/
def headP (kind : Int) (l : List Int) : ByteArray := strOfNums [kind % 256, (l.length : Int) % 256]
def sealP (kind : Int) (l : List Int) : ByteArray := headP kind l ++ strOfNums [sumP (headP kind l ++ strOfNums (packP l)) % 256, 0] ++ strOfNums (packP l)
theorem headP_size (kind : Int) (l : List Int) : (headP kind l).size = 2 := by simp [headP, strOfNums_size]
theorem sealP_size (kind : Int) (l : List Int) : (sealP kind l).size = 4 + 4 * l.length := by simp [sealP, headP_size, strOfNums_size, packP_length]
theorem spec_seal_ev (kind : Int) (l : List Int) (hl : l.length ≤ 1000000000) : Ev (fun k => spec_l02Seal.f k kind l) (sealP kind l) := by
 have hp : (strOfNums (packP l)).size = 4 * l.length := by rw [strOfNums_size, packP_length]
 have hh := headP_size kind l
 unfold spec_l02Seal.f
 refine ev_bind (spec_pack_ev l hl) ?_
 simp only [Option.bind_some]
 refine ev_pos (by rw [strOfNums_size, hp]; simp; omega) ?_
 refine ev_bind (spec_sum_ev _ (by rw [ba_size_append, strOfNums_size, hp]; simp; omega)) ?_
 refine ev_pos (by simp [strOfNums_size]) ?_
 refine ev_pos (by rw [ba_size_append, hp]; simp [strOfNums_size]; omega) ?_
 exact ev_some _
theorem impl_seal_ev (kind : Int) (l : List Int) (hl : l.length ≤ 1000000000) : Ev (fun k => impl_seal.f k kind l) (sealP kind l) := by
 have hp : (strOfNums (packP l)).size = 4 * l.length := by rw [strOfNums_size, packP_length]
 have hh := headP_size kind l
 unfold impl_seal.f
 simp only [Option.bind_some]
 refine ev_bind (impl_pack_ev l hl) ?_
 refine ev_pos (by rw [strOfNums_size, hp]; simp; omega) ?_
 refine ev_bind (impl_sum_ev _ (by rw [ba_size_append, strOfNums_size, hp]; simp; omega)) ?_
 refine ev_pos (by simp [strOfNums_size]) ?_
 refine ev_pos (by rw [ba_size_append, hp]; simp [strOfNums_size]; omega) ?_
 exact ev_some _
theorem bt_nn (t : ByteArray) (i : Int) : 0 ≤ bt t i := by unfold bt; split <;> omega
theorem bt_lt (t : ByteArray) (i : Int) : bt t i < 256 := by
 unfold bt; split
 ·have := (t[i.toNat]).toNat_lt; omega
 ·omega
theorem wraps_i64 (n : Int) (h0 : 0 ≤ n) (h1 : n < 2 ^ 63) : IntKind.i64.wrap n = n := by rw [IntKind.wrap_i64]; omega
theorem or64 (i : Nat) {x y : Int} (hx₀ : 0 ≤ x) (hx : x % 2 ^ i = 0) (hx₁ : x < 2 ^ 63) (h₀ : 0 ≤ y) (h₁ : y < 2 ^ i) (hy : y < 2 ^ 63) : Go.bits .or .i64 x y = x + y :=
 bits_join .i64 63 (by decide) wraps_i64 i x y hx₀ hx hx₁ h₀ h₁ hy
theorem or64' (i : Nat) {x y : Int} (hx₀ : 0 ≤ x) (hx : x % 2 ^ i = 0) (hx₁ : x < 2 ^ 63) (h₀ : 0 ≤ y) (h₁ : y < 2 ^ i) (hy : y < 2 ^ 63) : Go.bits .or .i64 y x = y + x := by
 obtain ⟨a, rfl⟩ := Int.eq_ofNat_of_zero_le hx₀
 obtain ⟨b, rfl⟩ := Int.eq_ofNat_of_zero_le h₀
 have ha : a < 2 ^ 63 := by exact_mod_cast hx₁
 have hb : b < 2 ^ 63 := by exact_mod_cast hy
 have h := or64 i (x := (a : Int)) (y := (b : Int)) hx₀ hx hx₁ h₀ h₁ hy
 rw [(bits_nat .i64 63 (by decide) wraps_i64 a b ha hb).2] at h
 rw [(bits_nat .i64 63 (by decide) wraps_i64 b a hb ha).2, Nat.or_comm, h]; omega
def numAt (t : ByteArray) (i : Nat) : Int := bt t (i : Int) + 256 * bt t ((i + 1 : Nat) : Int) + 65536 * bt t ((i + 2 : Nat) : Int) + 16777216 * bt t ((i + 3 : Nat) : Int)
def numsP (t : ByteArray) : List Int := (List.range (t.size / 4)).map (fun j => numAt t (4 * j))
theorem numsP_length (t : ByteArray) : (numsP t).length = t.size / 4 := by simp [numsP]
theorem numsP_take (t : ByteArray) (j : Nat) (h : j < t.size / 4) : (numsP t).take (j + 1) = (numsP t).take j ++ [numAt t (4 * j)] := by
 rw [take_next _ j (by rw [numsP_length]; exact h)]; simp [numsP]
def intsOK (l : List Int) : Bool := l.all (fun n => inB n 0 2147483647) && decide ((l.length : Int) ≤ 16)
theorem mul_wrap {a b c : Int} (h0 : 0 ≤ a) (h1 : a < c) (hb : 0 < b) (h : c * b ≤ 9223372036854775807) : wrap64 (a * b) = a * b := by
 have h2 : a * b ≤ c * b := Int.mul_le_mul_of_nonneg_right (by omega) (by omega)
 have h3 : 0 ≤ a * b := Int.mul_nonneg h0 (by omega)
 exact w64 (by omega) (by omega)
theorem four_up {a b c d : Int} (a0 : 0 ≤ a) (a1 : a < 256) (b0 : 0 ≤ b) (b1 : b < 256) (c0 : 0 ≤ c) (c1 : c < 256) (d0 : 0 ≤ d) (d1 : d < 256) :
  Go.bits .or .i64 (wrap64 (Go.bits .or .i64 (wrap64 (Go.bits .or .i64 (wrap64 (Go.bits .or .i64 (wrap64 (0 * 256)) (wrap64 d) * 256)) (wrap64 c) * 256)) (wrap64 b) * 256)) (wrap64 a) = a + 256 * b + 65536 * c + 16777216 * d := by
 rw [w64 (n := a) (by omega) (by omega), w64 (n := b) (by omega) (by omega), w64 (n := c) (by omega) (by omega), w64 (n := d) (by omega) (by omega)]
 rw [w64 (n := 0 * 256) (by omega) (by omega), or64 8 (x := 0 * 256) (by omega) (by omega) (by omega) d0 (by omega) (by omega)]
 obtain ⟨u, hu⟩ : ∃ u, u = 0 * 256 + d := ⟨_, rfl⟩
 rw [← hu, w64 (n := u * 256) (by omega) (by omega), or64 8 (x := u * 256) (by omega) (by omega) (by omega) c0 (by omega) (by omega)]
 obtain ⟨v, hv⟩ : ∃ v, v = u * 256 + c := ⟨_, rfl⟩
 rw [← hv, w64 (n := v * 256) (by omega) (by omega), or64 8 (x := v * 256) (by omega) (by omega) (by omega) b0 (by omega) (by omega)]
 obtain ⟨x, hx⟩ : ∃ x, x = v * 256 + b := ⟨_, rfl⟩
 rw [← hx, w64 (n := x * 256) (by omega) (by omega), or64 8 (x := x * 256) (by omega) (by omega) (by omega) a0 (by omega) (by omega)]
 omega
theorem four_down {a b c d : Int} (a0 : 0 ≤ a) (a1 : a < 256) (b0 : 0 ≤ b) (b1 : b < 256) (c0 : 0 ≤ c) (c1 : c < 256) (d0 : 0 ≤ d) (d1 : d < 256) :
  Go.bits .or .i64 (Go.bits .or .i64 (Go.bits .or .i64 (wrap64 a) (wrap64 (wrap64 b * 256))) (wrap64 (wrap64 c * 65536))) (wrap64 (wrap64 d * 16777216)) = a + 256 * b + 65536 * c + 16777216 * d := by
 rw [w64 (n := a) (by omega) (by omega), w64 (n := b) (by omega) (by omega), w64 (n := c) (by omega) (by omega), w64 (n := d) (by omega) (by omega)]
 rw [w64 (n := b * 256) (by omega) (by omega), w64 (n := c * 65536) (by omega) (by omega), w64 (n := d * 16777216) (by omega) (by omega)]
 rw [or64' 8 (x := b * 256) (by omega) (by omega) (by omega) a0 (by omega) (by omega)]
 obtain ⟨u, hu⟩ : ∃ u, u = a + b * 256 := ⟨_, rfl⟩
 rw [← hu, or64' 16 (x := c * 65536) (by omega) (by omega) (by omega) (y := u) (by omega) (by omega) (by omega)]
 obtain ⟨v, hv⟩ : ∃ v, v = u + c * 65536 := ⟨_, rfl⟩
 rw [← hv, or64' 24 (x := d * 16777216) (by omega) (by omega) (by omega) (y := v) (by omega) (by omega) (by omega)]
 omega
theorem up_to (i : Nat) (h : i < 1000000000000) (c : Nat) (hc : c ≤ 10) : wrap64 ((i : Int) + (c : Int)) = ((i + c : Nat) : Int) := by rw [w64 (by omega) (by omega)]; omega
def recNums (t : ByteArray) : List Int := numsP (t.extract 4 t.size)
def bodyOK (t : ByteArray) (kind : Int) : Bool := decide ((t.extract 4 t.size).size % 4 = 0 ∧ intsOK (recNums t) = true ∧ sealP kind (recNums t) = t)
theorem bodyOK_iff {t : ByteArray} {kind : Int} : bodyOK t kind = true ↔ (t.extract 4 t.size).size % 4 = 0 ∧ intsOK (recNums t) = true ∧ sealP kind (recNums t) = t := by simp only [bodyOK, decide_eq_true_eq]
def recOK (t : ByteArray) (kind : Int) : Bool := decide (4 ≤ t.size) && (bt t 0 == kind && (inB kind 1 9 && bodyOK t kind))
theorem recOK_iff {t : ByteArray} {kind : Int} : recOK t kind = true ↔ 4 ≤ t.size ∧ bt t 0 = kind ∧ inB kind 1 9 = true ∧ (t.extract 4 t.size).size % 4 = 0 ∧ intsOK (recNums t) = true ∧ sealP kind (recNums t) = t := by
 simp only [recOK, Bool.and_eq_true, decide_eq_true_eq, beq_iff_eq, bodyOK_iff]
theorem recOK_no {t : ByteArray} {kind : Int} (h : ¬ (4 ≤ t.size ∧ bt t 0 = kind ∧ inB kind 1 9 = true ∧ (t.extract 4 t.size).size % 4 = 0 ∧ intsOK (recNums t) = true ∧ sealP kind (recNums t) = t)) : recOK t kind = false := by
  cases hr : recOK t kind with
  | false => rfl
  | true => exact absurd (recOK_iff.1 hr) h
theorem ext_size (t : ByteArray) : (t.extract 4 t.size).size = t.size - 4 := by simp
theorem bt0 (t : ByteArray) : wrap64 (bt t 0) = bt t 0 := by have := bt_nn t 0; have := bt_lt t 0; exact w64 (by omega) (by omega)
theorem isNumber_eq (n : Int) : impl_isNumber.f n = some (inB n 0 2147483647) := by simp only [impl_isNumber.f, within_eq, Option.bind_some]
theorem all_number (l : List Int) : all80_impl_isNumber.f l () = some (l.all (fun n => inB n 0 2147483647)) := by
 unfold all80_impl_isNumber.f; exact allO_some _ _ (fun x _ => isNumber_eq x)
theorem intsOK_take (l : List Int) : intsOK (l.take 17) = intsOK l := by
 by_cases h : l.length ≤ 16
 ·rw [List.take_of_length_le (by omega)]
 ·have h1 : intsOK l = false := by simp [intsOK]; intro _; omega
  have h2 : intsOK (l.take 17) = false := by simp [intsOK]; intro _; omega
  rw [h1, h2]
def openL (t : ByteArray) : List Int := if t.size < 4 ∨ t.size > 80 ∨ inB (bt t 0) 1 9 = false then [] else (recNums t).take 17
theorem recOK_openL {t : ByteArray} {kind : Int} (h : recOK t kind = true) : openL t = recNums t := by
 obtain ⟨h1, h2, h3, h4, h5, h6⟩ := recOK_iff.1 h
 have hl : (recNums t).length ≤ 16 := by
  simp only [intsOK, Bool.and_eq_true, decide_eq_true_eq] at h5
  omega
 have hs : t.size ≤ 80 := by
  unfold recNums at hl; rw [numsP_length] at hl; rw [ext_size] at hl h4; omega
 unfold openL
 rw [if_neg (by rw [h2]; simp [h3]; omega), List.take_of_length_le (by omega)]
theorem recOK_long {t : ByteArray} {kind : Int} (h : t.size > 80) : recOK t kind = false := by
 refine recOK_no (fun hr => ?_)
 obtain ⟨h1, h2, h3, h4, h5, h6⟩ := hr
 simp only [intsOK, Bool.and_eq_true, decide_eq_true_eq] at h5
 have := h5.2
 unfold recNums at this
 rw [numsP_length] at this; rw [ext_size] at this h4; omega
theorem packP_get? (l : List Int) : ∀ j c, c < 4 → (packP l)[4 * j + c]? = (l[j]?).bind (fun x => (quad x)[c]?) := by
  induction l with
  | nil => intro j c _; simp [packP]
  | cons x xs ih =>
    intro j c hc
    have e : packP (x :: xs) = quad x ++ packP xs := rfl
    have hq : (quad x).length = 4 := rfl
    rw [e]
    cases j with
    | zero => rw [List.getElem?_append_left (by rw [hq]; omega)]; simp
    | succ j =>
      rw [List.getElem?_append_right (by rw [hq]; omega), hq, show 4 * (j + 1) + c - 4 = 4 * j + c by omega, ih j c hc]
      simp
theorem quad_range (n : Int) : ∀ y ∈ quad n, 0 ≤ y ∧ y < 256 := by
 intro y hy
 simp only [quad, List.mem_cons, List.not_mem_nil, or_false] at hy
 rcases hy with rfl | rfl | rfl | rfl <;> omega
theorem packP_range (l : List Int) : ∀ y ∈ packP l, 0 ≤ y ∧ y < 256 := by
 intro y hy
 simp only [packP, List.mem_flatMap] at hy
 obtain ⟨x, _, hx⟩ := hy
 exact quad_range x y hx
theorem bt_str (l : List Int) (i : Nat) (y : Int) (h : l[i]? = some y) (h0 : 0 ≤ y) (h1 : y < 256) : bt (strOfNums l) (i : Int) = y := by
 obtain ⟨hi, rfl⟩ := List.getElem?_eq_some_iff.1 h
 have hs : ((i : Int)).toNat < (strOfNums l).size := by rw [strOfNums_size]; simpa using hi
 unfold bt
 rw [dif_pos hs]
 have : ((strOfNums l)[((i : Int)).toNat]'hs) = UInt8.ofNat (l[i]).toNat := by
  show (List.map _ l).toArray[((i : Int)).toNat] = _
  simp
 rw [this]
 simp only [UInt8.toNat_ofNat']
 omega
theorem numAt_pack (l : List Int) (j : Nat) (hj : j < l.length) (h0 : 0 ≤ l[j]) (h1 : l[j] < 4294967296) : numAt (strOfNums (packP l)) (4 * j) = l[j] := by
 have g : ∀ c, c < 4 → (packP l)[4 * j + c]? = (quad l[j])[c]? := by
  intro c hc; rw [packP_get? l j c hc, List.getElem?_eq_getElem hj]; rfl
 have b : ∀ c y, c < 4 → (quad l[j])[c]? = some y → bt (strOfNums (packP l)) ((4 * j + c : Nat) : Int) = y := by
  intro c y hc hy
  have hr := quad_range l[j] y (List.mem_of_getElem? hy)
  exact bt_str _ _ _ ((g c hc).trans hy) hr.1 hr.2
 unfold numAt
 have b0 := b 0 _ (by omega) (show (quad l[j])[0]? = some (l[j] % 256) from rfl); have b1 := b 1 _ (by omega) (show (quad l[j])[1]? = some (l[j] / 256 % 256) from rfl); have b2 := b 2 _ (by omega) (show (quad l[j])[2]? = some (l[j] / 65536 % 256) from rfl); have b3 := b 3 _ (by omega) (show (quad l[j])[3]? = some (l[j] / 16777216 % 256) from rfl)
 rw [Nat.add_zero] at b0
 rw [b0, b1, b2, b3]
 omega
theorem numsP_pack (l : List Int) (h : ∀ x ∈ l, 0 ≤ x ∧ x < 4294967296) : numsP (strOfNums (packP l)) = l := by
 have hs : (strOfNums (packP l)).size / 4 = l.length := by rw [strOfNums_size, packP_length]; omega
 refine List.ext_getElem (by rw [numsP_length, hs]) (fun i h1 h2 => ?_)
 simp only [numsP, List.getElem_map, List.getElem_range]
 exact numAt_pack l i h2 (h _ (List.getElem_mem h2)).1 (h _ (List.getElem_mem h2)).2
theorem recNums_seal (kind : Int) (l : List Int) (h : ∀ x ∈ l, 0 ≤ x ∧ x < 4294967296) : recNums (sealP kind l) = l := by
 have e : (sealP kind l).extract 4 (sealP kind l).size = strOfNums (packP l) := by
  unfold sealP
  rw [ByteArray.extract_append_eq_right]
  ·simp [headP_size, strOfNums_size]
  ·simp
 unfold recNums; rw [e]; exact numsP_pack l h
theorem bt_app (a b : ByteArray) (i : Nat) (h : i < a.size) : bt (a ++ b) (i : Int) = bt a (i : Int) := by
 have h1 : ((i : Int)).toNat < (a ++ b).size := by rw [ba_size_append]; omega
 have h2 : ((i : Int)).toNat < a.size := by omega
 unfold bt
 rw [dif_pos h1, dif_pos h2, ByteArray.getElem_append_left h2]
theorem bt_take (t : ByteArray) (n i : Nat) (h : i < n) (hn : n ≤ t.size) : bt (t.extract 0 n) (i : Int) = bt t (i : Int) := by
 have h1 : ((i : Int)).toNat < (t.extract 0 n).size := by rw [ByteArray.size_extract]; omega
 have h2 : ((i : Int)).toNat < t.size := by omega
 unfold bt
 rw [dif_pos h1, dif_pos h2, ByteArray.getElem_extract]
 simp only [Nat.zero_add]
theorem bt_head0 (kind : Int) (l : List Int) (h0 : 0 ≤ kind) (h1 : kind < 256) : bt (sealP kind l) 0 = kind := by
 have : bt (sealP kind l) ((0 : Nat) : Int) = bt (headP kind l) ((0 : Nat) : Int) := by
  unfold sealP; rw [bt_app _ _ 0 (by simp [headP_size, strOfNums_size]), bt_app _ _ 0 (by simp [headP_size])]
 rw [show (0 : Int) = ((0 : Nat) : Int) from rfl, this]
 unfold headP
 rw [bt_str _ 0 (kind % 256) rfl (by omega) (by omega)]; omega
theorem bt_head1 (kind : Int) (l : List Int) : bt (sealP kind l) 1 = (l.length : Int) % 256 := by
 have : bt (sealP kind l) ((1 : Nat) : Int) = bt (headP kind l) ((1 : Nat) : Int) := by
  unfold sealP; rw [bt_app _ _ 1 (by simp [headP_size, strOfNums_size]), bt_app _ _ 1 (by simp [headP_size])]
 rw [show (1 : Int) = ((1 : Nat) : Int) from rfl, this]
 unfold headP
 exact bt_str _ 1 _ rfl (by omega) (by omega)
theorem intsOK_of (l : List Int) (hl : l.length ≤ 16) (h : ∀ x ∈ l, 0 ≤ x ∧ x ≤ 2147483647) : intsOK l = true := by
 unfold intsOK
 rw [Bool.and_eq_true, List.all_eq_true]
 exact ⟨fun x hx => inB_iff.2 (h x hx), decide_eq_true (by omega)⟩
theorem recOK_seal (kind : Int) (l : List Int) (hk : inB kind 1 9 = true) (hl : l.length ≤ 16) (h : ∀ x ∈ l, 0 ≤ x ∧ x ≤ 2147483647) : recOK (sealP kind l) kind = true := by
 have hr := recNums_seal kind l (fun x hx => ⟨(h x hx).1, by have := (h x hx).2; omega⟩)
 have hk' := inB_iff.1 hk
 refine recOK_iff.2 ⟨by rw [sealP_size]; omega, bt_head0 kind l (by omega) (by omega), hk, ?_, by rw [hr]; exact intsOK_of l hl h, by rw [hr]⟩
 rw [ext_size, sealP_size]; omega
theorem recOK_cut (kind : Int) (l : List Int) (n : Nat) (hl : l.length ≤ 16) (hn : n < (sealP kind l).size) (kind' : Int) : recOK ((sealP kind l).extract 0 n) kind' = false := by
 refine recOK_no (fun hc => ?_)
 obtain ⟨h4, _, _, _, _, hs⟩ := hc
 have hz : ((sealP kind l).extract 0 n).size = n := by rw [ByteArray.size_extract]; omega
 rw [hz] at h4
 have h1 := bt_take (sealP kind l) n 1 (by omega) (by omega)
 have e1 : bt (sealP kind l) ((1 : Nat) : Int) = (l.length : Int) % 256 := bt_head1 kind l
 rw [e1] at h1
 have e2 := congrArg ByteArray.size hs
 rw [hz, sealP_size] at e2
 rw [sealP_size] at hn
 have e3 : bt (sealP kind' (recNums ((sealP kind l).extract 0 n))) ((1 : Nat) : Int) = _ := bt_head1 _ _
 rw [hs, h1] at e3
 omega
def dv (n : Int) : Int := wrap64 (Int.tdiv n 16)
def six (n : Int) : List Int := [Int.tmod n 16, Int.tmod (dv n) 16, Int.tmod (dv (dv n)) 16, Int.tmod (dv (dv (dv n))) 16, Int.tmod (dv (dv (dv (dv n)))) 16, Int.tmod (dv (dv (dv (dv (dv n))))) 16]
def rest6 (n : Int) : Int := dv (dv (dv (dv (dv (dv n)))))
def fits (n : Int) : Bool := !decide (rest6 n > 0)
def refsP (l : List Int) : List Int × Bool := if l.all fits = true then (l.flatMap six, true) else ([], false)
theorem sx_len (l : List Int) : (l.flatMap six).length = 6 * l.length := by
  induction l with
  | nil => rfl
  | cons x xs ih => simp only [List.flatMap_cons, List.length_append, ih, List.length_cons]; simp [six]; omega
theorem wlit (i : Int) (h0 : 0 ≤ i) (h : i < 100) : wrap64 (i + 1) = i + 1 := by rw [w64 (by omega) (by omega)]
def refsAt (t : ByteArray) : List Int × Bool := if recOK t 2 = true ∧ (recNums t).length = 4 then refsP (recNums t) else ([], false)
theorem refsAt_len (t : ByteArray) : (refsAt t).1.length ≤ 24 := by
 unfold refsAt refsP
 split
 ·rename_i h
  split
  ·show ((recNums t).flatMap six).length ≤ 24; rw [sx_len]; omega
  ·simp
 ·simp
theorem refs_in {l : List Int} (h : refsOK l = true) : ∀ x ∈ l, 0 ≤ x ∧ x ≤ 15 := by
 unfold refsOK at h; rw [Bool.and_eq_true, List.all_eq_true] at h
 intro x hx
 have := h.1 x hx
 unfold inB at this
 simp only [Bool.and_eq_true, decide_eq_true_eq] at this
 exact this
theorem refs_of {l : List Int} (h : l.length = 24) (hx : ∀ x ∈ l, 0 ≤ x ∧ x ≤ 15) : refsOK l = true := by
 unfold refsOK; rw [Bool.and_eq_true, List.all_eq_true, beq_iff_eq]
 refine ⟨fun x hm => ?_, by omega⟩
 have := hx x hm
 unfold inB
 simp only [Bool.and_eq_true, decide_eq_true_eq]
 exact this
def stN (s v : Int) : Int := wrap64 (wrap64 (16 * s) + v)
def st6 (a b c d e f : Int) : Int := stN (stN (stN (stN (stN (stN 0 f) e) d) c) b) a
theorem stN_eq {s v : Int} (h0 : 0 ≤ s) (h1 : s ≤ 1000000000) (v0 : 0 ≤ v) (v1 : v ≤ 15) : stN s v = v + 16 * s := by
 unfold stN
 rw [w64 (n := 16 * s) (by omega) (by omega), w64 (by omega) (by omega)]; omega
theorem dv_of {q r : Int} (q0 : 0 ≤ q) (q1 : q ≤ 1000000000) (r0 : 0 ≤ r) (r1 : r ≤ 15) : dv (r + 16 * q) = q ∧ Int.tmod (r + 16 * q) 16 = r := by
 unfold dv
 rw [Int.tdiv_eq_ediv_of_nonneg (by omega), Int.tmod_eq_emod_of_nonneg (by omega)]
 rw [w64 (by omega) (by omega)]
 constructor <;> omega
theorem st6_eq {a b c d e f : Int} (ha : 0 ≤ a ∧ a ≤ 15) (hb : 0 ≤ b ∧ b ≤ 15) (hc : 0 ≤ c ∧ c ≤ 15) (hd : 0 ≤ d ∧ d ≤ 15) (he : 0 ≤ e ∧ e ≤ 15) (hf : 0 ≤ f ∧ f ≤ 15) :
  (0 ≤ st6 a b c d e f ∧ st6 a b c d e f ≤ 2147483647) ∧ fits (st6 a b c d e f) = true ∧ six (st6 a b c d e f) = [a, b, c, d, e, f] := by
 unfold st6
 rw [stN_eq (s := 0) (by omega) (by omega) hf.1 hf.2]
 rw [stN_eq (v := e) (by omega) (by omega) he.1 he.2, stN_eq (v := d) (by omega) (by omega) hd.1 hd.2, stN_eq (v := c) (by omega) (by omega) hc.1 hc.2, stN_eq (v := b) (by omega) (by omega) hb.1 hb.2, stN_eq (v := a) (by omega) (by omega) ha.1 ha.2]
 have f1 := dv_of (q := 0) (r := f) (by omega) (by omega) hf.1 hf.2; have f2 := dv_of (q := f + 16 * 0) (r := e) (by omega) (by omega) he.1 he.2; have f3 := dv_of (q := e + 16 * (f + 16 * 0)) (r := d) (by omega) (by omega) hd.1 hd.2; have f4 := dv_of (q := d + 16 * (e + 16 * (f + 16 * 0))) (r := c) (by omega) (by omega) hc.1 hc.2; have f5 := dv_of (q := c + 16 * (d + 16 * (e + 16 * (f + 16 * 0)))) (r := b) (by omega) (by omega) hb.1 hb.2; have f6 := dv_of (q := b + 16 * (c + 16 * (d + 16 * (e + 16 * (f + 16 * 0))))) (r := a) (by omega) (by omega) ha.1 ha.2
 refine ⟨by omega, ?_, ?_⟩
 ·unfold fits rest6
  rw [f6.1, f5.1, f4.1, f3.1, f2.1, f1.1]; rfl
 ·unfold six
  rw [f6.1, f5.1, f4.1, f3.1, f2.1, f6.2, f5.2, f4.2, f3.2, f2.2, f1.2]
theorem list24 {l : List Int} (h : l.length = 24) : ∃ x0 x1 x2 x3 x4 x5 x6 x7 x8 x9 x10 x11 x12 x13 x14 x15 x16 x17 x18 x19 x20 x21 x22 x23 : Int, l = [x0, x1, x2, x3, x4, x5, x6, x7, x8, x9, x10, x11, x12, x13, x14, x15, x16, x17, x18, x19, x20, x21, x22, x23] := by
  match l, h with
  | [x0, x1, x2, x3, x4, x5, x6, x7, x8, x9, x10, x11, x12, x13, x14, x15, x16, x17, x18, x19, x20, x21, x22, x23], _ => exact ⟨_, _, _, _, _, _, _, _, _, _, _, _, _, _, _, _, _, _, _, _, _, _, _, _, rfl⟩
theorem pack_lit (x0 x1 x2 x3 x4 x5 x6 x7 x8 x9 x10 x11 x12 x13 x14 x15 x16 x17 x18 x19 x20 x21 x22 x23 : Int) : impl_refsText_pack [x0, x1, x2, x3, x4, x5, x6, x7, x8, x9, x10, x11, x12, x13, x14, x15, x16, x17, x18, x19, x20, x21, x22, x23] = [(st6 x0 x1 x2 x3 x4 x5), (st6 x6 x7 x8 x9 x10 x11), (st6 x12 x13 x14 x15 x16 x17), (st6 x18 x19 x20 x21 x22 x23)] := by kernel_rfl
theorem enc_lit (k : Nat) (x0 x1 x2 x3 x4 x5 x6 x7 x8 x9 x10 x11 x12 x13 x14 x15 x16 x17 x18 x19 x20 x21 x22 x23 : Int) : spec_l08Encode.f (k + 33) [x0, x1, x2, x3, x4, x5, x6, x7, x8, x9, x10, x11, x12, x13, x14, x15, x16, x17, x18, x19, x20, x21, x22, x23] = (spec_l02Seal.f k 2 [(st6 x0 x1 x2 x3 x4 x5), (st6 x6 x7 x8 x9 x10 x11), (st6 x12 x13 x14 x15 x16 x17), (st6 x18 x19 x20 x21 x22 x23)]).bind fun t => some t := by kernel_rfl
def four (l : List Int) : List Int := impl_refsText_pack l
theorem refs_text {l : List Int} (h : refsOK l = true) : Ev (fun k => impl_refsText.f k l) (sealP 2 (four l)) ∧ Ev (fun k => spec_l08Encode.f k l) (sealP 2 (four l)) ∧ refsAt (sealP 2 (four l)) = (l, true) ∧ (sealP 2 (four l)).size = 20 := by
 have hl := refs_len h; have hin := refs_in h
 have h4 : (four l).length = 4 := rfl
 have hz : (sealP 2 (four l)).size = 20 := by rw [sealP_size, h4]
 obtain ⟨x0, x1, x2, x3, x4, x5, x6, x7, x8, x9, x10, x11, x12, x13, x14, x15, x16, x17, x18, x19, x20, x21, x22, x23, rfl⟩ := list24 hl
 have m0 : 0 ≤ x0 ∧ x0 ≤ 15 := hin x0 (by simp)
 have m1 : 0 ≤ x1 ∧ x1 ≤ 15 := hin x1 (by simp)
 have m2 : 0 ≤ x2 ∧ x2 ≤ 15 := hin x2 (by simp)
 have m3 : 0 ≤ x3 ∧ x3 ≤ 15 := hin x3 (by simp)
 have m4 : 0 ≤ x4 ∧ x4 ≤ 15 := hin x4 (by simp)
 have m5 : 0 ≤ x5 ∧ x5 ≤ 15 := hin x5 (by simp)
 have m6 : 0 ≤ x6 ∧ x6 ≤ 15 := hin x6 (by simp)
 have m7 : 0 ≤ x7 ∧ x7 ≤ 15 := hin x7 (by simp)
 have m8 : 0 ≤ x8 ∧ x8 ≤ 15 := hin x8 (by simp)
 have m9 : 0 ≤ x9 ∧ x9 ≤ 15 := hin x9 (by simp)
 have m10 : 0 ≤ x10 ∧ x10 ≤ 15 := hin x10 (by simp)
 have m11 : 0 ≤ x11 ∧ x11 ≤ 15 := hin x11 (by simp)
 have m12 : 0 ≤ x12 ∧ x12 ≤ 15 := hin x12 (by simp)
 have m13 : 0 ≤ x13 ∧ x13 ≤ 15 := hin x13 (by simp)
 have m14 : 0 ≤ x14 ∧ x14 ≤ 15 := hin x14 (by simp)
 have m15 : 0 ≤ x15 ∧ x15 ≤ 15 := hin x15 (by simp)
 have m16 : 0 ≤ x16 ∧ x16 ≤ 15 := hin x16 (by simp)
 have m17 : 0 ≤ x17 ∧ x17 ≤ 15 := hin x17 (by simp)
 have m18 : 0 ≤ x18 ∧ x18 ≤ 15 := hin x18 (by simp)
 have m19 : 0 ≤ x19 ∧ x19 ≤ 15 := hin x19 (by simp)
 have m20 : 0 ≤ x20 ∧ x20 ≤ 15 := hin x20 (by simp)
 have m21 : 0 ≤ x21 ∧ x21 ≤ 15 := hin x21 (by simp)
 have m22 : 0 ≤ x22 ∧ x22 ≤ 15 := hin x22 (by simp)
 have m23 : 0 ≤ x23 ∧ x23 ≤ 15 := hin x23 (by simp)
 have g0 := st6_eq m0 m1 m2 m3 m4 m5; have g1 := st6_eq m6 m7 m8 m9 m10 m11; have g2 := st6_eq m12 m13 m14 m15 m16 m17; have g3 := st6_eq m18 m19 m20 m21 m22 m23
 have e4 : four [x0, x1, x2, x3, x4, x5, x6, x7, x8, x9, x10, x11, x12, x13, x14, x15, x16, x17, x18, x19, x20, x21, x22, x23] = [(st6 x0 x1 x2 x3 x4 x5), (st6 x6 x7 x8 x9 x10 x11), (st6 x12 x13 x14 x15 x16 x17), (st6 x18 x19 x20 x21 x22 x23)] := pack_lit x0 x1 x2 x3 x4 x5 x6 x7 x8 x9 x10 x11 x12 x13 x14 x15 x16 x17 x18 x19 x20 x21 x22 x23
 have hr : ∀ x ∈ [(st6 x0 x1 x2 x3 x4 x5), (st6 x6 x7 x8 x9 x10 x11), (st6 x12 x13 x14 x15 x16 x17), (st6 x18 x19 x20 x21 x22 x23)], 0 ≤ x ∧ x ≤ 2147483647 := by
  intro x hx
  simp only [List.mem_cons, List.not_mem_nil, or_false] at hx
  rcases hx with rfl | rfl | rfl | rfl
  ·exact g0.1
  ·exact g1.1
  ·exact g2.1
  ·exact g3.1
 refine ⟨?_, ?_, ?_, hz⟩
 ·unfold impl_refsText.f
  exact ev_pos (by simp) (impl_seal_ev 2 _ (show 4 ≤ 1000000000 by omega))
 ·rw [e4]
  obtain ⟨K, hK⟩ := spec_seal_ev 2 [(st6 x0 x1 x2 x3 x4 x5), (st6 x6 x7 x8 x9 x10 x11), (st6 x12 x13 x14 x15 x16 x17), (st6 x18 x19 x20 x21 x22 x23)] (show 4 ≤ 1000000000 by omega)
  refine ⟨K + 33, fun k hk => ?_⟩
  obtain ⟨m, rfl⟩ : ∃ m, k = m + 33 := ⟨k - 33, by omega⟩
  show spec_l08Encode.f (m + 33) _ = _
  rw [enc_lit, show spec_l02Seal.f m 2 _ = _ from hK m (by omega)]; rfl
 ·unfold refsAt
  rw [e4, recNums_seal 2 _ (fun x hx => ⟨(hr x hx).1, by have := (hr x hx).2; omega⟩), recOK_seal 2 _ rfl (by simp) hr, if_pos ⟨rfl, rfl⟩]
  unfold refsP
  rw [if_pos (by simp only [List.all_cons, List.all_nil, g0.2.1, g1.2.1, g2.2.1, g3.2.1, Bool.and_self])]
  simp only [List.flatMap_cons, List.flatMap_nil, g0.2.2, g1.2.2, g2.2.2, g3.2.2, List.cons_append, List.nil_append]
def mpTo (L : List (List Int)) : Nat → List S77
  | 0 => []
  | n + 1 => mpTo L n ++ [(⟨11 + (n : Int), sealP 3 (L.getD n [])⟩ : S77)]
def dtTo (R D : List Int) : Nat → List S77
  | 0 => []
  | n + 1 => if rd R (n : Int) > 0 then dtTo R D n ++ [(⟨15 + (n : Int), sealP 4 [rd D (n : Int)]⟩ : S77)] else dtTo R D n
theorem mpTo_len (L : List (List Int)) (n : Nat) : (mpTo L n).length = n := by
  induction n with
  | zero => rfl
  | succ n ih => simp [mpTo, ih]
theorem dtTo_len (R D : List Int) (n : Nat) : (dtTo R D n).length ≤ n := by
  induction n with
  | zero => simp [dtTo]
  | succ n ih =>
    simp only [dtTo]
    split
    · rw [List.length_append, List.length_singleton]; omega
    · omega
def sup (S : List S103) : ByteArray := sealP 1 ((S.length : Int) :: S.map (fun x => nameNum x.f0))
def hd2 (R : List Int) (S : List S103) : List S77 := [(⟨9, sup S⟩ : S77), (⟨10, sealP 2 (four R)⟩ : S77)]
def upd (R T : List Int) (S : List S103) (D : List Int) : List S77 := hd2 R S ++ mpTo (tabs T S) (S.length + 1) ++ dtTo R D 24
theorem upd_len (R T : List Int) (S : List S103) (D : List Int) : (upd R T S D).length ≤ S.length + 27 := by
 have := dtTo_len R D 24
 simp only [upd, hd2, List.length_append, mpTo_len, List.length_cons, List.length_nil]; omega
theorem tabs_len (T : List Int) (S : List S103) : (tabs T S).length = S.length + 1 := by simp [tabs]
theorem tabs_get (T : List Int) (S : List S103) (i : Nat) (h : i < S.length) : (tabs T S).getD (i + 1) [] = S[i].f1 := by simp [tabs, h]
theorem impl_updates_ev (R T : List Int) (S : List S103) (D : List Int) (hok : refsOK R = true) (hT : T.length ≤ 1048576) (hS : S.length ≤ 1000) (hD : D.length = 24) (hs : ∀ x ∈ S, x.f0.size ≤ 1000000000 ∧ x.f1.length ≤ 1000000000) :
  Ev (fun k => impl_Image_updates.f k R T S D) (upd R T S D) := by
 have hR := refs_len hok
 have h2 : Ev (fun k => impl_Image_updates.l2 k (hd2 R S ++ mpTo (tabs T S) (S.length + 1) ++ dtTo R D 0) R (R.length : Int) ((0 : Nat) : Int) R T S D) (upd R T S D) := by
  refine ev_down (g := fun k i => impl_Image_updates.l2 k (hd2 R S ++ mpTo (tabs T S) (S.length + 1) ++ dtTo R D i) R (R.length : Int) (i : Int) R T S D) 24 ?_ ?_
  ·refine Ev.step (f := fun _ => some (upd R T S D)) (fun k => ?_) (ev_some _)
   simp only [impl_Image_updates.l2]; rw [if_neg (by omega)]; rfl
  ·intro i hi h
   refine Ev.succ ?_
   simp only [impl_Image_updates.l2]
   refine ev_pos (by omega) (ev_pos (by omega) (ev_pos (by omega) ?_))
   have hw : wrap64 (15 + (i : Int)) = 15 + (i : Int) := w64 (by omega) (by omega)
   by_cases hc : rd R (i : Int) > 0
   ·have hl := dtTo_len R D i
    refine ev_pos hc (ev_pos (by omega) (ev_bind (impl_seal_ev 4 _ (show 1 ≤ 1000000000 by omega)) (ev_pos (by simp [hd2, mpTo_len]; omega) ?_)))
    rw [wnext i (by omega), hw]
    have e : dtTo R D (i + 1) = dtTo R D i ++ [(⟨15 + (i : Int), sealP 4 [rd D (i : Int)]⟩ : S77)] := by simp only [dtTo]; rw [if_pos hc]
    rw [e, ← List.append_assoc] at h
    exact h
   ·refine ev_neg hc ?_
    rw [wnext i (by omega)]
    have e : dtTo R D (i + 1) = dtTo R D i := by simp only [dtTo]; rw [if_neg hc]
    rw [e] at h
    exact h
 have hL : ∀ l ∈ tabs T S, l.length ≤ 1000000000 := by
  intro l hl
  simp only [tabs, List.mem_cons, List.mem_map] at hl
  rcases hl with rfl | ⟨x, hx, rfl⟩
  ·omega
  ·exact (hs x hx).2
 have h1 : Ev (fun k => impl_Image_updates.l1 k (hd2 R S ++ mpTo (tabs T S) 0) (tabs T S) ((tabs T S).length : Int) ((0 : Nat) : Int) R T S D) (upd R T S D) := by
  refine ev_down (g := fun k i => impl_Image_updates.l1 k (hd2 R S ++ mpTo (tabs T S) i) (tabs T S) ((tabs T S).length : Int) (i : Int) R T S D) (S.length + 1) ?_ ?_
  ·refine Ev.succ ?_
   simp only [impl_Image_updates.l1]
   refine ev_neg (by rw [tabs_len]; omega) ?_
   simpa [dtTo] using h2
  ·intro i hi h
   have hil : i < (tabs T S).length := by rw [tabs_len]; omega
   refine Ev.succ ?_
   simp only [impl_Image_updates.l1]
   have e : rd_L3 (tabs T S) (i : Int) = (tabs T S).getD i [] := by rw [rdL _ i hil]; simp [hil]
   have hll : ((tabs T S).getD i []).length ≤ 1000000000 := by
    have : (tabs T S).getD i [] = (tabs T S)[i] := by simp [hil]
    rw [this]; exact hL _ (List.getElem_mem hil)
   rw [e]
   refine ev_pos (by omega) (ev_pos (by omega) (ev_pos (by omega) (ev_bind (impl_seal_ev 3 _ hll) (ev_pos (by simp [hd2, mpTo_len]; omega) ?_))))
   rw [wnext i (by omega), w64 (n := 11 + (i : Int)) (by omega) (by omega)]
   simp only [mpTo, ← List.append_assoc] at h
   exact h
 unfold impl_Image_updates.f
 refine ev_bind (impl_names_ev R T S D (by omega)) ?_
 have h0 := ev_down (g := fun k i => impl_Image_updates.l0 k ((S.length : Int) :: (S.map (fun x => nameNum x.f0)).take i) (S.map (·.f0)) ((S.map (·.f0)).length : Int) (i : Int) R T S D) (r := upd R T S D) S.length ?_ ?_
 ·simpa using h0
 ·refine Ev.succ ?_
  simp only [impl_Image_updates.l0]
  refine ev_neg (by simp) ?_
  rw [List.take_of_length_le (by simp)]
  refine ev_bind (impl_seal_ev 1 _ (by simp; omega)) (ev_bind (refs_text hok).1 (ev_bind (impl_tables_ev R T S D (by omega)) ?_))
  have h1' := h1
  simp only [mpTo, List.append_nil] at h1'
  exact h1'
 ·intro i hi h
  refine Ev.succ ?_
  simp only [impl_Image_updates.l0]
  have e : rdOf ByteArray.empty (S.map (·.f0)) (i : Int) = S[i].f0 := by simp [rdOf, hi]
  rw [e]
  refine ev_pos (by simp; omega) (ev_pos (by omega) (ev_pos (by simp; omega) (ev_bind (impl_num_ev _ (by have := (hs _ (List.getElem_mem hi)).1; omega)) (ev_pos (by simp; omega) ?_))))
  rw [wnext i (by omega)]
  rw [List.take_succ_eq_append_getElem (by simpa using hi), List.getElem_map] at h
  exact h
theorem spec_all_ev (R T : List Int) (S : List S103) (D : List Int) (hok : refsOK R = true) (hT : T.length ≤ 1048576) (hS : S.length ≤ 1000) (hD : D.length = 24) (hs : ∀ x ∈ S, x.f0.size ≤ 1000000000 ∧ x.f1.length ≤ 1000000000) :
  Ev (fun k => spec_l11All.f k R T S D) (upd R T S D) := by
 have hR := refs_len hok
 have h2 : Ev (fun k => spec_l11All.l1 k (hd2 R S ++ mpTo (tabs T S) (S.length + 1) ++ dtTo R D 0) ((0 : Nat) : Int) R T S D) (upd R T S D) := by
  refine ev_down (g := fun k i => spec_l11All.l1 k (hd2 R S ++ mpTo (tabs T S) (S.length + 1) ++ dtTo R D i) (i : Int) R T S D) 24 ?_ ?_
  ·refine Ev.step (f := fun _ => some (upd R T S D)) (fun k => ?_) (ev_some _)
   simp only [spec_l11All.l1]; rw [if_neg (by omega)]; rfl
  ·intro i hi h
   refine Ev.succ ?_
   simp only [spec_l11All.l1]
   refine ev_pos (by omega) (ev_pos (by omega) (ev_pos (by omega) ?_))
   have hw : wrap64 (15 + (i : Int)) = 15 + (i : Int) := w64 (by omega) (by omega)
   by_cases hc : rd R (i : Int) > 0
   ·have hl := dtTo_len R D i
    refine ev_pos hc (ev_pos (by omega) (ev_bind (spec_seal_ev 4 _ (show 1 ≤ 1000000000 by omega)) (ev_pos (by simp [hd2, mpTo_len]; omega) ?_)))
    rw [wnext i (by omega), hw]
    have e : dtTo R D (i + 1) = dtTo R D i ++ [(⟨15 + (i : Int), sealP 4 [rd D (i : Int)]⟩ : S77)] := by simp only [dtTo]; rw [if_pos hc]
    rw [e, ← List.append_assoc] at h
    exact h
   ·refine ev_neg hc ?_
    rw [wnext i (by omega)]
    have e : dtTo R D (i + 1) = dtTo R D i := by simp only [dtTo]; rw [if_neg hc]
    rw [e] at h
    exact h
 have hsup : Ev (fun k => spec_l11Super.f k R T S D) (sup S) := by
  unfold spec_l11Super.f
  have h0 := ev_down (g := fun k i => spec_l11Super.l0 k ((S.length : Int) :: (S.map (fun x => nameNum x.f0)).take i) (i : Int) R T S D) (r := sup S) S.length ?_ ?_
  ·simpa using h0
  ·refine Ev.succ ?_
   simp only [spec_l11Super.l0]
   refine ev_neg (by omega) ?_
   rw [List.take_of_length_le (by simp)]
   exact ev_bind (spec_seal_ev 1 _ (by simp; omega)) (ev_some _)
  ·intro i hi h
   refine Ev.succ ?_
   simp only [spec_l11Super.l0]
   rw [rdE_Snap S i hi]
   refine ev_pos (by omega) (ev_pos (by omega) (ev_bind (spec_num_ev _ (by have := (hs _ (List.getElem_mem hi)).1; omega)) (ev_pos (by simp; omega) ?_)))
   rw [wnext i (by omega)]
   rw [List.take_succ_eq_append_getElem (by simpa using hi), List.getElem_map] at h
   exact h
 unfold spec_l11All.f
 refine ev_bind hsup (ev_bind (refs_text hok).2.1 (ev_bind (ev_bind (spec_seal_ev 3 T (by omega)) (ev_some _)) ?_))
 have h0 := ev_down (g := fun k i => spec_l11All.l0 k (hd2 R S ++ mpTo (tabs T S) (i + 1)) (i : Int) R T S D) (r := upd R T S D) S.length ?_ ?_
 ·exact h0
 ·refine Ev.succ ?_
  simp only [spec_l11All.l0]
  refine ev_neg (by omega) ?_
  simpa [dtTo] using h2
 ·intro i hi h
  refine Ev.succ ?_
  simp only [spec_l11All.l0, spec_l09Encode.f]
  rw [rdE_Snap S i hi]
  refine ev_pos (by omega) (ev_pos (by omega) (ev_bind (ev_bind (spec_seal_ev 3 _ (hs _ (List.getElem_mem hi)).2) (ev_some _)) (ev_pos (by simp [hd2, mpTo_len]; omega) ?_)))
  rw [wnext i (by omega), w64 (n := 12 + (i : Int)) (by omega) (by omega)]
  have e : mpTo (tabs T S) (i + 1 + 1) = mpTo (tabs T S) (i + 1) ++ [(⟨12 + (i : Int), sealP 3 S[i].f1⟩ : S77)] := by
   show mpTo (tabs T S) (i + 1) ++ [(⟨11 + ((i + 1 : Nat) : Int), sealP 3 ((tabs T S).getD (i + 1) [])⟩ : S77)] = _
   rw [tabs_get T S i hi, show 11 + ((i + 1 : Nat) : Int) = 12 + (i : Int) by omega]
  rw [e, ← List.append_assoc] at h
  exact h
end Go.Proofs.YtglcnnmobkocmaaGreat.Q
