/- What laws.FnExactLandOne reaches, part 8: the functions as Lean functions, the proofs that the program's functions answer so, and plain laws about them. -/
import Derived.Test.YtadelojhfepkeaaKFnExactLandOne1
import Derived.Test.YtadelojhfepkeaaKFnExactLandOne2
import Derived.Test.YtadelojhfepkeaaKFnExactLandOne3
import Derived.Test.YtadelojhfepkeaaKFnExactLandOne4
import Derived.Test.YtadelojhfepkeaaKFnExactLandOne5
namespace Go.Proofs.Ytadelojhfepkeaa.Q
open Go.RowKit Go.Proofs.Ytadelojhfepkeaa.Ext Go.Proofs.YtadelojhfepkeaaW.PrintWords Go.Proofs.YtadelojhfepkeaaW.PrintLast Go.Proofs.YtadelojhfepkeaaW.PrintMore
attribute [local go_sem] max2_int min2_int max_two min_two max_three min_three max_four min_four   -- for this text's walks alone
set_option linter.unusedVariables false
set_option linter.unusedSimpArgs false

set_option linter.unusedVariables false
set_option linter.unusedSimpArgs false
/-! ### Base -/
def okI (x : Int) : Prop := (Lit.int .i64 x).wf = true
def okU8 (x : Int) : Prop := (Lit.int .u8 x).wf = true
def okB (_ : Bool) : Prop := True
def okS (x : ByteArray) : Prop := x.size ≤ maxLen
theorem w64 {n : Int} (h0 : -9223372036854775808 ≤ n) (h1 : n ≤ 9223372036854775807) : wrap64 n = n := by unfold wrap64; omega
theorem okI_iff {n : Int} (h : (Lit.int .i64 n).wf = true) : -9223372036854775808 ≤ n ∧ n ≤ 9223372036854775807 := by
  simp [Lit.wf, IntKind.min, IntKind.max, IntKind.signed, IntKind.bits] at h
  omega
theorem Ev.k {α : Type} {g : Nat → Option α} {r : α} (K : Nat) (h : ∀ k, K ≤ k → g k = some r) : Ev g r := ⟨K, h⟩
theorem ev_some {α : Type} (r : α) : Ev (fun _ => some r) r := ⟨0, fun _ _ => rfl⟩
theorem ev_of_eq {α : Type} {g : Nat → Option α} {r : α} (h : ∀ k, g k = some r) : Ev g r := ⟨0, fun k _ => h k⟩
theorem ev_bind {α β : Type} {g : Nat → Option α} {f : Nat → α → Option β} {a : α} {r : β} (h : Ev g a) (k : Ev (fun n => f n a) r) : Ev (fun n => (g n).bind (f n)) r := Ev.bind h k
theorem ev_if {α : Type} {c : Prop} [Decidable c] {g f : Nat → Option α} {r : α} (h : c → Ev g r) (h' : ¬ c → Ev f r) : Ev (fun n => if c then g n else f n) r := by
  by_cases hc : c
  · simp only [if_pos hc]; exact h hc
  · simp only [if_neg hc]; exact h' hc
theorem ev_pos {α : Type} {c : Prop} [Decidable c] {g f : Nat → Option α} {r : α} (hc : c) (h : Ev g r) : Ev (fun n => if c then g n else f n) r := by
  simp only [if_pos hc]; exact h
theorem ev_neg {α : Type} {c : Prop} [Decidable c] {g f : Nat → Option α} {r : α} (hc : ¬ c) (h : Ev f r) : Ev (fun n => if c then g n else f n) r := by
  simp only [if_neg hc]; exact h
theorem strOfNums_size (l : List Int) : (strOfNums l).size = l.length := by show (List.map _ l).toArray.size = _; simp
theorem ba_size_append (a b : ByteArray) : (a ++ b).size = a.size + b.size := by simp
theorem toList_inj {a b : ByteArray} : a.toList = b.toList ↔ a = b := by
  constructor
  · intro h
    have h1 : a.data.toList = b.data.toList := by simpa [ByteArray.toList_eq] using h
    have : a.data = b.data := Array.toList_inj.1 h1
    cases a; cases b; simp_all
  · rintro rfl; rfl
/-! ### In -/
def inB (n a b : Int) : Bool := decide (a ≤ n) && decide (n ≤ b)
theorem inB_iff {n a b : Int} : inB n a b = true ↔ a ≤ n ∧ n ≤ b := by simp [inB]
theorem inB_no {n a b : Int} : inB n a b = false ↔ ¬ (a ≤ n ∧ n ≤ b) := by rw [← inB_iff]; simp
theorem l01In_eq (n a b : Int) : spec_l01In.f n a b = some (inB n a b) := by
  unfold spec_l01In.f inB; by_cases h : a ≤ n <;> simp [h]
theorem within_eq (n a b : Int) : impl_within.f n a b = some (inB n a b) := by
  unfold impl_within.f inB; by_cases h : a ≤ n <;> simp [h]
theorem and_opt {b : Bool} {c : Option Bool} {c' : Bool} (h : c = some c') : (if b = true then c else some false) = some (b && c') := by
  cases b <;> simp [h]
/-! ### First -/
theorem first1 (b : Bool) (c : Int) : impl_first.f [Any.b b, Any.n c] = some (if b = true then c else 0) := by
  unfold impl_first.f; cases b <;> simp [firstO]
theorem first2 (b b' : Bool) (c c' : Int) : impl_first.f [Any.b b, Any.n c, Any.b b', Any.n c'] = some (if b = true then c else if b' = true then c' else 0) := by
  unfold impl_first.f; cases b <;> cases b' <;> simp [firstO]
theorem first3 (b b' b'' : Bool) (c c' c'' : Int) : impl_first.f [Any.b b, Any.n c, Any.b b', Any.n c', Any.b b'', Any.n c''] = some (if b = true then c else if b' = true then c' else if b'' = true then c'' else 0) := by
  unfold impl_first.f; cases b <;> cases b' <;> cases b'' <;> simp [firstO]
theorem first4 (b b' b'' b3 : Bool) (c c' c'' c3 : Int) : impl_first.f [Any.b b, Any.n c, Any.b b', Any.n c', Any.b b'', Any.n c'', Any.b b3, Any.n c3] = some (if b = true then c else if b' = true then c' else if b'' = true then c'' else if b3 = true then c3 else 0) := by
  unfold impl_first.f; cases b <;> cases b' <;> cases b'' <;> cases b3 <;> simp [firstO]
/-! ### Mark -/
theorem ev_loop {α : Type} {g : Nat → Nat → Option α} {r : α} (n : Nat) (hend : Ev (fun k => g k n) r) (hstep : ∀ i, i < n → ∃ c, ∀ k, g (k + c) i = g k (i + 1) ∧ 1 ≤ c) : ∀ d i, i ≤ n → n - i = d → Ev (fun k => g k i) r := by
  intro d
  induction d with
  | zero =>
    intro i hi hd
    have e : i = n := by omega
    rw [e]; exact hend
  | succ d ih =>
    intro i hi hd
    obtain ⟨K, hK⟩ := ih (i + 1) (by omega) (by omega)
    obtain ⟨c, hc⟩ := hstep i (by omega)
    refine ⟨K + c, fun k hk => ?_⟩
    obtain ⟨m, rfl⟩ : ∃ m, k = m + c := ⟨k - c, by omega⟩
    show g (m + c) i = _
    rw [(hc m).1]; exact hK m (by omega)
theorem rdn (l : List Int) (i : Nat) (h : i < l.length) : rd l (i : Int) = l[i] := by simp [rd, h]
theorem wnext (i : Nat) (h : i < 1000000000000000000) : wrap64 ((i : Int) + 1) = ((i + 1 : Nat) : Int) := by rw [w64 (by omega) (by omega)]; omega
def countUp (a : Int) (n : Nat) : List Int := (List.range n).map (fun j : Nat => a + (j : Int))
theorem countUp_length (a : Int) (n : Nat) : (countUp a n).length = n := by simp [countUp]
theorem countUp_get (a : Int) (n i : Nat) (h : i < n) : (countUp a n)[i]'(by rw [countUp_length]; exact h) = a + (i : Int) := by simp [countUp]
theorem set_mid {α : Type} (l m : List α) (hlm : m.length = l.length) (i : Nat) (h : i < l.length) (x : α) (hx : m[i]'(by omega) = x) : (m.take i ++ l.drop i).set i x = m.take (i + 1) ++ l.drop (i + 1) := by
  subst hx
  rw [List.drop_eq_getElem_cons h, List.set_append_right _ _ (by rw [List.length_take]; omega)]
  have : i - (m.take i).length = 0 := by rw [List.length_take]; omega
  rw [this, List.set_cons_zero, List.take_succ_eq_append_getElem (by omega), List.append_assoc]
  rfl
/-! ### MarkT -/
theorem ev_down {α : Type} {g : Nat → Nat → Option α} {r : α} (n : Nat) (hend : Ev (fun k => g k n) r) (hstep : ∀ i, i < n → Ev (fun k => g k (i + 1)) r → Ev (fun k => g k i) r) : Ev (fun k => g k 0) r := by
  have : ∀ d i, i ≤ n → n - i = d → Ev (fun k => g k i) r := by
    intro d
    induction d with
    | zero => intro i hi hd; have e : i = n := by omega
              rw [e]; exact hend
    | succ d ih => intro i hi hd; exact hstep i (by omega) (ih (i + 1) (by omega) (by omega))
  exact this n 0 (by omega) (by omega)
theorem markText_from : ∀ (d : Nat) (x : Int) (t : ByteArray), 0 ≤ x → x.toNat ≤ d → (t.size : Int) + x ≤ 1000000000000000 → ∃ r, Ev (fun k => laws_markText.l0 k x t) r := by
  intro d
  induction d with
  | zero =>
    intro x t h0 hd hs
    have e : x = 0 := by omega
    subst e
    refine ⟨(⟨#[109]⟩ : ByteArray) ++ t, Ev.step (f := fun _ => some ((⟨#[109]⟩ : ByteArray) ++ t)) (fun k => ?_) (ev_some _)⟩
    simp only [laws_markText.l0]
    rw [if_neg (by omega), if_pos (by omega)]
  | succ d ih =>
    intro x t h0 hd hs
    by_cases hx : x > 0
    · have hq : Int.tdiv x 10 = x / 10 := Int.tdiv_eq_ediv_of_nonneg h0
      have h1 : 0 ≤ x / 10 := by omega
      have hz : (strOfNums [(wrap64 (48 + (Int.tmod x 10))) % 256]).size = 1 := by rw [strOfNums_size]; rfl
      have hz2 : ((strOfNums [(wrap64 (48 + (Int.tmod x 10))) % 256]) ++ t).size = 1 + t.size := by rw [ba_size_append, hz]
      obtain ⟨r, hr⟩ := ih (x / 10) ((strOfNums [(wrap64 (48 + (Int.tmod x 10))) % 256]) ++ t) h1 (by omega) (by rw [hz2]; omega)
      refine ⟨r, Ev.step (f := fun k => laws_markText.l0 k (x / 10) ((strOfNums [(wrap64 (48 + (Int.tmod x 10))) % 256]) ++ t)) (fun k => ?_) hr⟩
      simp only [laws_markText.l0, Option.bind_some]
      rw [if_pos hx, if_pos (by rw [hz]; omega), hq, w64 (n := x / 10) (by omega) (by omega)]
    · refine ⟨(⟨#[109]⟩ : ByteArray) ++ t, Ev.step (f := fun _ => some ((⟨#[109]⟩ : ByteArray) ++ t)) (fun k => ?_) (ev_some _)⟩
      simp only [laws_markText.l0]
      rw [if_neg hx, if_pos (by omega)]
theorem markText_total (n : Int) (h : n ≤ 100000000000000) : ∃ r, Ev (fun k => laws_markText.f k n) r := by
  unfold laws_markText.f
  by_cases hn : n ≤ 0
  · exact ⟨_, ev_pos hn (ev_some _)⟩
  · obtain ⟨r, hr⟩ := markText_from n.toNat n (⟨#[]⟩ : ByteArray) (by omega) (by omega) (by show ((0 : Nat) : Int) + n ≤ _; omega)
    exact ⟨r, ev_neg hn hr⟩
open Classical in
noncomputable def mText (n : Int) : ByteArray := if h : ∃ r, Ev (fun k => laws_markText.f k n) r then h.choose else ByteArray.empty
theorem mText_ev (n : Int) (h : n ≤ 100000000000000) : Ev (fun k => laws_markText.f k n) (mText n) := by
  have := markText_total n h
  unfold mText
  rw [dif_pos this]; exact this.choose_spec
/-! ### Ev -/
theorem Ev.succ {α : Type} {g : Nat → Option α} {r : α} (h : Ev (fun k => g (k + 1)) r) : Ev g r := Ev.step (f := fun k => g (k + 1)) (fun _ => rfl) h
theorem ev_all {α : Type} {g : Nat → Nat → Option Bool} (l : List α) (q : α → Bool) (r : Bool) (hend : Ev (fun k => g k l.length) r) (hstep : ∀ i (h : i < l.length) k, g (k + 1) i = if q l[i] = true then g k (i + 1) else some false) : Ev (fun k => g k 0) (l.all q && r) := by
  have hgo : ∀ d i, i ≤ l.length → l.length - i = d → Ev (fun k => g k i) ((l.drop i).all q && r) := by
    intro d
    induction d with
    | zero =>
      intro i hi hd
      have e : i = l.length := by omega
      subst e
      rw [List.drop_of_length_le (by omega)]; simp only [List.all_nil, Bool.true_and]; exact hend
    | succ d ih =>
      intro i hi hd
      have hlt : i < l.length := by omega
      refine Ev.step (f := fun k => if q l[i] = true then g k (i + 1) else some false) (hstep i hlt) ?_
      rw [List.drop_eq_getElem_cons hlt, List.all_cons]
      cases hq : q l[i]
      · simp only [Bool.false_and, Bool.false_eq_true, if_false]; exact ev_some _
      · simp only [Bool.true_and, if_true]; exact ih (i + 1) (by omega) (by omega)
  have := hgo l.length 0 (by omega) (by omega)
  rwa [List.drop_zero] at this
theorem ev_asks {α β : Type} {g : Nat → Nat → Option β} (l : List α) (q : α → Bool) (r bad : β) (hend : Ev (fun k => g k l.length) r) (hstep : ∀ i (h : i < l.length) k, g (k + 1) i = if q l[i] = true then g k (i + 1) else some bad) : Ev (fun k => g k 0) (if l.all q = true then r else bad) := by
  have hgo : ∀ d i, i ≤ l.length → l.length - i = d → Ev (fun k => g k i) (if (l.drop i).all q = true then r else bad) := by
    intro d
    induction d with
    | zero =>
      intro i hi hd
      have e : i = l.length := by omega
      subst e
      rw [List.drop_of_length_le (by omega)]; simp only [List.all_nil, if_true]; exact hend
    | succ d ih =>
      intro i hi hd
      have hlt : i < l.length := by omega
      refine Ev.step (f := fun k => if q l[i] = true then g k (i + 1) else some bad) (hstep i hlt) ?_
      rw [List.drop_eq_getElem_cons hlt, List.all_cons]
      cases hq : q l[i]
      · simp only [Bool.false_and, Bool.false_eq_true, if_false]; exact ev_some _
      · simp only [Bool.true_and, if_true]; exact ih (i + 1) (by omega) (by omega)
  have := hgo l.length 0 (by omega) (by omega)
  rwa [List.drop_zero] at this
/-! ### PString -/
theorem rdE_String (l : List ByteArray) (i : Nat) (h : i < l.length) : rdOf ByteArray.empty l (i : Int) = l[i] := by simp [rdOf, h]
theorem rdset_String (l : List ByteArray) (i : Nat) (v : ByteArray) (h : i < l.length) : rdOf ByteArray.empty (l.set i v) (i : Int) = v := by simp [rdOf, h]
theorem szStringS_from (l : List ByteArray) (hs : ∀ x ∈ l, x.size ≤ maxLen) (hl : l.length ≤ 1048576) : ∀ d i (x : Int), 0 ≤ x → x ≤ 1048576 → i ≤ l.length → l.length - i = d → ∃ s, Ev (fun k => laws_szStringS.l0 k l x (i : Int)) s ∧ (s < 0 ∨ (s ≤ x ∧ 0 ≤ s ∧ ∀ j (h : j < l.length), i ≤ j → ((l[j].size : Nat) : Int) ≤ x)) := by
  intro d
  induction d with
  | zero =>
    intro i x h0 hx hi hd
    refine ⟨x, Ev.step (f := fun _ => some x) (fun k => ?_) (ev_some _), Or.inr ⟨by omega, h0, fun j hj hij => absurd hj (by omega)⟩⟩
    simp only [laws_szStringS.l0]; rw [if_neg (by omega)]
  | succ d ih =>
    intro i x h0 hx hi hd
    have hlt : i < l.length := by omega
    have hz := hs l[i] (List.getElem_mem hlt)
    have hM : maxLen = 9223372036854775807 := rfl
    have hz0 : ((l[i].size : Nat) : Int) ≤ 9223372036854775807 := by omega
    by_cases hc : x - ((l[i].size : Nat) : Int) < 0
    · refine ⟨-1, Ev.step (f := fun _ => some (-1)) (fun k => ?_) (ev_some _), Or.inl (by omega)⟩
      simp only [laws_szStringS.l0]
      rw [if_pos (by omega), if_pos (by omega), rdE_String l i hlt, w64 (by omega) (by omega), if_pos hc]
    · obtain ⟨s, h1, h2⟩ := ih (i + 1) (x - ((l[i].size : Nat) : Int)) (by omega) (by omega) (by omega) (by omega)
      refine ⟨s, Ev.step (f := fun k => laws_szStringS.l0 k l (x - ((l[i].size : Nat) : Int)) ((i + 1 : Nat) : Int)) (fun k => ?_) h1, ?_⟩
      · simp only [laws_szStringS.l0]
        rw [if_pos (by omega), if_pos (by omega), rdE_String l i hlt, w64 (by omega) (by omega), if_neg hc, wnext i (by omega)]
      · rcases h2 with h2 | ⟨h2, h3, h4⟩
        · exact Or.inl h2
        · refine Or.inr ⟨by omega, h3, fun j hj hij => ?_⟩
          rcases Nat.eq_or_lt_of_le hij with e | e
          · subst e; omega
          · have := h4 j hj e; omega
theorem szStringS_ev (l : List ByteArray) (hs : ∀ x ∈ l, x.size ≤ maxLen) (hm : l.length ≤ maxLen) (a : Int) (h0 : 0 ≤ a) (ha : a ≤ 1048576) : ∃ s, Ev (fun k => laws_szStringS.f k l a) s ∧ (s < 0 ∨ (s ≤ a ∧ 0 ≤ s ∧ (l.length : Int) ≤ a ∧ ∀ x ∈ l, ((x.size : Nat) : Int) ≤ a)) := by
  have hM : maxLen = 9223372036854775807 := rfl
  unfold laws_szStringS.f
  rw [w64 (n := a - (l.length : Int)) (by omega) (by omega)]
  by_cases hc : a - (l.length : Int) < 0
  · exact ⟨-1, ev_pos hc (ev_some _), Or.inl (by omega)⟩
  · obtain ⟨s, h1, h2⟩ := szStringS_from l hs (by omega) l.length 0 (a - (l.length : Int)) (by omega) (by omega) (by omega) (by omega)
    refine ⟨s, ev_neg hc h1, ?_⟩
    rcases h2 with h2 | ⟨h2, h3, h4⟩
    · exact Or.inl h2
    · refine Or.inr ⟨by omega, h3, by omega, fun x hx => ?_⟩
      obtain ⟨j, hj, rfl⟩ := List.getElem_of_mem hx
      have := h4 j hj (by omega); omega
def cvString (x : ByteArray) : ByteArray := x
theorem toStringS_ev (l : List ByteArray) (hl : l.length ≤ 1048576) : Ev (fun k => laws_toStringS.f k l) (l.map cvString) := by
  unfold laws_toStringS.f
  refine ev_pos (by omega) (ev_pos (by omega) ?_)
  rw [Int.toNat_natCast]
  have hc : (l.map cvString).length = (List.replicate l.length (⟨#[]⟩ : ByteArray)).length := by simp
  have h := ev_loop (g := fun k i => laws_toStringS.l0 k l ((l.map cvString).take i ++ (List.replicate l.length (⟨#[]⟩ : ByteArray)).drop i) (i : Int)) (r := l.map cvString) l.length ?_ ?_ l.length 0 (by omega) (by omega)
  · simpa using h
  · refine Ev.step (f := fun _ => some (l.map cvString)) (fun k => ?_) (ev_some _)
    simp only [laws_toStringS.l0]
    rw [if_neg (by omega), List.drop_of_length_le (by simp), List.take_of_length_le (by simp)]; simp
  · intro i hi
    refine ⟨1, fun k => ⟨?_, by omega⟩⟩
    simp only [laws_toStringS.l0]
    have hlen : ((l.map cvString).take i ++ (List.replicate l.length (⟨#[]⟩ : ByteArray)).drop i).length = l.length := by simp; omega
    rw [if_pos (by omega), if_pos (by omega), if_pos (by rw [hlen]; omega), rdE_String l i hi, Int.toNat_natCast, set_mid _ _ hc i (by simpa using hi) _ (by simp [cvString]), wnext i (by omega)]
theorem eqStringS_ev (l : List ByteArray) (hl : l.length ≤ 1000000000) : Ev (fun k => laws_eqStringS.f k l l) true := by
  unfold laws_eqStringS.f
  refine ev_pos rfl ?_
  refine ev_loop (g := fun k i => laws_eqStringS.l0 k l l (i : Int)) l.length ?_ ?_ l.length 0 (by omega) (by omega)
  · refine Ev.step (f := fun _ => some true) (fun k => ?_) (ev_some _)
    simp only [laws_eqStringS.l0]; rw [if_neg (by omega)]
  · intro i hi
    refine ⟨1, fun k => ⟨?_, by omega⟩⟩
    simp only [laws_eqStringS.l0]
    rw [if_pos (by omega), if_pos (by omega), if_pos (by omega), wnext i (by omega)]
    simp only [if_true, Option.bind_some]
noncomputable def mString (n : Int) : ByteArray := mText n
noncomputable def msString (a : Int) (n : Nat) : List ByteArray := (List.range n).map (fun j : Nat => mString (a + 1 * (j : Int)))
theorem msString_length (a : Int) (n : Nat) : (msString a n).length = n := by simp [msString]
theorem msString_get (a : Int) (n i : Nat) (h : i < n) : (msString a n)[i]'(by rw [msString_length]; exact h) = mString (a + 1 * (i : Int)) := by simp [msString]
theorem markStringS_ev (l : List ByteArray) (a : Int) (ha : 0 ≤ a) (hl : l.length + a ≤ 10000000000000) (hl2 : l.length ≤ 1000000000000) : Ev (fun k => laws_markStringS.f k l a) (a + 1 * (l.length : Int), msString a l.length) := by
  unfold laws_markStringS.f
  have hc := msString_length a l.length
  have h := ev_down (g := fun k i => laws_markStringS.l0 k ((msString a l.length).take i ++ l.drop i) (a + 1 * (i : Int)) (i : Int)) (r := (a + 1 * (l.length : Int), msString a l.length)) l.length ?_ ?_
  · simpa using h
  · refine Ev.step (f := fun _ => some (a + 1 * (l.length : Int), msString a l.length)) (fun k => ?_) (ev_some _)
    simp only [laws_markStringS.l0]
    rw [if_neg (by simp; omega), List.drop_of_length_le (by omega), List.take_of_length_le (by omega)]; simp
  · intro i hi h
    have hlen : ((msString a l.length).take i ++ l.drop i).length = l.length := by simp [hc]; omega
    refine Ev.step (f := fun k => (laws_markText.f k (a + 1 * (i : Int))).bind fun t => laws_markStringS.l0 k (((msString a l.length).take i ++ l.drop i).set i t) (a + 1 * (i : Int) + 1) ((i + 1 : Nat) : Int)) (fun k => ?_) (ev_bind (mText_ev _ (by omega)) ?_)
    · have w1 : wrap64 (a + 1 * (i : Int) + 1) = a + 1 * (i : Int) + 1 := by rw [w64 (by omega) (by omega)]; try omega
      simp only [laws_markStringS.l0, Option.bind_some, Int.toNat_natCast]
      rw [if_pos (by rw [hlen]; omega)]
      simp only [show (0 : Int) ≤ (i : Int) from by omega, if_true]
      simp only [rdset_String _ _ _ (show i < _ by rw [hlen]; exact hi), List.set_set, w1, wnext i (by omega)]
    · have ev_ : mText (a + 1 * (i : Int)) = mString (a + 1 * (i : Int)) := rfl
      rw [ev_, set_mid l _ hc i hi _ (msString_get a l.length i hi)]
      rw [show a + 1 * (i : Int) + 1 = a + 1 * ((i + 1 : Nat) : Int) by omega]
      exact h
theorem heldStringS_ev (n : Nat) (a : Int) (ha : 0 ≤ a) (hl : n + a ≤ 10000000000000) (hl2 : n ≤ 1000000000000) : Ev (fun k => laws_heldStringS.f k (msString a n) a) (a + 1 * (n : Int)) := by
  unfold laws_heldStringS.f
  have hc := msString_length a n
  have h := ev_down (g := fun k i => laws_heldStringS.l0 k (msString a n) (a + 1 * (i : Int)) (i : Int)) (r := a + 1 * (n : Int)) n ?_ ?_
  · simpa using h
  · refine Ev.step (f := fun _ => some (a + 1 * (n : Int))) (fun k => ?_) (ev_some _)
    simp only [laws_heldStringS.l0]
    rw [if_neg (by omega)]
  · intro i hi h
    refine Ev.step (f := fun k => (laws_markText.f k (a + 1 * (i : Int))).bind fun t => if ((rdOf ByteArray.empty (msString a n) (i : Int))).toList = t.toList then (laws_heldStringS.l0 k (msString a n) (a + 1 * (i : Int) + 1) ((i + 1 : Nat) : Int)) else (some (-1))) (fun k => ?_) (ev_bind (mText_ev _ (by omega)) (ev_pos (by rw [rdE_String _ i (by omega), msString_get a n i hi]; rfl) ?_))
    · have w1 : wrap64 (a + 1 * (i : Int) + 1) = a + 1 * (i : Int) + 1 := by rw [w64 (by omega) (by omega)]; try omega
      simp only [laws_heldStringS.l0]
      rw [if_pos (by omega), if_pos (by omega)]
      simp only [w1, wnext i (by omega)]
    · rw [show a + 1 * (i : Int) + 1 = a + 1 * ((i + 1 : Nat) : Int) by omega]
      exact h
/-! ### PIo -/
theorem rdE_Io (l : List S76) (i : Nat) (h : i < l.length) : rd_T76 l (i : Int) = l[i] := by simp [rd_T76, h]
theorem rdset_Io (l : List S76) (i : Nat) (v : S76) (h : i < l.length) : rd_T76 (l.set i v) (i : Int) = v := by simp [rd_T76, h]
theorem rdP_Io (l : List S75) (i : Nat) (h : i < l.length) : rd_T75 l (i : Int) = l[i] := by simp [rd_T75, h]
theorem szIoS_from (l : List S75) (hs : ∀ x ∈ l, x.f2.size ≤ maxLen) (hl : l.length ≤ 1048576) : ∀ d i (x : Int), 0 ≤ x → x ≤ 1048576 → i ≤ l.length → l.length - i = d → ∃ s, Ev (fun k => laws_szIoS.l0 k l x (i : Int)) s ∧ (s < 0 ∨ (s ≤ x ∧ 0 ≤ s ∧ ∀ j (h : j < l.length), i ≤ j → ((l[j].f2.size : Nat) : Int) ≤ x)) := by
  intro d
  induction d with
  | zero =>
    intro i x h0 hx hi hd
    refine ⟨x, Ev.step (f := fun _ => some x) (fun k => ?_) (ev_some _), Or.inr ⟨by omega, h0, fun j hj hij => absurd hj (by omega)⟩⟩
    simp only [laws_szIoS.l0]; rw [if_neg (by omega)]
  | succ d ih =>
    intro i x h0 hx hi hd
    have hlt : i < l.length := by omega
    have hz := hs l[i] (List.getElem_mem hlt)
    have hM : maxLen = 9223372036854775807 := rfl
    have hz0 : ((l[i].f2.size : Nat) : Int) ≤ 9223372036854775807 := by omega
    by_cases hc : x - ((l[i].f2.size : Nat) : Int) < 0
    · refine ⟨-1, Ev.step (f := fun _ => some (-1)) (fun k => ?_) (ev_some _), Or.inl (by omega)⟩
      simp only [laws_szIoS.l0, laws_szIo.f]
      rw [if_pos (by omega), if_pos (by omega), rdP_Io l i hlt, w64 (by omega) (by omega), if_pos hc, Option.bind_some, if_pos (by omega)]
    · obtain ⟨s, h1, h2⟩ := ih (i + 1) (x - ((l[i].f2.size : Nat) : Int)) (by omega) (by omega) (by omega) (by omega)
      refine ⟨s, Ev.step (f := fun k => laws_szIoS.l0 k l (x - ((l[i].f2.size : Nat) : Int)) ((i + 1 : Nat) : Int)) (fun k => ?_) h1, ?_⟩
      · simp only [laws_szIoS.l0, laws_szIo.f]
        rw [if_pos (by omega), if_pos (by omega), rdP_Io l i hlt, w64 (by omega) (by omega), if_neg hc, Option.bind_some, if_neg hc, wnext i (by omega)]
      · rcases h2 with h2 | ⟨h2, h3, h4⟩
        · exact Or.inl h2
        · refine Or.inr ⟨by omega, h3, fun j hj hij => ?_⟩
          rcases Nat.eq_or_lt_of_le hij with e | e
          · subst e; omega
          · have := h4 j hj e; omega
theorem szIoS_ev (l : List S75) (hs : ∀ x ∈ l, x.f2.size ≤ maxLen) (hm : l.length ≤ maxLen) (a : Int) (h0 : 0 ≤ a) (ha : a ≤ 1048576) : ∃ s, Ev (fun k => laws_szIoS.f k l a) s ∧ (s < 0 ∨ (s ≤ a ∧ 0 ≤ s ∧ (l.length : Int) ≤ a ∧ ∀ x ∈ l, ((x.f2.size : Nat) : Int) ≤ a)) := by
  have hM : maxLen = 9223372036854775807 := rfl
  unfold laws_szIoS.f
  rw [w64 (n := a - (l.length : Int)) (by omega) (by omega)]
  by_cases hc : a - (l.length : Int) < 0
  · exact ⟨-1, ev_pos hc (ev_some _), Or.inl (by omega)⟩
  · obtain ⟨s, h1, h2⟩ := szIoS_from l hs (by omega) l.length 0 (a - (l.length : Int)) (by omega) (by omega) (by omega) (by omega)
    refine ⟨s, ev_neg hc h1, ?_⟩
    rcases h2 with h2 | ⟨h2, h3, h4⟩
    · exact Or.inl h2
    · refine Or.inr ⟨by omega, h3, by omega, fun x hx => ?_⟩
      obtain ⟨j, hj, rfl⟩ := List.getElem_of_mem hx
      have := h4 j hj (by omega); omega
def cvIo (x : S75) : S76 := ⟨x.f0, x.f1, x.f2⟩
theorem toIoS_ev (l : List S75) (hl : l.length ≤ 1048576) : Ev (fun k => laws_toIoS.f k l) (l.map cvIo) := by
  unfold laws_toIoS.f
  refine ev_pos (by omega) (ev_pos (by omega) ?_)
  rw [Int.toNat_natCast]
  have hc : (l.map cvIo).length = (List.replicate l.length z76).length := by simp
  have h := ev_loop (g := fun k i => laws_toIoS.l0 k l ((l.map cvIo).take i ++ (List.replicate l.length z76).drop i) (i : Int)) (r := l.map cvIo) l.length ?_ ?_ l.length 0 (by omega) (by omega)
  · simpa using h
  · refine Ev.step (f := fun _ => some (l.map cvIo)) (fun k => ?_) (ev_some _)
    simp only [laws_toIoS.l0]
    rw [if_neg (by omega), List.drop_of_length_le (by simp), List.take_of_length_le (by simp)]; simp
  · intro i hi
    refine ⟨1, fun k => ⟨?_, by omega⟩⟩
    simp only [laws_toIoS.l0, laws_toIo.f, Option.bind_some]
    have hlen : ((l.map cvIo).take i ++ (List.replicate l.length z76).drop i).length = l.length := by simp; omega
    rw [if_pos (by omega), if_pos (by omega), if_pos (by rw [hlen]; omega), rdP_Io l i hi, Int.toNat_natCast, set_mid _ _ hc i (by simpa using hi) _ (by simp [cvIo]), wnext i (by omega)]
theorem eqIoS_ev (l : List S76) (hl : l.length ≤ 1000000000) : Ev (fun k => laws_eqIoS.f k l l) true := by
  unfold laws_eqIoS.f
  refine ev_pos rfl ?_
  refine ev_loop (g := fun k i => laws_eqIoS.l0 k l l (i : Int)) l.length ?_ ?_ l.length 0 (by omega) (by omega)
  · refine Ev.step (f := fun _ => some true) (fun k => ?_) (ev_some _)
    simp only [laws_eqIoS.l0]; rw [if_neg (by omega)]
  · intro i hi
    refine ⟨1, fun k => ⟨?_, by omega⟩⟩
    simp only [laws_eqIoS.l0, laws_eqIo.f]
    rw [if_pos (by omega), if_pos (by omega), if_pos (by omega), wnext i (by omega)]
    simp only [if_true, Option.bind_some]
noncomputable def mIo (n : Int) : S76 := ⟨n, n + 1, mText (n + 2)⟩
noncomputable def msIo (a : Int) (n : Nat) : List S76 := (List.range n).map (fun j : Nat => mIo (a + 3 * (j : Int)))
theorem msIo_length (a : Int) (n : Nat) : (msIo a n).length = n := by simp [msIo]
theorem msIo_get (a : Int) (n i : Nat) (h : i < n) : (msIo a n)[i]'(by rw [msIo_length]; exact h) = mIo (a + 3 * (i : Int)) := by simp [msIo]
theorem markIoS_ev (l : List S76) (a : Int) (ha : 0 ≤ a) (hl : l.length + a ≤ 10000000000000) (hl2 : l.length ≤ 1000000000000) : Ev (fun k => laws_markIoS.f k l a) (a + 3 * (l.length : Int), msIo a l.length) := by
  unfold laws_markIoS.f
  have hc := msIo_length a l.length
  have h := ev_down (g := fun k i => laws_markIoS.l0 k ((msIo a l.length).take i ++ l.drop i) (a + 3 * (i : Int)) (i : Int)) (r := (a + 3 * (l.length : Int), msIo a l.length)) l.length ?_ ?_
  · simpa using h
  · refine Ev.step (f := fun _ => some (a + 3 * (l.length : Int), msIo a l.length)) (fun k => ?_) (ev_some _)
    simp only [laws_markIoS.l0]
    rw [if_neg (by simp; omega), List.drop_of_length_le (by omega), List.take_of_length_le (by omega)]; simp
  · intro i hi h
    have hlen : ((msIo a l.length).take i ++ l.drop i).length = l.length := by simp [hc]; omega
    refine Ev.step (f := fun k => (laws_markText.f k (a + 3 * (i : Int) + 2)).bind fun t => laws_markIoS.l0 k (((msIo a l.length).take i ++ l.drop i).set i (⟨a + 3 * (i : Int), a + 3 * (i : Int) + 1, t⟩ : S76)) (a + 3 * (i : Int) + 3) ((i + 1 : Nat) : Int)) (fun k => ?_) (ev_bind (mText_ev _ (by omega)) ?_)
    · have w1 : wrap64 (a + 3 * (i : Int) + 1) = a + 3 * (i : Int) + 1 := by rw [w64 (by omega) (by omega)]; try omega
      have w2 : wrap64 (a + 3 * (i : Int) + 1 + 1) = a + 3 * (i : Int) + 2 := by rw [w64 (by omega) (by omega)]; try omega
      have w3 : wrap64 (a + 3 * (i : Int) + 2 + 1) = a + 3 * (i : Int) + 3 := by rw [w64 (by omega) (by omega)]; try omega
      simp only [laws_markIoS.l0, Option.bind_some, Int.toNat_natCast]
      rw [if_pos (by rw [hlen]; omega)]
      rw [if_pos (by omega)]
      simp only [rdset_Io _ _ _ (show i < _ by rw [hlen]; exact hi), List.set_set, w1, w2, w3, wnext i (by omega)]
    · have ev_ : (⟨a + 3 * (i : Int), a + 3 * (i : Int) + 1, mText (a + 3 * (i : Int) + 2)⟩ : S76) = mIo (a + 3 * (i : Int)) := rfl
      rw [ev_, set_mid l _ hc i hi _ (msIo_get a l.length i hi)]
      rw [show a + 3 * (i : Int) + 3 = a + 3 * ((i + 1 : Nat) : Int) by omega]
      exact h
theorem heldIoS_ev (n : Nat) (a : Int) (ha : 0 ≤ a) (hl : n + a ≤ 10000000000000) (hl2 : n ≤ 1000000000000) : Ev (fun k => laws_heldIoS.f k (msIo a n) a) (a + 3 * (n : Int)) := by
  unfold laws_heldIoS.f
  have hc := msIo_length a n
  have h := ev_down (g := fun k i => laws_heldIoS.l0 k (msIo a n) (a + 3 * (i : Int)) (i : Int)) (r := a + 3 * (n : Int)) n ?_ ?_
  · simpa using h
  · refine Ev.step (f := fun _ => some (a + 3 * (n : Int))) (fun k => ?_) (ev_some _)
    simp only [laws_heldIoS.l0]
    rw [if_neg (by omega)]
  · intro i hi h
    refine Ev.step (f := fun k => if ((rd_T76 (msIo a n) (i : Int)).f0) = a + 3 * (i : Int) then (if ((rd_T76 (msIo a n) (i : Int)).f1) = a + 3 * (i : Int) + 1 then ((laws_markText.f k (a + 3 * (i : Int) + 2)).bind fun t => if ((rd_T76 (msIo a n) (i : Int)).f2).toList = t.toList then (laws_heldIoS.l0 k (msIo a n) (a + 3 * (i : Int) + 3) ((i + 1 : Nat) : Int)) else (some (-1))) else (some (-1))) else (some (-1))) (fun k => ?_) (ev_pos (by rw [rdE_Io _ i (by omega), msIo_get a n i hi]; rfl) (ev_pos (by rw [rdE_Io _ i (by omega), msIo_get a n i hi]; rfl) (ev_bind (mText_ev _ (by omega)) (ev_pos (by rw [rdE_Io _ i (by omega), msIo_get a n i hi]; rfl) ?_))))
    · have w1 : wrap64 (a + 3 * (i : Int) + 1) = a + 3 * (i : Int) + 1 := by rw [w64 (by omega) (by omega)]; try omega
      have w2 : wrap64 (a + 3 * (i : Int) + 1 + 1) = a + 3 * (i : Int) + 2 := by rw [w64 (by omega) (by omega)]; try omega
      have w3 : wrap64 (a + 3 * (i : Int) + 2 + 1) = a + 3 * (i : Int) + 3 := by rw [w64 (by omega) (by omega)]; try omega
      simp only [laws_heldIoS.l0]
      rw [if_pos (by omega), if_pos (by omega)]
      simp only [w1, w2, w3, wnext i (by omega)]
    · rw [show a + 3 * (i : Int) + 3 = a + 3 * ((i + 1 : Nat) : Int) by omega]
      exact h
/-! ### Disk -/
def ioOK (x : S76) : Bool := inB x.f0 0 3 && (inB x.f1 0 63 && decide ((x.f2.size : Int) ≤ 80))
def secOK (x : ByteArray) : Bool := decide ((x.size : Int) ≤ 80)
def diskOK (d : List ByteArray) (l : List S76) : Bool := decide ((d.length : Int) = 64) && (decide ((l.length : Int) ≤ 200) && (d.all secOK && l.all ioOK))
theorem l01Io_eq (x : S76) : spec_l01Io.f x.f0 x.f1 x.f2 = some (ioOK x) := by
  simp only [spec_l01Io.f, l01In_eq, Option.bind_some]
  unfold ioOK; exact and_opt (and_opt rfl)
theorem DiskOK_1_eq (x : S76) : impl_DiskOK_1.f x.f0 x.f1 x.f2 = some (ioOK x) := by
  simp only [impl_DiskOK_1.f, impl_isHost.f, impl_isPlace.f, impl_isSector.f, within_eq, Option.bind_some]
  unfold ioOK; exact and_opt (and_opt rfl)
theorem impl_DiskOK_eq (d : List ByteArray) (l : List S76) : impl_DiskOK.f d l = some (diskOK d l) := by
  have h1 : all64_impl_isSector.f d () = some (d.all secOK) := by unfold all64_impl_isSector.f; exact allO_some _ _ (fun x _ => rfl)
  have h2 : all66_impl_DiskOK_1.f l () = some (l.all ioOK) := by unfold all66_impl_DiskOK_1.f; exact allO_some _ _ (fun x _ => DiskOK_1_eq x)
  unfold impl_DiskOK.f diskOK
  rw [h1, h2]
  by_cases e1 : (d.length : Int) = 64 <;> by_cases e2 : (l.length : Int) ≤ 200 <;> cases d.all secOK <;> simp [e1, e2]
theorem spec_DiskOK_ev (d : List ByteArray) (l : List S76) (hd : d.length ≤ 1000000000) (hl : l.length ≤ 1000000000) : Ev (fun k => spec_DiskOK.f k d l) (diskOK d l) := by
  have hI : Ev (fun k => spec_DiskOK.l1 k ((0 : Nat) : Int) d l) (l.all ioOK && true) := by
    refine ev_all (g := fun k i => spec_DiskOK.l1 k (i : Int) d l) l ioOK true ?_ ?_
    · refine Ev.step (f := fun _ => some true) (fun k => ?_) (ev_some _)
      simp only [spec_DiskOK.l1]; rw [if_neg (by omega)]
    · intro i hi k
      simp only [spec_DiskOK.l1]
      rw [if_pos (by omega), if_pos (by omega), rdE_Io l i hi, l01Io_eq, Option.bind_some, wnext i (by omega)]
  have hS : Ev (fun k => spec_DiskOK.l0 k ((0 : Nat) : Int) d l) (d.all secOK && (l.all ioOK && true)) := by
    refine ev_all (g := fun k i => spec_DiskOK.l0 k (i : Int) d l) d secOK _ ?_ ?_
    · refine Ev.step (f := fun k => spec_DiskOK.l1 k ((0 : Nat) : Int) d l) (fun k => ?_) hI
      simp only [spec_DiskOK.l0]; rw [if_neg (by omega)]; rfl
    · intro i hi k
      simp only [spec_DiskOK.l0]
      rw [if_pos (by omega), if_pos (by omega), rdE_String d i hi, wnext i (by omega)]
      unfold secOK
      by_cases hz : (d[i].size : Int) > 80
      · rw [if_pos hz, if_neg (by simp; omega)]
      · rw [if_neg hz, if_pos (by simp; omega)]
  rw [Bool.and_true] at hS
  unfold spec_DiskOK.f diskOK
  by_cases e1 : (d.length : Int) = 64
  · rw [decide_eq_true e1, Bool.true_and]
    refine ev_pos e1 (Ev.succ ?_)
    simp only [spec_DiskOK.j0, decide_eq_true_eq]
    by_cases e2 : (l.length : Int) ≤ 200
    · refine ev_neg (by omega) ?_
      rw [decide_eq_true e2, Bool.true_and]; exact hS
    · refine ev_pos (by omega) ?_
      rw [decide_eq_false e2, Bool.false_and]; exact ev_some _
  · rw [decide_eq_false e1, Bool.false_and]
    refine ev_neg e1 (Ev.succ ?_)
    simp only [spec_DiskOK.j0, if_true]; exact ev_some _
theorem cvStringS (d : List ByteArray) : d.map cvString = d := by induction d with
  | nil => rfl
  | cons x xs ih => rw [List.map_cons, ih]; rfl
theorem szDisk_ev (d : List ByteArray) (l : List S75) (hd1 : d.length ≤ maxLen) (hd2 : ∀ x ∈ d, x.size ≤ maxLen) (hl1 : l.length ≤ maxLen) (hl2 : ∀ x ∈ l, x.f2.size ≤ maxLen) : ∃ s, Ev (fun k => laws_szDisk.f k d l 1048576) s ∧ (s < 0 ∨ (d.length ≤ 1048576 ∧ l.length ≤ 1048576 ∧ (∀ x ∈ d, x.size ≤ 1048576) ∧ ∀ x ∈ l, x.f2.size ≤ 1048576)) := by
  unfold laws_szDisk.f
  obtain ⟨s, h1, h2⟩ := szStringS_ev d hd2 hd1 1048576 (by omega) (by omega)
  rcases h2 with h2 | ⟨h2, h3, h4, h5⟩
  · exact ⟨-1, ev_bind h1 (ev_pos h2 (ev_some _)), Or.inl (by omega)⟩
  · obtain ⟨s', h1', h2'⟩ := szIoS_ev l hl2 hl1 s h3 h2
    by_cases hs : s' < 0
    · exact ⟨-1, ev_bind h1 (ev_neg (by omega) (ev_bind h1' (ev_pos hs (ev_some _)))), Or.inl (by omega)⟩
    · rcases h2' with h2' | ⟨h2', h3', h4', h5'⟩
      · exact absurd h2' hs
      · exact ⟨s', ev_bind h1 (ev_neg (by omega) (ev_bind h1' (ev_neg hs (ev_some _)))), Or.inr ⟨by omega, by omega, fun x hx => by have := h5 x hx; omega, fun x hx => by have := h5' x hx; omega⟩⟩
theorem toDisk_ev (d : List ByteArray) (l : List S75) (hd : d.length ≤ 1048576) (hl : l.length ≤ 1048576) : Ev (fun k => laws_toDisk.f k d l) (d, l.map cvIo) := by
  unfold laws_toDisk.f
  have h := toStringS_ev d hd
  rw [cvStringS] at h
  exact ev_bind h (ev_bind (toIoS_ev l hl) (ev_some _))
theorem eqDisk_ev (d : List ByteArray) (l : List S76) (hd : d.length ≤ 1000000000) (hl : l.length ≤ 1000000000) : Ev (fun k => laws_eqDisk.f k d l d l) true := by
  unfold laws_eqDisk.f
  exact ev_bind (eqStringS_ev d hd) (ev_pos rfl (ev_bind (eqIoS_ev l hl) (ev_pos rfl (ev_some _))))
theorem markDisk_ev (d : List ByteArray) (l : List S76) (hd : d.length ≤ 1000000000) (hl : l.length ≤ 1000000000) : ∃ m d' l', (0 : Int) ≤ m ∧ Ev (fun k => laws_markDisk.f k d l 1) (m, d', l') ∧ Ev (fun k => laws_heldDisk.f k d' l' 1) m := by
  refine ⟨_, _, _, ?_, ev_bind (markStringS_ev d 1 (by omega) (by omega) (by omega)) (ev_bind (markIoS_ev l _ (by omega) (by omega) (by omega)) (ev_some _)), ?_⟩
  · dsimp only; omega
  · exact ev_bind (heldStringS_ev d.length 1 (by omega) (by omega) (by omega)) (ev_neg (by omega) (ev_bind (heldIoS_ev l.length _ (by omega) (by omega) (by omega)) (ev_neg (by omega) (ev_some _))))
/-! ### Settle -/
theorem own_eq (d : List ByteArray) (l : List S76) (hd : d.length ≤ 1000000000) (hl : l.length ≤ 1000000000) : spec_l01Own.f d l = some (d, l) := by
  unfold spec_l01Own.f
  simp only [Option.bind_some, List.length_nil, List.nil_append]
  rw [if_pos (by omega), if_pos (by omega)]
theorem copied_eq (d : List ByteArray) (l : List S76) (hd : d.length ≤ 1000000000) (hl : l.length ≤ 1000000000) : impl_Disk_copied.f d l = some (d, l) := by
  simp only [impl_Disk_copied.f, slices_Clone_string_string.f, impl_Io_71.f]
  rw [if_pos (by omega), if_pos (by omega)]; rfl
theorem go_total (host : Int) (lose : Bool) : ∀ (l : List S76) (keep : Int) (secs : List ByteArray), (∀ x ∈ l, 0 ≤ x.f1 ∧ x.f1 < (secs.length : Int)) → ∃ q, impl_Disk_settle_go host lose l keep secs = some q ∧ q.1.length ≤ l.length ∧ q.2.2.length = secs.length := by
  intro l
  induction l with
  | nil => intro keep secs _; exact ⟨_, rfl, Nat.le_refl _, rfl⟩
  | cons x r ih =>
    intro keep secs h
    have hx := h x (by simp)
    have hs : ∃ b, impl_Disk_settle_stp host lose keep secs x = some b ∧ b.2.2.length = secs.length := by
      unfold impl_Disk_settle_stp
      by_cases c1 : x.f0 = host
      · rw [if_pos c1]
        by_cases c2 : keep > 0
        · rw [if_pos c2, if_pos hx.1, if_pos hx.2]; exact ⟨_, rfl, by simp⟩
        · rw [if_neg c2]; exact ⟨_, rfl, rfl⟩
      · rw [if_neg c1]; exact ⟨_, rfl, rfl⟩
    obtain ⟨⟨b, k1, s1⟩, e1, e2⟩ := hs
    obtain ⟨q, q1, q2, q3⟩ := ih k1 s1 (fun y hy => by have := h y (by simp [hy]); rw [e2]; exact this)
    refine ⟨(if b = true then q.1 else x :: q.1, q.2.1, q.2.2), by simp only [impl_Disk_settle_go, e1, q1, Option.bind_some], ?_, by show q.2.2.length = _; rw [q3]; exact e2⟩
    cases b
    · show (x :: q.1).length ≤ (x :: r).length; simp only [List.length_cons]; omega
    · show q.1.length ≤ (x :: r).length; simp only [List.length_cons]; omega
theorem land_from (host : Int) (lose : Bool) (pend : List S76) (hp : pend.length ≤ 1000000000) : ∀ d i (keep : Int) (secs : List ByteArray) (out : List S76) (q : List S76 × Int × List ByteArray), pend.length - i = d → i ≤ pend.length → out.length ≤ i → impl_Disk_settle_go host lose (pend.drop i) keep secs = some q →
    Ev (fun k => spec_l01Land.l0 k host keep lose out (i : Int) secs pend) (q.2.2, out ++ q.1) := by
  intro d
  induction d with
  | zero =>
    intro i keep secs out q hd hi ho h
    rw [List.drop_of_length_le (by omega)] at h
    simp only [impl_Disk_settle_go, Option.some.injEq] at h
    subst h
    refine Ev.step (f := fun _ => some (secs, out ++ [])) (fun k => ?_) (ev_some _)
    simp only [spec_l01Land.l0, List.append_nil]; rw [if_neg (by omega)]
  | succ d ih =>
    intro i keep secs out q hd hi ho h
    have hlt : i < pend.length := by omega
    rw [List.drop_eq_getElem_cons hlt] at h
    simp only [impl_Disk_settle_go] at h
    obtain ⟨⟨b, k1, s1⟩, e1, h⟩ := Option.bind_eq_some_iff.mp h
    obtain ⟨q1, e2, h⟩ := Option.bind_eq_some_iff.mp h
    simp only [Option.some.injEq] at h
    subst h
    have hap : ∀ x : S76, (⟨x.f0, x.f1, x.f2⟩ : S76) = x := fun _ => rfl
    refine Ev.succ ?_
    simp only [spec_l01Land.l0, rdE_Io pend i hlt, hap]
    refine ev_pos (by omega) (ev_pos (by omega) ?_)
    rw [wnext i (by omega)]
    unfold impl_Disk_settle_stp at e1
    by_cases c1 : pend[i].f0 = host
    · rw [if_pos c1] at e1
      refine ev_pos c1 ?_
      by_cases c2 : keep > 0
      · rw [if_pos c2] at e1
        refine ev_pos c2 ?_
        by_cases c3 : 0 ≤ pend[i].f1
        · rw [if_pos c3] at e1
          by_cases c4 : pend[i].f1 < (secs.length : Int)
          · rw [if_pos c4] at e1
            simp only [Option.some.injEq, Prod.mk.injEq] at e1
            obtain ⟨rfl, rfl, rfl⟩ := e1
            exact ev_pos c3 (ev_pos c4 (ih (i + 1) _ _ out q1 (by omega) (by omega) (by omega) e2))
          · rw [if_neg c4] at e1; cases e1
        · rw [if_neg c3] at e1; cases e1
      · rw [if_neg c2] at e1
        simp only [Option.some.injEq, Prod.mk.injEq] at e1
        obtain ⟨rfl, rfl, rfl⟩ := e1
        refine ev_neg c2 ?_
        cases lose with
        | true => exact ev_pos rfl (ih (i + 1) _ _ out q1 (by omega) (by omega) (by omega) e2)
        | false =>
          refine ev_neg (by decide) (ev_pos (by omega) ?_)
          have := ih (i + 1) _ _ (out ++ [pend[i]]) q1 (by omega) (by omega) (by simp; omega) e2
          simpa using this
    · rw [if_neg c1] at e1
      simp only [Option.some.injEq, Prod.mk.injEq] at e1
      obtain ⟨rfl, rfl, rfl⟩ := e1
      refine ev_neg c1 (ev_pos (by omega) ?_)
      have := ih (i + 1) _ _ (out ++ [pend[i]]) q1 (by omega) (by omega) (by simp; omega) e2
      simpa using this
/-- What settling makes of a sound disk. -/
theorem settled {d : List ByteArray} {l : List S76} (h : diskOK d l = true) (host keep : Int) (lose : Bool) : ∃ q : List ByteArray × List S76, q.1.length ≤ 64 ∧ q.2.length ≤ 200 ∧ impl_Disk_settle.f d l host keep lose = some q ∧ Ev (fun k => spec_l01Land.f k d l host keep lose) q := by
  unfold diskOK at h
  simp only [Bool.and_eq_true, decide_eq_true_eq, List.all_eq_true] at h
  obtain ⟨h1, h2, _, h4⟩ := h
  have hx : ∀ x ∈ l, 0 ≤ x.f1 ∧ x.f1 < (d.length : Int) := fun x hx => by
    have := h4 x hx
    unfold ioOK at this
    simp only [Bool.and_eq_true] at this
    have := inB_iff.1 this.2.1
    omega
  obtain ⟨q, q1, q2, q3⟩ := go_total host lose l keep d hx
  refine ⟨(q.2.2, q.1), by show q.2.2.length ≤ _; omega, by show q.1.length ≤ _; omega, ?_, ?_⟩
  · unfold impl_Disk_settle.f
    rw [copied_eq d l (by omega) (by omega), Option.bind_some]
    show (if l.length ≤ 1000000000 then _ else _) = _
    rw [if_pos (by omega)]
    show (impl_Disk_settle_go host lose l keep d).bind _ = _
    rw [q1]; rfl
  · unfold spec_l01Land.f
    rw [own_eq d l (by omega) (by omega)]
    have := land_from host lose l (by omega) l.length 0 keep d [] q (by omega) (by omega) (by simp) (by simpa using q1)
    simpa using this
theorem ask_ev (d : List ByteArray) (l : List S76) (a : Int) (hd : d.length ≤ 1000000000) (hl : l.length ≤ 1000000000) : Ev (fun k => spec_l01Ask.f k d l a 0) (if diskOK d l = true then (if inB a 0 3 = true then 0 else 4) else 1) := by
  unfold spec_l01Ask.f
  refine ev_bind (spec_DiskOK_ev d l hd hl) ?_
  cases diskOK d l
  · exact ev_some _
  · simp only [l01In_eq, Option.bind_some, if_true]
    cases inB a 0 3
    · exact ev_some _
    · exact ev_some _
theorem codes_eq (d : List ByteArray) (l : List S76) (a : Int) : impl_Disk_codes.f d l a = some (if diskOK d l = true then (if inB a 0 3 = true then 0 else 4) else 1) := by
  simp only [impl_Disk_codes.f, impl_DiskOK_eq, impl_isHost.f, within_eq, Option.bind_some]
  cases diskOK d l
  · simp [impl_first.f, firstO]
  · cases inB a 0 3 <;> simp [impl_first.f, firstO]
end Go.Proofs.Ytadelojhfepkeaa.Q
