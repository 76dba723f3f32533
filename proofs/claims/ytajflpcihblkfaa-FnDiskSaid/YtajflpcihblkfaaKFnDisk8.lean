/- What laws.FnDisk reaches, part 8: the functions as Lean functions, the proofs that the program's functions answer so, and plain laws about them. -/
import Derived.Test.YtajflpcihblkfaaKFnDisk1
import Derived.Test.YtajflpcihblkfaaKFnDisk2
import Derived.Test.YtajflpcihblkfaaKFnDisk3
import Derived.Test.YtajflpcihblkfaaKFnDisk4
import Derived.Test.YtajflpcihblkfaaKFnDisk5
import Derived.Test.YtajflpcihblkfaaKFnDisk6
namespace Go.Proofs.Ytajflpcihblkfaa.Q
open Go.RowKit Go.Proofs.Ytajflpcihblkfaa.Ext Go.Proofs.YtajflpcihblkfaaW.PrintWords Go.Proofs.YtajflpcihblkfaaW.PrintLast Go.Proofs.YtajflpcihblkfaaW.PrintMore
attribute [local go_sem] max2_int min2_int max_two min_two max_three min_three max_four min_four   -- for this text's walks alone
set_option linter.unusedVariables false
set_option linter.unusedSimpArgs false

set_option linter.unusedVariables false
set_option linter.unusedSimpArgs false
/-! ### Base -/
def okI (x : Int) : Prop := (Lit.int .i64 x).wf = true
def okU8 (x : Int) : Prop := (Lit.int .u8 x).wf = true
def okB (_ : Bool) : Prop := True
def okS (x : ByteArray) : Prop := x.size ≤ maxLen
theorem w64 {n : Int} (h0 : -9223372036854775808 ≤ n) (h1 : n ≤ 9223372036854775807) : wrap64 n = n := by unfold wrap64; omega
theorem okI_iff {n : Int} (h : (Lit.int .i64 n).wf = true) : -9223372036854775808 ≤ n ∧ n ≤ 9223372036854775807 := by
  simp [Lit.wf, IntKind.min, IntKind.max, IntKind.signed, IntKind.bits] at h
  omega
theorem Ev.k {α : Type} {g : Nat → Option α} {r : α} (K : Nat) (h : ∀ k, K ≤ k → g k = some r) : Ev g r := ⟨K, h⟩
theorem ev_some {α : Type} (r : α) : Ev (fun _ => some r) r := ⟨0, fun _ _ => rfl⟩
theorem ev_of_eq {α : Type} {g : Nat → Option α} {r : α} (h : ∀ k, g k = some r) : Ev g r := ⟨0, fun k _ => h k⟩
theorem ev_bind {α β : Type} {g : Nat → Option α} {f : Nat → α → Option β} {a : α} {r : β} (h : Ev g a) (k : Ev (fun n => f n a) r) : Ev (fun n => (g n).bind (f n)) r := Ev.bind h k
theorem ev_if {α : Type} {c : Prop} [Decidable c] {g f : Nat → Option α} {r : α} (h : c → Ev g r) (h' : ¬ c → Ev f r) : Ev (fun n => if c then g n else f n) r := by
  by_cases hc : c
  · simp only [if_pos hc]; exact h hc
  · simp only [if_neg hc]; exact h' hc
theorem ev_pos {α : Type} {c : Prop} [Decidable c] {g f : Nat → Option α} {r : α} (hc : c) (h : Ev g r) : Ev (fun n => if c then g n else f n) r := by
  simp only [if_pos hc]; exact h
theorem ev_neg {α : Type} {c : Prop} [Decidable c] {g f : Nat → Option α} {r : α} (hc : ¬ c) (h : Ev f r) : Ev (fun n => if c then g n else f n) r := by
  simp only [if_neg hc]; exact h
theorem strOfNums_size (l : List Int) : (strOfNums l).size = l.length := by show (List.map _ l).toArray.size = _; simp
theorem ba_size_append (a b : ByteArray) : (a ++ b).size = a.size + b.size := by simp
theorem toList_inj {a b : ByteArray} : a.toList = b.toList ↔ a = b := by
  constructor
  · intro h
    have h1 : a.data.toList = b.data.toList := by simpa [ByteArray.toList_eq] using h
    have : a.data = b.data := Array.toList_inj.1 h1
    cases a; cases b; simp_all
  · rintro rfl; rfl
/-! ### Src -/
def srcOK (at_ seed : Int) (n : Nat) : Prop := 0 ≤ at_ ∧ at_ ≤ (n : Int) ∧ 0 ≤ seed ∧ seed < 2147483648
theorem rd_byte (l : List Int) (h : ∀ x ∈ l, 0 ≤ x ∧ x ≤ 255) (i : Int) : 0 ≤ rd l i ∧ rd l i ≤ 255 := by
  unfold rd
  by_cases hi : i.toNat < l.length
  · have : l.getD i.toNat 0 = l[i.toNat] := by simp [hi]
    rw [this]; exact h _ (List.getElem_mem hi)
  · have : l.getD i.toNat 0 = 0 := by simp [hi]
    rw [this]; omega
theorem byte_ok (l : List Int) (h : ∀ x ∈ l, 0 ≤ x ∧ x ≤ 255) (at_ seed : Int) (n : Nat) (hs : srcOK at_ seed n) (hn : n ≤ 1000000000000) :
    ∃ r a s, spec_l00Src_byte.f l at_ seed = some (r, a, s) ∧ 0 ≤ r ∧ r ≤ 255 ∧ srcOK a s (n + 1) := by
  obtain ⟨h0, h1, h2, h3⟩ := hs
  unfold spec_l00Src_byte.f
  have e1 : wrap64 (at_ + 1) = at_ + 1 := w64 (by omega) (by omega)
  have e2 : wrap64 (at_ + 1 - 1) = at_ := by rw [w64 (by omega) (by omega)]; omega
  rw [e1, e2]
  by_cases c1 : at_ + 1 ≤ (l.length : Int)
  · rw [if_pos c1, if_pos h0, if_pos (by omega)]
    have hb := rd_byte l h at_
    generalize rd l at_ = v at hb ⊢
    have e3 : wrap64 v = v := w64 (by omega) (by omega)
    have e4 : wrap64 (seed * 31) = seed * 31 := w64 (by omega) (by omega)
    rw [e3, e4]
    have e5 : wrap64 (seed * 31 + v) = seed * 31 + v := w64 (by omega) (by omega)
    rw [e5]
    have e6 : wrap64 (seed * 31 + v + 7) = seed * 31 + v + 7 := w64 (by omega) (by omega)
    rw [e6]
    refine ⟨_, _, _, rfl, hb.1, hb.2, by omega, by omega, ?_, ?_⟩
    · rw [Int.tmod_eq_emod_of_nonneg (by omega)]; omega
    · rw [Int.tmod_eq_emod_of_nonneg (by omega)]; omega
  · rw [if_neg c1]
    by_cases c2 : at_ + 1 > 3000
    · rw [if_pos c2]; exact ⟨_, _, _, rfl, by omega, by omega, by omega, by omega, h2, h3⟩
    · rw [if_neg c2]
      have e4 : wrap64 (seed * 1103515245) = seed * 1103515245 := w64 (by omega) (by omega)
      rw [e4]
      have e6 : wrap64 (seed * 1103515245 + 12345) = seed * 1103515245 + 12345 := w64 (by omega) (by omega)
      rw [e6, Int.tmod_eq_emod_of_nonneg (by omega : 0 ≤ seed * 1103515245 + 12345)]
      have hq0 : 0 ≤ (seed * 1103515245 + 12345) % 2147483648 := by omega
      have hq1 : (seed * 1103515245 + 12345) % 2147483648 < 2147483648 := by omega
      generalize (seed * 1103515245 + 12345) % 2147483648 = q at hq0 hq1 ⊢
      rw [Int.tdiv_eq_ediv_of_nonneg hq0]
      have e7 : wrap64 (q / 65536) = q / 65536 := w64 (by omega) (by omega)
      rw [e7, Int.tmod_eq_emod_of_nonneg (by omega)]
      exact ⟨_, _, _, rfl, by omega, by omega, by omega, by omega, hq0, hq1⟩
theorem srcOK_mono {a s : Int} {n m : Nat} (h : srcOK a s n) (hm : n ≤ m) : srcOK a s m := ⟨h.1, by have := h.2.1; omega, h.2.2.1, h.2.2.2⟩
theorem tmod_range {x n : Int} (h0 : 0 ≤ x) (hn : 0 < n) : 0 ≤ Int.tmod x n ∧ Int.tmod x n < n := by
  rw [Int.tmod_eq_emod_of_nonneg h0]; exact ⟨Int.emod_nonneg _ (by omega), Int.emod_lt_of_pos _ hn⟩
theorem next_ok (l : List Int) (h : ∀ x ∈ l, 0 ≤ x ∧ x ≤ 255) (at_ seed : Int) (n : Nat) (hs : srcOK at_ seed n) (hn : n ≤ 100000000000) (m : Int) :
    ∃ r a s, spec_l00Src_next.f l at_ seed m = some (r, a, s) ∧ 0 ≤ r ∧ (m ≤ 1 → r = 0) ∧ (1 ≤ m → r < m) ∧ srcOK a s (n + 3) := by
  unfold spec_l00Src_next.f
  by_cases c1 : m ≤ 1
  · rw [if_pos c1]; exact ⟨_, _, _, rfl, by omega, fun _ => rfl, fun _ => by omega, srcOK_mono hs (by omega)⟩
  · rw [if_neg c1]
    obtain ⟨r, a, s, e, r0, r1, ho⟩ := byte_ok l h at_ seed n hs (by omega)
    by_cases c2 : m ≤ 256
    · rw [if_pos c2, e, Option.bind_some, if_neg (by omega)]
      have := tmod_range r0 (show 0 < m by omega)
      exact ⟨_, _, _, rfl, this.1, fun h => absurd h c1, fun _ => this.2, srcOK_mono ho (by omega)⟩
    · rw [if_neg c2, e, Option.bind_some]
      obtain ⟨r', a', s', e', r0', r1', ho'⟩ := byte_ok l h a s (n + 1) ho (by omega)
      rw [e', Option.bind_some]
      obtain ⟨r'', a'', s'', e'', r0'', r1'', ho''⟩ := byte_ok l h a' s' (n + 2) ho' (by omega)
      rw [e'', Option.bind_some, if_neg (by omega)]
      dsimp only
      have x1 : wrap64 (r * 65536) = r * 65536 := w64 (by omega) (by omega)
      have x2 : wrap64 (r' * 256) = r' * 256 := w64 (by omega) (by omega)
      rw [x1, x2]
      have x3 : wrap64 (r * 65536 + r' * 256) = r * 65536 + r' * 256 := w64 (by omega) (by omega)
      rw [x3]
      have x4 : wrap64 (r * 65536 + r' * 256 + r'') = r * 65536 + r' * 256 + r'' := w64 (by omega) (by omega)
      rw [x4]
      have := tmod_range (show 0 ≤ r * 65536 + r' * 256 + r'' by omega) (show 0 < m by omega)
      exact ⟨_, _, _, rfl, this.1, fun h => absurd h c1, fun _ => this.2, ho''⟩
theorem source_ok (l : List Int) : srcOK 0 ((l.length : Int) % 1000) 0 := ⟨by omega, by omega, by omega, by omega⟩
theorem bytes_of {l : List Int} (h : ∀ x ∈ l, (Lit.int .u8 x).wf = true) : ∀ x ∈ l, 0 ≤ x ∧ x ≤ 255 := by
  intro x hx
  have := h x hx
  simp [Lit.wf, IntKind.min, IntKind.max, IntKind.signed, IntKind.bits] at this
  omega
/-! ### Mark -/
theorem ev_loop {α : Type} {g : Nat → Nat → Option α} {r : α} (n : Nat) (hend : Ev (fun k => g k n) r) (hstep : ∀ i, i < n → ∃ c, ∀ k, g (k + c) i = g k (i + 1) ∧ 1 ≤ c) : ∀ d i, i ≤ n → n - i = d → Ev (fun k => g k i) r := by
  intro d
  induction d with
  | zero =>
    intro i hi hd
    have e : i = n := by omega
    rw [e]; exact hend
  | succ d ih =>
    intro i hi hd
    obtain ⟨K, hK⟩ := ih (i + 1) (by omega) (by omega)
    obtain ⟨c, hc⟩ := hstep i (by omega)
    refine ⟨K + c, fun k hk => ?_⟩
    obtain ⟨m, rfl⟩ : ∃ m, k = m + c := ⟨k - c, by omega⟩
    show g (m + c) i = _
    rw [(hc m).1]; exact hK m (by omega)
theorem rdn (l : List Int) (i : Nat) (h : i < l.length) : rd l (i : Int) = l[i] := by simp [rd, h]
theorem wnext (i : Nat) (h : i < 1000000000000000000) : wrap64 ((i : Int) + 1) = ((i + 1 : Nat) : Int) := by rw [w64 (by omega) (by omega)]; omega
def countUp (a : Int) (n : Nat) : List Int := (List.range n).map (fun j : Nat => a + (j : Int))
theorem countUp_length (a : Int) (n : Nat) : (countUp a n).length = n := by simp [countUp]
theorem countUp_get (a : Int) (n i : Nat) (h : i < n) : (countUp a n)[i]'(by rw [countUp_length]; exact h) = a + (i : Int) := by simp [countUp]
theorem set_mid {α : Type} (l m : List α) (hlm : m.length = l.length) (i : Nat) (h : i < l.length) (x : α) (hx : m[i]'(by omega) = x) : (m.take i ++ l.drop i).set i x = m.take (i + 1) ++ l.drop (i + 1) := by
  subst hx
  rw [List.drop_eq_getElem_cons h, List.set_append_right _ _ (by rw [List.length_take]; omega)]
  have : i - (m.take i).length = 0 := by rw [List.length_take]; omega
  rw [this, List.set_cons_zero, List.take_succ_eq_append_getElem (by omega), List.append_assoc]
  rfl
/-! ### Ev -/
theorem Ev.succ {α : Type} {g : Nat → Option α} {r : α} (h : Ev (fun k => g (k + 1)) r) : Ev g r := Ev.step (f := fun k => g (k + 1)) (fun _ => rfl) h
theorem ev_all {α : Type} {g : Nat → Nat → Option Bool} (l : List α) (q : α → Bool) (r : Bool) (hend : Ev (fun k => g k l.length) r) (hstep : ∀ i (h : i < l.length) k, g (k + 1) i = if q l[i] = true then g k (i + 1) else some false) : Ev (fun k => g k 0) (l.all q && r) := by
  have hgo : ∀ d i, i ≤ l.length → l.length - i = d → Ev (fun k => g k i) ((l.drop i).all q && r) := by
    intro d
    induction d with
    | zero =>
      intro i hi hd
      have e : i = l.length := by omega
      subst e
      rw [List.drop_of_length_le (by omega)]; simp only [List.all_nil, Bool.true_and]; exact hend
    | succ d ih =>
      intro i hi hd
      have hlt : i < l.length := by omega
      refine Ev.step (f := fun k => if q l[i] = true then g k (i + 1) else some false) (hstep i hlt) ?_
      rw [List.drop_eq_getElem_cons hlt, List.all_cons]
      cases hq : q l[i]
      · simp only [Bool.false_and, Bool.false_eq_true, if_false]; exact ev_some _
      · simp only [Bool.true_and, if_true]; exact ih (i + 1) (by omega) (by omega)
  have := hgo l.length 0 (by omega) (by omega)
  rwa [List.drop_zero] at this
theorem ev_asks {α β : Type} {g : Nat → Nat → Option β} (l : List α) (q : α → Bool) (r bad : β) (hend : Ev (fun k => g k l.length) r) (hstep : ∀ i (h : i < l.length) k, g (k + 1) i = if q l[i] = true then g k (i + 1) else some bad) : Ev (fun k => g k 0) (if l.all q = true then r else bad) := by
  have hgo : ∀ d i, i ≤ l.length → l.length - i = d → Ev (fun k => g k i) (if (l.drop i).all q = true then r else bad) := by
    intro d
    induction d with
    | zero =>
      intro i hi hd
      have e : i = l.length := by omega
      subst e
      rw [List.drop_of_length_le (by omega)]; simp only [List.all_nil, if_true]; exact hend
    | succ d ih =>
      intro i hi hd
      have hlt : i < l.length := by omega
      refine Ev.step (f := fun k => if q l[i] = true then g k (i + 1) else some bad) (hstep i hlt) ?_
      rw [List.drop_eq_getElem_cons hlt, List.all_cons]
      cases hq : q l[i]
      · simp only [Bool.false_and, Bool.false_eq_true, if_false]; exact ev_some _
      · simp only [Bool.true_and, if_true]; exact ih (i + 1) (by omega) (by omega)
  have := hgo l.length 0 (by omega) (by omega)
  rwa [List.drop_zero] at this
/-! ### Draw -/
theorem some_fill (l : List Int) (h : ∀ x ∈ l, 0 ≤ x ∧ x ≤ 255) (m : Nat) (hm : m ≤ 1000000) : ∀ (d i : Nat) (out : List Int) (at_ seed : Int) (n : Nat), i + d = m → out.length = i → n + 3 * d ≤ 10000000000 → srcOK at_ seed n →
    ∃ t a s, Ev (fun k => spec_l00Src_some.l0 k (m : Int) out (i : Int) l at_ seed) (t, a, s) ∧ t.size = m ∧ srcOK a s (n + 3 * d) := by
  intro d
  induction d with
  | zero =>
    intro i out at_ seed n hi ho hn hs
    refine ⟨strOfNums out, at_, seed, Ev.step (f := fun _ => some (strOfNums out, at_, seed)) (fun k => ?_) (ev_some _), by rw [strOfNums_size]; omega, hs⟩
    simp only [spec_l00Src_some.l0]; rw [if_neg (by omega)]
  | succ d ih =>
    intro i out at_ seed n hi ho hn hs
    obtain ⟨r, a, s, e, r0, -, r1, o⟩ := next_ok l h at_ seed n hs (by omega) 26
    obtain ⟨t, a', s', e', ht, ho'⟩ := ih (i + 1) (out ++ [(wrap64 (97 + r)) % 256]) a s (n + 3) (by omega) (by simp; omega) (by omega) o
    refine ⟨t, a', s', Ev.step (f := fun k => spec_l00Src_some.l0 k (m : Int) (out ++ [(wrap64 (97 + r)) % 256]) ((i + 1 : Nat) : Int) l a s) (fun k => ?_) e', ht, srcOK_mono ho' (by omega)⟩
    simp only [spec_l00Src_some.l0]
    rw [if_pos (by omega), e, Option.bind_some, if_pos (by omega), wnext i (by omega)]
theorem some_ev (l : List Int) (h : ∀ x ∈ l, 0 ≤ x ∧ x ≤ 255) (m : Nat) (hm : m ≤ 1000000) (at_ seed : Int) (n : Nat) (hs : srcOK at_ seed n) (hn : n + 3 * m ≤ 10000000000) :
    ∃ t a s, Ev (fun k => spec_l00Src_some.f k l at_ seed (m : Int)) (t, a, s) ∧ t.size = m ∧ srcOK a s (n + 3 * m) :=
  some_fill l h m hm m 0 [] at_ seed n (by omega) rfl hn hs
/-! ### In -/
def inB (n a b : Int) : Bool := decide (a ≤ n) && decide (n ≤ b)
theorem inB_iff {n a b : Int} : inB n a b = true ↔ a ≤ n ∧ n ≤ b := by simp [inB]
theorem inB_no {n a b : Int} : inB n a b = false ↔ ¬ (a ≤ n ∧ n ≤ b) := by rw [← inB_iff]; simp
theorem l01In_eq (n a b : Int) : spec_l01In.f n a b = some (inB n a b) := by
  unfold spec_l01In.f inB; by_cases h : a ≤ n <;> simp [h]
theorem within_eq (n a b : Int) : impl_within.f n a b = some (inB n a b) := by
  unfold impl_within.f inB; by_cases h : a ≤ n <;> simp [h]
theorem and_opt {b : Bool} {c : Option Bool} {c' : Bool} (h : c = some c') : (if b = true then c else some false) = some (b && c') := by
  cases b <;> simp [h]
/-! ### First -/
theorem first1 (b : Bool) (c : Int) : impl_first.f [Any.b b, Any.n c] = some (if b = true then c else 0) := by
  unfold impl_first.f; cases b <;> simp [firstO]
theorem first2 (b b' : Bool) (c c' : Int) : impl_first.f [Any.b b, Any.n c, Any.b b', Any.n c'] = some (if b = true then c else if b' = true then c' else 0) := by
  unfold impl_first.f; cases b <;> cases b' <;> simp [firstO]
theorem first3 (b b' b'' : Bool) (c c' c'' : Int) : impl_first.f [Any.b b, Any.n c, Any.b b', Any.n c', Any.b b'', Any.n c''] = some (if b = true then c else if b' = true then c' else if b'' = true then c'' else 0) := by
  unfold impl_first.f; cases b <;> cases b' <;> cases b'' <;> simp [firstO]
theorem first4 (b b' b'' b3 : Bool) (c c' c'' c3 : Int) : impl_first.f [Any.b b, Any.n c, Any.b b', Any.n c', Any.b b'', Any.n c'', Any.b b3, Any.n c3] = some (if b = true then c else if b' = true then c' else if b'' = true then c'' else if b3 = true then c3 else 0) := by
  unfold impl_first.f; cases b <;> cases b' <;> cases b'' <;> cases b3 <;> simp [firstO]
theorem isLongText_eq (t : ByteArray) : impl_isLongText.f t = some (decide ((t.size : Int) > 65536)) := by unfold impl_isLongText.f; rfl
/-! ### MarkT -/
theorem ev_down {α : Type} {g : Nat → Nat → Option α} {r : α} (n : Nat) (hend : Ev (fun k => g k n) r) (hstep : ∀ i, i < n → Ev (fun k => g k (i + 1)) r → Ev (fun k => g k i) r) : Ev (fun k => g k 0) r := by
  have : ∀ d i, i ≤ n → n - i = d → Ev (fun k => g k i) r := by
    intro d
    induction d with
    | zero => intro i hi hd; have e : i = n := by omega
              rw [e]; exact hend
    | succ d ih => intro i hi hd; exact hstep i (by omega) (ih (i + 1) (by omega) (by omega))
  exact this n 0 (by omega) (by omega)
/-! ### PString -/
theorem rdE_String (l : List ByteArray) (i : Nat) (h : i < l.length) : rdOf ByteArray.empty l (i : Int) = l[i] := by simp [rdOf, h]
theorem rdset_String (l : List ByteArray) (i : Nat) (v : ByteArray) (h : i < l.length) : rdOf ByteArray.empty (l.set i v) (i : Int) = v := by simp [rdOf, h]
def cvString (x : ByteArray) : ByteArray := x
/-! ### PIo -/
theorem rdE_Io (l : List S92) (i : Nat) (h : i < l.length) : rd_T92 l (i : Int) = l[i] := by simp [rd_T92, h]
theorem rdset_Io (l : List S92) (i : Nat) (v : S92) (h : i < l.length) : rd_T92 (l.set i v) (i : Int) = v := by simp [rd_T92, h]
/-! ### Disk -/
def ioOK (x : S92) : Bool := inB x.f0 0 3 && (inB x.f1 0 63 && decide ((x.f2.size : Int) ≤ 80))
def secOK (x : ByteArray) : Bool := decide ((x.size : Int) ≤ 80)
def diskOK (d : List ByteArray) (l : List S92) : Bool := decide ((d.length : Int) = 64) && (decide ((l.length : Int) ≤ 200) && (d.all secOK && l.all ioOK))
theorem l01Io_eq (x : S92) : spec_l01Io.f x.f0 x.f1 x.f2 = some (ioOK x) := by
  simp only [spec_l01Io.f, l01In_eq, Option.bind_some]
  unfold ioOK; exact and_opt (and_opt rfl)
theorem DiskOK_1_eq (x : S92) : impl_DiskOK_1.f x.f0 x.f1 x.f2 = some (ioOK x) := by
  simp only [impl_DiskOK_1.f, impl_isHost.f, impl_isPlace.f, impl_isSector.f, within_eq, Option.bind_some]
  unfold ioOK; exact and_opt (and_opt rfl)
theorem impl_DiskOK_eq (d : List ByteArray) (l : List S92) : impl_DiskOK.f d l = some (diskOK d l) := by
  have h1 : all90_impl_isSector.f d () = some (d.all secOK) := by unfold all90_impl_isSector.f; exact allO_some _ _ (fun x _ => rfl)
  have h2 : all91_impl_DiskOK_1.f l () = some (l.all ioOK) := by unfold all91_impl_DiskOK_1.f; exact allO_some _ _ (fun x _ => DiskOK_1_eq x)
  unfold impl_DiskOK.f diskOK
  rw [h1, h2]
  by_cases e1 : (d.length : Int) = 64 <;> by_cases e2 : (l.length : Int) ≤ 200 <;> cases d.all secOK <;> simp [e1, e2]
theorem spec_DiskOK_ev (d : List ByteArray) (l : List S92) (hd : d.length ≤ 1000000000) (hl : l.length ≤ 1000000000) : Ev (fun k => spec_DiskOK.f k d l) (diskOK d l) := by
  have hI : Ev (fun k => spec_DiskOK.l1 k ((0 : Nat) : Int) d l) (l.all ioOK && true) := by
    refine ev_all (g := fun k i => spec_DiskOK.l1 k (i : Int) d l) l ioOK true ?_ ?_
    · refine Ev.step (f := fun _ => some true) (fun k => ?_) (ev_some _)
      simp only [spec_DiskOK.l1]; rw [if_neg (by omega)]
    · intro i hi k
      simp only [spec_DiskOK.l1]
      rw [if_pos (by omega), if_pos (by omega), rdE_Io l i hi, l01Io_eq, Option.bind_some, wnext i (by omega)]
  have hS : Ev (fun k => spec_DiskOK.l0 k ((0 : Nat) : Int) d l) (d.all secOK && (l.all ioOK && true)) := by
    refine ev_all (g := fun k i => spec_DiskOK.l0 k (i : Int) d l) d secOK _ ?_ ?_
    · refine Ev.step (f := fun k => spec_DiskOK.l1 k ((0 : Nat) : Int) d l) (fun k => ?_) hI
      simp only [spec_DiskOK.l0]; rw [if_neg (by omega)]; rfl
    · intro i hi k
      simp only [spec_DiskOK.l0]
      rw [if_pos (by omega), if_pos (by omega), rdE_String d i hi, wnext i (by omega)]
      unfold secOK
      by_cases hz : (d[i].size : Int) > 80
      · rw [if_pos hz, if_neg (by simp; omega)]
      · rw [if_neg hz, if_pos (by simp; omega)]
  rw [Bool.and_true] at hS
  unfold spec_DiskOK.f diskOK
  by_cases e1 : (d.length : Int) = 64
  · rw [decide_eq_true e1, Bool.true_and]
    refine ev_pos e1 (Ev.succ ?_)
    simp only [spec_DiskOK.j0, decide_eq_true_eq]
    by_cases e2 : (l.length : Int) ≤ 200
    · refine ev_neg (by omega) ?_
      rw [decide_eq_true e2, Bool.true_and]; exact hS
    · refine ev_pos (by omega) ?_
      rw [decide_eq_false e2, Bool.false_and]; exact ev_some _
  · rw [decide_eq_false e1, Bool.false_and]
    refine ev_neg e1 (Ev.succ ?_)
    simp only [spec_DiskOK.j0, if_true]; exact ev_some _
theorem cvStringS (d : List ByteArray) : d.map cvString = d := by induction d with
  | nil => rfl
  | cons x xs ih => rw [List.map_cons, ih]; rfl
/-! ### Settle -/
theorem own_eq (d : List ByteArray) (l : List S92) (hd : d.length ≤ 1000000000) (hl : l.length ≤ 1000000000) : spec_l01Own.f d l = some (d, l) := by
  unfold spec_l01Own.f
  simp only [Option.bind_some, List.length_nil, List.nil_append]
  rw [if_pos (by omega), if_pos (by omega)]
theorem copied_eq (d : List ByteArray) (l : List S92) (hd : d.length ≤ 1000000000) (hl : l.length ≤ 1000000000) : impl_Disk_copied.f d l = some (d, l) := by
  simp only [impl_Disk_copied.f, slices_Clone_string_string.f, impl_Io_118.f]
  rw [if_pos (by omega), if_pos (by omega)]; rfl
theorem go_total (host : Int) (lose : Bool) : ∀ (l : List S92) (keep : Int) (secs : List ByteArray), (∀ x ∈ l, 0 ≤ x.f1 ∧ x.f1 < (secs.length : Int)) → ∃ q, impl_Disk_settle_go host lose l keep secs = some q ∧ q.1.length ≤ l.length ∧ q.2.2.length = secs.length := by
  intro l
  induction l with
  | nil => intro keep secs _; exact ⟨_, rfl, Nat.le_refl _, rfl⟩
  | cons x r ih =>
    intro keep secs h
    have hx := h x (by simp)
    have hs : ∃ b, impl_Disk_settle_stp host lose keep secs x = some b ∧ b.2.2.length = secs.length := by
      unfold impl_Disk_settle_stp
      by_cases c1 : x.f0 = host
      · rw [if_pos c1]
        by_cases c2 : keep > 0
        · rw [if_pos c2, if_pos hx.1, if_pos hx.2]; exact ⟨_, rfl, by simp⟩
        · rw [if_neg c2]; exact ⟨_, rfl, rfl⟩
      · rw [if_neg c1]; exact ⟨_, rfl, rfl⟩
    obtain ⟨⟨b, k1, s1⟩, e1, e2⟩ := hs
    obtain ⟨q, q1, q2, q3⟩ := ih k1 s1 (fun y hy => by have := h y (by simp [hy]); rw [e2]; exact this)
    refine ⟨(if b = true then q.1 else x :: q.1, q.2.1, q.2.2), by simp only [impl_Disk_settle_go, e1, q1, Option.bind_some], ?_, by show q.2.2.length = _; rw [q3]; exact e2⟩
    cases b
    · show (x :: q.1).length ≤ (x :: r).length; simp only [List.length_cons]; omega
    · show q.1.length ≤ (x :: r).length; simp only [List.length_cons]; omega
theorem land_from (host : Int) (lose : Bool) (pend : List S92) (hp : pend.length ≤ 1000000000) : ∀ d i (keep : Int) (secs : List ByteArray) (out : List S92) (q : List S92 × Int × List ByteArray), pend.length - i = d → i ≤ pend.length → out.length ≤ i → impl_Disk_settle_go host lose (pend.drop i) keep secs = some q →
    Ev (fun k => spec_l01Land.l0 k host keep lose out (i : Int) secs pend) (q.2.2, out ++ q.1) := by
  intro d
  induction d with
  | zero =>
    intro i keep secs out q hd hi ho h
    rw [List.drop_of_length_le (by omega)] at h
    simp only [impl_Disk_settle_go, Option.some.injEq] at h
    subst h
    refine Ev.step (f := fun _ => some (secs, out ++ [])) (fun k => ?_) (ev_some _)
    simp only [spec_l01Land.l0, List.append_nil]; rw [if_neg (by omega)]
  | succ d ih =>
    intro i keep secs out q hd hi ho h
    have hlt : i < pend.length := by omega
    rw [List.drop_eq_getElem_cons hlt] at h
    simp only [impl_Disk_settle_go] at h
    obtain ⟨⟨b, k1, s1⟩, e1, h⟩ := Option.bind_eq_some_iff.mp h
    obtain ⟨q1, e2, h⟩ := Option.bind_eq_some_iff.mp h
    simp only [Option.some.injEq] at h
    subst h
    have hap : ∀ x : S92, (⟨x.f0, x.f1, x.f2⟩ : S92) = x := fun _ => rfl
    refine Ev.succ ?_
    simp only [spec_l01Land.l0, rdE_Io pend i hlt, hap]
    refine ev_pos (by omega) (ev_pos (by omega) ?_)
    rw [wnext i (by omega)]
    unfold impl_Disk_settle_stp at e1
    by_cases c1 : pend[i].f0 = host
    · rw [if_pos c1] at e1
      refine ev_pos c1 ?_
      by_cases c2 : keep > 0
      · rw [if_pos c2] at e1
        refine ev_pos c2 ?_
        by_cases c3 : 0 ≤ pend[i].f1
        · rw [if_pos c3] at e1
          by_cases c4 : pend[i].f1 < (secs.length : Int)
          · rw [if_pos c4] at e1
            simp only [Option.some.injEq, Prod.mk.injEq] at e1
            obtain ⟨rfl, rfl, rfl⟩ := e1
            exact ev_pos c3 (ev_pos c4 (ih (i + 1) _ _ out q1 (by omega) (by omega) (by omega) e2))
          · rw [if_neg c4] at e1; cases e1
        · rw [if_neg c3] at e1; cases e1
      · rw [if_neg c2] at e1
        simp only [Option.some.injEq, Prod.mk.injEq] at e1
        obtain ⟨rfl, rfl, rfl⟩ := e1
        refine ev_neg c2 ?_
        cases lose with
        | true => exact ev_pos rfl (ih (i + 1) _ _ out q1 (by omega) (by omega) (by omega) e2)
        | false =>
          refine ev_neg (by decide) (ev_pos (by omega) ?_)
          have := ih (i + 1) _ _ (out ++ [pend[i]]) q1 (by omega) (by omega) (by simp; omega) e2
          simpa using this
    · rw [if_neg c1] at e1
      simp only [Option.some.injEq, Prod.mk.injEq] at e1
      obtain ⟨rfl, rfl, rfl⟩ := e1
      refine ev_neg c1 (ev_pos (by omega) ?_)
      have := ih (i + 1) _ _ (out ++ [pend[i]]) q1 (by omega) (by omega) (by simp; omega) e2
      simpa using this
/-- What settling makes of a sound disk. -/
theorem settled {d : List ByteArray} {l : List S92} (h : diskOK d l = true) (host keep : Int) (lose : Bool) : ∃ q : List ByteArray × List S92, q.1.length ≤ 64 ∧ q.2.length ≤ 200 ∧ impl_Disk_settle.f d l host keep lose = some q ∧ Ev (fun k => spec_l01Land.f k d l host keep lose) q := by
  unfold diskOK at h
  simp only [Bool.and_eq_true, decide_eq_true_eq, List.all_eq_true] at h
  obtain ⟨h1, h2, _, h4⟩ := h
  have hx : ∀ x ∈ l, 0 ≤ x.f1 ∧ x.f1 < (d.length : Int) := fun x hx => by
    have := h4 x hx
    unfold ioOK at this
    simp only [Bool.and_eq_true] at this
    have := inB_iff.1 this.2.1
    omega
  obtain ⟨q, q1, q2, q3⟩ := go_total host lose l keep d hx
  refine ⟨(q.2.2, q.1), by show q.2.2.length ≤ _; omega, by show q.1.length ≤ _; omega, ?_, ?_⟩
  · unfold impl_Disk_settle.f
    rw [copied_eq d l (by omega) (by omega), Option.bind_some]
    show (if l.length ≤ 1000000000 then _ else _) = _
    rw [if_pos (by omega)]
    show (impl_Disk_settle_go host lose l keep d).bind _ = _
    rw [q1]; rfl
  · unfold spec_l01Land.f
    rw [own_eq d l (by omega) (by omega)]
    have := land_from host lose l (by omega) l.length 0 keep d [] q (by omega) (by omega) (by simp) (by simpa using q1)
    simpa using this
theorem ask_ev (d : List ByteArray) (l : List S92) (a : Int) (hd : d.length ≤ 1000000000) (hl : l.length ≤ 1000000000) : Ev (fun k => spec_l01Ask.f k d l a 0) (if diskOK d l = true then (if inB a 0 3 = true then 0 else 4) else 1) := by
  unfold spec_l01Ask.f
  refine ev_bind (spec_DiskOK_ev d l hd hl) ?_
  cases diskOK d l
  · exact ev_some _
  · simp only [l01In_eq, Option.bind_some, if_true]
    cases inB a 0 3
    · exact ev_some _
    · exact ev_some _
theorem codes_eq (d : List ByteArray) (l : List S92) (a : Int) : impl_Disk_codes.f d l a = some (if diskOK d l = true then (if inB a 0 3 = true then 0 else 4) else 1) := by
  simp only [impl_Disk_codes.f, impl_DiskOK_eq, impl_isHost.f, within_eq, Option.bind_some]
  cases diskOK d l
  · simp [impl_first.f, firstO]
  · cases inB a 0 3 <;> simp [impl_first.f, firstO]
/-! ### Count -/
def countOf (host : Int) (l : List S92) : Nat := (l.filter (fun x => x.f0 == host)).length
theorem count_take (host : Int) (l : List S92) (i : Nat) (h : i < l.length) : countOf host (l.take (i + 1)) = if l[i].f0 = host then countOf host (l.take i) + 1 else countOf host (l.take i) := by
  unfold countOf
  rw [List.take_succ_eq_append_getElem h, List.filter_append, List.length_append]
  by_cases c : l[i].f0 = host
  · rw [if_pos c]; simp [c]
  · rw [if_neg c]; simp [c]
theorem count_le (host : Int) (l : List S92) : countOf host l ≤ l.length := by unfold countOf; exact List.length_filter_le _ _
theorem count_take_le (host : Int) (l : List S92) (i : Nat) : countOf host (l.take i) ≤ l.length := Nat.le_trans (count_le _ _) (by simp; omega)
theorem impl_count_ev (d : List ByteArray) (l : List S92) (a : Int) (hl : l.length ≤ 1048576) : Ev (fun k => impl_Disk_pending.f k d l a) ((countOf a l : Nat) : Int) := by
  unfold impl_Disk_pending.f
  have h := ev_loop (g := fun k i => impl_Disk_pending.l0 k a ((countOf a (l.take i) : Nat) : Int) l (l.length : Int) (i : Int)) (r := ((countOf a l : Nat) : Int)) l.length ?_ ?_ l.length 0 (by omega) (by omega)
  · simpa [countOf] using h
  · refine Ev.step (f := fun _ => some ((countOf a l : Nat) : Int)) (fun k => ?_) (ev_some _)
    simp only [impl_Disk_pending.l0]; rw [if_neg (by omega), List.take_of_length_le (by omega)]
  · intro i hi
    have hb := count_take_le a l i
    refine ⟨1, fun k => ⟨?_, by omega⟩⟩
    simp only [impl_Disk_pending.l0]
    rw [if_pos (by omega), if_pos (by omega), if_pos (by omega), rdE_Io l i hi, wnext i (by omega), count_take a l i hi]
    by_cases c : l[i].f0 = a
    · rw [if_pos c, if_pos c, w64 (by omega) (by omega)]; rfl
    · rw [if_neg c, if_neg c]
section
attribute [local go_sem high] eqA92
/-! ### impl_LandOne: function 28 -/
def impl_LandOne.f (k : Nat) (l0_0 : List ByteArray) (l0_1 : List (S92)) (a1 : Int) : Option (List ByteArray × (List (S92)) × Int) := (impl_Disk_codes.f l0_0 l0_1 a1).bind fun t605 => (if t605 = 0 then ((impl_Disk_pending.f k l0_0 l0_1 a1).bind fun t606 => (if t606 = 0 then ((impl_Disk_copied.f l0_0 l0_1).bind fun bt607 => (some (bt607.1, bt607.2, 5))) else ((impl_Disk_settle.f l0_0 l0_1 a1 1 false).bind fun bt613 => (some (bt613.1, bt613.2, 0))))) else (some (([] : List ByteArray), ([] : List (S92)), t605)))
theorem impl_LandOne.mono : ∀ a0 a1 a2 k, LeO (impl_LandOne.f k a0 a1 a2) (impl_LandOne.f (k + 1) a0 a1 a2) := by
  intro a0 a1 a2 k
  unfold impl_LandOne.f
  repeat' first
      | (with_reducible exact impl_Disk_pending.mono _ _ _ _)
      | (with_reducible exact LeO.refl _)
      | (with_reducible exact LeO.none _)
      | (with_reducible refine LeO.ite ?_ ?_)
      | (with_reducible refine LeO.bind ?_ (fun _ => ?_))
      | exact impl_Disk_pending.mono _ _ _ _
      | exact LeO.none _
      | refine LeO.ite ?_ ?_
      | refine LeO.bind ?_ (fun _ => ?_)
set_option maxHeartbeats 8000000 in
set_option maxRecDepth 100000 in
theorem impl_LandOne.calls (k : Nat) (A0_0 : Option Addr) (c0_0 : Nat) (l0_0 : List ByteArray) (A0_1 : Option Addr) (c0_1 : Nat) (l0_1 : List (S92)) (a1 : Int) (r1 : List ByteArray) (r2 : List (S92)) (r3 : Int) (w : World) (hr0_0 : Kd.C Kd.string w A0_0 l0_0.length l0_0) (hc0_0 : l0_0.length ≤ c0_0) (hr0_1 : Kd.C k92 w A0_1 l0_1.length l0_1) (hc0_1 : l0_1.length ≤ c0_1) (h : impl_LandOne.f k l0_0 l0_1 a1 = some (r1, r2, r3)) :
    Calls Try.prog 28 #[.agg #[.slice A0_0 l0_0.length c0_0, .slice A0_1 l0_1.length c0_1], .int .i64 a1] w fun e w' => ∃ v0_ v1_ : Value, e = .returned (.tuple #[.agg #[v0_, v1_], .int .i64 r3]) ∧ Kd.R Kd.string 9 w' w.heap.size (fun _ => True) v0_ r1 ∧ Kd.R k92 92 w' w.heap.size (fun _ => True) v1_ r2 ∧ Below w.heap.size w w' := by
 have hu48 := Try.underlying48
 have Zg := zm hr0_0
 have Zh := zm hc0_0
 clear hr0_0 hc0_0
 have Zi := zm hr0_1
 have Zj := zm hc0_1
 clear hr0_1 hc0_1
 have HB := zm (Below.refl w.heap.size w)
 have H : ((impl_Disk_codes.f l0_0 l0_1 a1).bind fun t605 => (if t605 = 0 then ((impl_Disk_pending.f k l0_0 l0_1 a1).bind fun t606 => (if t606 = 0 then ((impl_Disk_copied.f l0_0 l0_1).bind fun bt607 => (some (bt607.1, bt607.2, 5))) else ((impl_Disk_settle.f l0_0 l0_1 a1 1 false).bind fun bt613 => (some (bt613.1, bt613.2, 0))))) else (some (([] : List ByteArray), ([] : List (S92)), t605)))) = some (r1, r2, r3) := h
 clear h
 replace H := Option.bind_eq_some_iff.mp H
 obtain ⟨t605, A30, H⟩ := H
 replace H : (if t605 = 0 then ((impl_Disk_pending.f k l0_0 l0_1 a1).bind fun t606 => (if t606 = 0 then ((impl_Disk_copied.f l0_0 l0_1).bind fun bt607 => (some (bt607.1, bt607.2, 5))) else ((impl_Disk_settle.f l0_0 l0_1 a1 1 false).bind fun bt613 => (some (bt613.1, bt613.2, 0))))) else (some (([] : List ByteArray), ([] : List (S92)), t605))) = some (r1, r2, r3) := H
 have A3 := zm A30
 clear A30
 by_cases c4 : t605 = 0
 ·rw [if_pos c4] at H
  have c4b0 : (t605 == 0) = true := beq_iff_eq.mpr c4
  have c4b1 : (t605 != 0) = false := bne_eq_false_iff_eq.mpr c4
  clear c4
  replace H := Option.bind_eq_some_iff.mp H
  obtain ⟨t606, A50, H⟩ := H
  replace H : (if t606 = 0 then ((impl_Disk_copied.f l0_0 l0_1).bind fun bt607 => (some (bt607.1, bt607.2, 5))) else ((impl_Disk_settle.f l0_0 l0_1 a1 1 false).bind fun bt613 => (some (bt613.1, bt613.2, 0)))) = some (r1, r2, r3) := H
  have A5 := zm A50
  clear A50
  by_cases c6 : t606 = 0
  ·rw [if_pos c6] at H
   have c6b0 : (t606 == 0) = true := beq_iff_eq.mpr c6
   have c6b1 : (t606 != 0) = false := bne_eq_false_iff_eq.mpr c6
   clear c6
   replace H := Option.bind_eq_some_iff.mp H
   obtain ⟨⟨t607, t610⟩, A70, H⟩ := H
   replace H : (some (t607, t610, 5)) = some (r1, r2, r3) := H
   have A7 := zm A70
   clear A70
   simp only [Option.some.injEq, Prod.mk.injEq] at H
   obtain ⟨rfl, rfl, rfl⟩ := H
   go_enter Try.func28, Try.ntmps28
   go_wp2_with (first | ((with_reducible refine gate_dst (N := 2) rfl ?_); refine box_event ?hg (N := 2) ?hd (cs := #[.slice A0_0 l0_0.length c0_0, .slice A0_1 l0_1.length c0_1]) (t := 48) ?hr ?_; (case hd => rfl); (case hg => rfl); (case hr => first | (go_simp; done) | (go_simp; rfl)); intro gb603 hg w8 hbox hb; have n0_ := zm (below_step (zg_0 HB.out) hb); have n1_ := zm (hbox); have n2_ := zm ((by rw [hg]; exact (below_size (zg_0 HB.out)) : w.heap.size ≤ gb603)); have n3_ := zm ((by rw [hg]; exact (below_size (zg_0 HB.out)) : w.heap.size ≤ gb603)); clear HB; have HB := n0_; have Za := n1_; have Zk := n2_; have Zc := n3_; clear n0_ n1_ n2_ n3_; clear hb hbox hg) | ((with_reducible refine gate_dst (N := 4) rfl ?_); refine box_event ?hg (N := 4) ?hd (cs := #[.slice none 0 0, .slice none 0 0]) (t := 48) ?hr ?_; (case hd => rfl); (case hg => rfl); (case hr => first | (go_simp; done) | (go_simp; rfl)); intro gb604 hg w9 hbox hb; have n0_ := zm (blk_below (g := gb603) (o := .cells #[.slice A0_0 l0_0.length c0_0, .slice A0_1 l0_1.length c0_1] 48 (0, 0)) (zg_2 Za.out) hb); have n1_ := zm (below_step (zg_1 HB.out Zc.out) hb); have n2_ := zm (hbox); have n3_ := zm ((by rw [hg]; exact (below_size (zg_1 HB.out Zc.out)) : w.heap.size ≤ gb604)); have n4_ := zm ((by rw [hg]; exact (below_size (zg_1 HB.out Zc.out)) : w.heap.size ≤ gb604)); have n5_ := zm ((by rw [hg]; exact Nat.ne_of_lt (blk_lt (g := gb603) (o := .cells #[.slice A0_0 l0_0.length c0_0, .slice A0_1 l0_1.length c0_1] 48 (0, 0)) (zg_2 Za.out)) : gb603 ≠ gb604)); have n6_ := zm ((by rw [hg]; exact Nat.ne_of_gt (blk_lt (g := gb603) (o := .cells #[.slice A0_0 l0_0.length c0_0, .slice A0_1 l0_1.length c0_1] 48 (0, 0)) (zg_2 Za.out)) : gb604 ≠ gb603)); clear Za; clear HB; have Za := n0_; have HB := n1_; have Zb := n2_; have Zl := n3_; have Zd := n4_; have Ze := n5_; have Zf := n6_; clear n0_ n1_ n2_ n3_ n4_ n5_ n6_; clear hb hbox hg; have hnb10 := Ze.out; have hnc10 := Zf.out; have hcz11_0 : w9.cell? ⟨gb603, 0, none⟩ = some (.slice A0_0 l0_0.length c0_0) := (blk_cell Za.out 0).trans rfl; have hcz11_1 : w9.cell? ⟨gb603, 1, none⟩ = some (.slice A0_1 l0_1.length c0_1) := (blk_cell Za.out 1).trans rfl; have hfz11_0 := blk_frozen Za.out 0; have hfz11_1 := blk_frozen Za.out 1) | ((with_reducible refine gate_callee (f := 74) rfl ?_); refine goesL_ (some 9) rfl rfl Try.func74 (by kernel_rfl) rfl #[.agg #[.slice A0_0 l0_0.length c0_0, .slice A0_1 l0_1.length c0_1], .int .i64 a1] rfl zq ?_; (with_reducible refine (impl_Disk_codes.calls _ _ l0_0 _ _ l0_1 a1 t605 _ ?side1 ?side2 ?side3 ?side4 A3.out).mono ?_); (case side1 => repeat (first | exact (Kd.C_below Zg.out HB.out) | (with_reducible refine Kd.C_alloc ?_ _) | (with_reducible refine Kd.C_drewN ?_ _) | (with_reducible refine Kd.C_drew ?_))); (case side2 => exact Zh.out); (case side3 => repeat (first | exact (Kd.C_below Zi.out HB.out) | (with_reducible refine Kd.C_alloc ?_ _) | (with_reducible refine Kd.C_drewN ?_ _) | (with_reducible refine Kd.C_drew ?_))); (case side4 => exact Zj.out); rintro e w12 ⟨rfl, hb⟩; refine ⟨_, rfl, ?_⟩; have n0_ := zm (blk_below (g := gb603) (o := .cells #[.slice A0_0 l0_0.length c0_0, .slice A0_1 l0_1.length c0_1] 48 (0, 0)) (zg_2 Za.out) hb); have n1_ := zm (blk_below (g := gb604) (o := .cells #[.slice none 0 0, .slice none 0 0] 48 (0, 0)) (zg_2 Zb.out) hb); have n2_ := zm (below_step (zg_3 HB.out Zc.out Zd.out) hb); clear Za; clear Zb; clear HB; have Za := n0_; have Zb := n1_; have HB := n2_; clear n0_ n1_ n2_; (try clear hb); (try clear hb2); (try clear hk); (try clear hi); have hcz13_0 : w12.cell? ⟨gb603, 0, none⟩ = some (.slice A0_0 l0_0.length c0_0) := (blk_cell Za.out 0).trans rfl; have hcz13_1 : w12.cell? ⟨gb603, 1, none⟩ = some (.slice A0_1 l0_1.length c0_1) := (blk_cell Za.out 1).trans rfl; have hfz13_0 := blk_frozen Za.out 0; have hfz13_1 := blk_frozen Za.out 1) | ((with_reducible refine gate_callee (f := 75) rfl ?_); refine goesL_ (some 16) rfl rfl Try.func75 (by kernel_rfl) rfl #[.agg #[.slice A0_0 l0_0.length c0_0, .slice A0_1 l0_1.length c0_1], .int .i64 a1] rfl zq ?_; (with_reducible refine (impl_Disk_pending.calls k _ _ l0_0 _ _ l0_1 a1 t606 _ ?side1 ?side2 ?side3 ?side4 A5.out).mono ?_); (case side1 => repeat (first | exact (Kd.C_below Zg.out HB.out) | (with_reducible refine Kd.C_alloc ?_ _) | (with_reducible refine Kd.C_drewN ?_ _) | (with_reducible refine Kd.C_drew ?_))); (case side2 => exact Zh.out); (case side3 => repeat (first | exact (Kd.C_below Zi.out HB.out) | (with_reducible refine Kd.C_alloc ?_ _) | (with_reducible refine Kd.C_drewN ?_ _) | (with_reducible refine Kd.C_drew ?_))); (case side4 => exact Zj.out); rintro e w14 ⟨rfl, hb⟩; refine ⟨_, rfl, ?_⟩; have n0_ := zm (blk_below (g := gb603) (o := .cells #[.slice A0_0 l0_0.length c0_0, .slice A0_1 l0_1.length c0_1] 48 (0, 0)) (zg_2 Za.out) hb); have n1_ := zm (blk_below (g := gb604) (o := .cells #[.slice none 0 0, .slice none 0 0] 48 (0, 0)) (zg_2 Zb.out) hb); have n2_ := zm (below_step (zg_3 HB.out Zc.out Zd.out) hb); clear Za; clear Zb; clear HB; have Za := n0_; have Zb := n1_; have HB := n2_; clear n0_ n1_ n2_; (try clear hb); (try clear hb2); (try clear hk); (try clear hi); have hcz15_0 : w14.cell? ⟨gb603, 0, none⟩ = some (.slice A0_0 l0_0.length c0_0) := (blk_cell Za.out 0).trans rfl; have hcz15_1 : w14.cell? ⟨gb603, 1, none⟩ = some (.slice A0_1 l0_1.length c0_1) := (blk_cell Za.out 1).trans rfl; have hfz15_0 := blk_frozen Za.out 0; have hfz15_1 := blk_frozen Za.out 1) | ((with_reducible refine gate_callee (f := 76) rfl ?_); refine goesL_ (some 19) rfl rfl Try.func76 (by kernel_rfl) rfl #[.agg #[.slice A0_0 l0_0.length c0_0, .slice A0_1 l0_1.length c0_1]] rfl zq ?_; (with_reducible refine (impl_Disk_copied.calls _ _ l0_0 _ _ l0_1 t607 t610 _ ?side1 ?side2 ?side3 ?side4 A7.out).mono ?_); (case side1 => repeat (first | exact (Kd.C_below Zg.out HB.out) | (with_reducible refine Kd.C_alloc ?_ _) | (with_reducible refine Kd.C_drewN ?_ _) | (with_reducible refine Kd.C_drew ?_))); (case side2 => exact Zh.out); (case side3 => repeat (first | exact (Kd.C_below Zi.out HB.out) | (with_reducible refine Kd.C_alloc ?_ _) | (with_reducible refine Kd.C_drewN ?_ _) | (with_reducible refine Kd.C_drew ?_))); (case side4 => exact Zj.out); rintro e w16 ⟨v608, v611, rfl, ho0, ho1, hb⟩; refine ⟨_, rfl, ?_⟩; have n0_ := zm (Kd.R_lower ho0 (below_size (zg_3 HB.out Zc.out Zd.out))); have n1_ := zm (Kd.R_lower ho1 (below_size (zg_3 HB.out Zc.out Zd.out))); have n2_ := zm (blk_below (g := gb603) (o := .cells #[.slice A0_0 l0_0.length c0_0, .slice A0_1 l0_1.length c0_1] 48 (0, 0)) (zg_2 Za.out) hb); have n3_ := zm (blk_below (g := gb604) (o := .cells #[.slice none 0 0, .slice none 0 0] 48 (0, 0)) (zg_2 Zb.out) hb); have n4_ := zm (below_step (zg_3 HB.out Zc.out Zd.out) hb); clear Za; clear Zb; clear HB; have Zm := n0_; have Zn := n1_; have Za := n2_; have Zb := n3_; have HB := n4_; clear n0_ n1_ n2_ n3_ n4_; (try clear hb); (try clear hb2); (try clear hk); (try clear hi); (try clear ho0); (try clear ho1); obtain ⟨Ao17, co17, eo17⟩ := Kd.R_slice Zm.out; subst eo17; have hcz18_0 : w16.cell? ⟨gb604, 0, none⟩ = some (.slice none 0 0) := (blk_cell Zb.out 0).trans rfl; have hcz18_1 : w16.cell? ⟨gb604, 1, none⟩ = some (.slice none 0 0) := (blk_cell Zb.out 1).trans rfl; have hfz18_0 := blk_frozen Zb.out 0; have hfz18_1 := blk_frozen Zb.out 1; obtain ⟨Ao19, co19, eo19⟩ := Kd.R_slice Zn.out; subst eo19))
   refine bodyPost_ret (results_ct rfl _ _ gb604 48 #[.slice Ao17 t607.length co17, .slice Ao19 t610.length co19] (0, 0) _ rfl (by (with_reducible repeat (first | refine blk_drewN ?_ _ | refine blk_drew ?_ | refine blk_alloc ?_ _)); refine blk_put (cs := #[.slice Ao17 t607.length co17, .slice none 0 0]) ?_ 1 _ rfl; (with_reducible repeat (first | refine blk_drewN ?_ _ | refine blk_drew ?_ | refine blk_alloc ?_ _)); refine blk_put (cs := #[.slice none 0 0, .slice none 0 0]) ?_ 0 _ rfl; (with_reducible repeat (first | refine blk_drewN ?_ _ | refine blk_drew ?_ | refine blk_alloc ?_ _)); exact Zb.out) Try.underlying48 rfl (by kernel_rfl)) rfl ?_
   exact ⟨_, _, by first | rfl | (simp [errW_none, errW_some] <;> rfl) | (simp [*, errW_none, errW_some] <;> rfl), by (with_reducible repeat (first | apply Kd.R_alloc | apply Kd.R_drewN | apply Kd.R_drew)); exact Kd.R_mono (Kd.R_far (p := ⟨gb604, 1, none⟩) (Kd.R_far (p := ⟨gb604, 0, none⟩) (Kd.R_types Zm.out Zb.out (by decide)) (fun _ hk => hk.2) (.slice Ao17 t607.length co17)) (fun _ hk => hk.2) (.slice Ao19 t610.length co19)) (fun _ hk => trivial), by (with_reducible repeat (first | apply Kd.R_alloc | apply Kd.R_drewN | apply Kd.R_drew)); exact Kd.R_mono (Kd.R_far (p := ⟨gb604, 1, none⟩) (Kd.R_far (p := ⟨gb604, 0, none⟩) (Kd.R_types Zn.out Zb.out (by decide)) (fun _ hk => hk.2) (.slice Ao17 t607.length co17)) (fun _ hk => hk.2) (.slice Ao19 t610.length co19)) (fun _ hk => trivial), zg_3 HB.out Zc.out Zd.out⟩
  ·rw [if_neg c6] at H
   have c6b0 : (t606 == 0) = false := beq_eq_false_iff_ne.mpr c6
   have c6b1 : (t606 != 0) = true := bne_iff_ne.mpr c6
   replace H := Option.bind_eq_some_iff.mp H
   obtain ⟨⟨t613, t616⟩, A200, H⟩ := H
   replace H : (some (t613, t616, 0)) = some (r1, r2, r3) := H
   have A20 := zm A200
   clear A200
   simp only [Option.some.injEq, Prod.mk.injEq] at H
   obtain ⟨rfl, rfl, rfl⟩ := H
   go_enter Try.func28, Try.ntmps28
   go_wp2_with (first | ((with_reducible refine gate_dst (N := 2) rfl ?_); refine box_event ?hg (N := 2) ?hd (cs := #[.slice A0_0 l0_0.length c0_0, .slice A0_1 l0_1.length c0_1]) (t := 48) ?hr ?_; (case hd => rfl); (case hg => rfl); (case hr => first | (go_simp; done) | (go_simp; rfl)); intro gb603 hg w21 hbox hb; have n0_ := zm (below_step (zg_0 HB.out) hb); have n1_ := zm (hbox); have n2_ := zm ((by rw [hg]; exact (below_size (zg_0 HB.out)) : w.heap.size ≤ gb603)); have n3_ := zm ((by rw [hg]; exact (below_size (zg_0 HB.out)) : w.heap.size ≤ gb603)); clear HB; have HB := n0_; have Za := n1_; have Zk := n2_; have Zc := n3_; clear n0_ n1_ n2_ n3_; clear hb hbox hg) | ((with_reducible refine gate_dst (N := 4) rfl ?_); refine box_event ?hg (N := 4) ?hd (cs := #[.slice none 0 0, .slice none 0 0]) (t := 48) ?hr ?_; (case hd => rfl); (case hg => rfl); (case hr => first | (go_simp; done) | (go_simp; rfl)); intro gb604 hg w22 hbox hb; have n0_ := zm (blk_below (g := gb603) (o := .cells #[.slice A0_0 l0_0.length c0_0, .slice A0_1 l0_1.length c0_1] 48 (0, 0)) (zg_2 Za.out) hb); have n1_ := zm (below_step (zg_1 HB.out Zc.out) hb); have n2_ := zm (hbox); have n3_ := zm ((by rw [hg]; exact (below_size (zg_1 HB.out Zc.out)) : w.heap.size ≤ gb604)); have n4_ := zm ((by rw [hg]; exact (below_size (zg_1 HB.out Zc.out)) : w.heap.size ≤ gb604)); have n5_ := zm ((by rw [hg]; exact Nat.ne_of_lt (blk_lt (g := gb603) (o := .cells #[.slice A0_0 l0_0.length c0_0, .slice A0_1 l0_1.length c0_1] 48 (0, 0)) (zg_2 Za.out)) : gb603 ≠ gb604)); have n6_ := zm ((by rw [hg]; exact Nat.ne_of_gt (blk_lt (g := gb603) (o := .cells #[.slice A0_0 l0_0.length c0_0, .slice A0_1 l0_1.length c0_1] 48 (0, 0)) (zg_2 Za.out)) : gb604 ≠ gb603)); clear Za; clear HB; have Za := n0_; have HB := n1_; have Zb := n2_; have Zl := n3_; have Zd := n4_; have Ze := n5_; have Zf := n6_; clear n0_ n1_ n2_ n3_ n4_ n5_ n6_; clear hb hbox hg; have hnb23 := Ze.out; have hnc23 := Zf.out; have hcz24_0 : w22.cell? ⟨gb603, 0, none⟩ = some (.slice A0_0 l0_0.length c0_0) := (blk_cell Za.out 0).trans rfl; have hcz24_1 : w22.cell? ⟨gb603, 1, none⟩ = some (.slice A0_1 l0_1.length c0_1) := (blk_cell Za.out 1).trans rfl; have hfz24_0 := blk_frozen Za.out 0; have hfz24_1 := blk_frozen Za.out 1) | ((with_reducible refine gate_callee (f := 74) rfl ?_); refine goesL_ (some 9) rfl rfl Try.func74 (by kernel_rfl) rfl #[.agg #[.slice A0_0 l0_0.length c0_0, .slice A0_1 l0_1.length c0_1], .int .i64 a1] rfl zq ?_; (with_reducible refine (impl_Disk_codes.calls _ _ l0_0 _ _ l0_1 a1 t605 _ ?side1 ?side2 ?side3 ?side4 A3.out).mono ?_); (case side1 => repeat (first | exact (Kd.C_below Zg.out HB.out) | (with_reducible refine Kd.C_alloc ?_ _) | (with_reducible refine Kd.C_drewN ?_ _) | (with_reducible refine Kd.C_drew ?_))); (case side2 => exact Zh.out); (case side3 => repeat (first | exact (Kd.C_below Zi.out HB.out) | (with_reducible refine Kd.C_alloc ?_ _) | (with_reducible refine Kd.C_drewN ?_ _) | (with_reducible refine Kd.C_drew ?_))); (case side4 => exact Zj.out); rintro e w25 ⟨rfl, hb⟩; refine ⟨_, rfl, ?_⟩; have n0_ := zm (blk_below (g := gb603) (o := .cells #[.slice A0_0 l0_0.length c0_0, .slice A0_1 l0_1.length c0_1] 48 (0, 0)) (zg_2 Za.out) hb); have n1_ := zm (blk_below (g := gb604) (o := .cells #[.slice none 0 0, .slice none 0 0] 48 (0, 0)) (zg_2 Zb.out) hb); have n2_ := zm (below_step (zg_3 HB.out Zc.out Zd.out) hb); clear Za; clear Zb; clear HB; have Za := n0_; have Zb := n1_; have HB := n2_; clear n0_ n1_ n2_; (try clear hb); (try clear hb2); (try clear hk); (try clear hi); have hcz26_0 : w25.cell? ⟨gb603, 0, none⟩ = some (.slice A0_0 l0_0.length c0_0) := (blk_cell Za.out 0).trans rfl; have hcz26_1 : w25.cell? ⟨gb603, 1, none⟩ = some (.slice A0_1 l0_1.length c0_1) := (blk_cell Za.out 1).trans rfl; have hfz26_0 := blk_frozen Za.out 0; have hfz26_1 := blk_frozen Za.out 1) | ((with_reducible refine gate_callee (f := 75) rfl ?_); refine goesL_ (some 16) rfl rfl Try.func75 (by kernel_rfl) rfl #[.agg #[.slice A0_0 l0_0.length c0_0, .slice A0_1 l0_1.length c0_1], .int .i64 a1] rfl zq ?_; (with_reducible refine (impl_Disk_pending.calls k _ _ l0_0 _ _ l0_1 a1 t606 _ ?side1 ?side2 ?side3 ?side4 A5.out).mono ?_); (case side1 => repeat (first | exact (Kd.C_below Zg.out HB.out) | (with_reducible refine Kd.C_alloc ?_ _) | (with_reducible refine Kd.C_drewN ?_ _) | (with_reducible refine Kd.C_drew ?_))); (case side2 => exact Zh.out); (case side3 => repeat (first | exact (Kd.C_below Zi.out HB.out) | (with_reducible refine Kd.C_alloc ?_ _) | (with_reducible refine Kd.C_drewN ?_ _) | (with_reducible refine Kd.C_drew ?_))); (case side4 => exact Zj.out); rintro e w27 ⟨rfl, hb⟩; refine ⟨_, rfl, ?_⟩; have n0_ := zm (blk_below (g := gb603) (o := .cells #[.slice A0_0 l0_0.length c0_0, .slice A0_1 l0_1.length c0_1] 48 (0, 0)) (zg_2 Za.out) hb); have n1_ := zm (blk_below (g := gb604) (o := .cells #[.slice none 0 0, .slice none 0 0] 48 (0, 0)) (zg_2 Zb.out) hb); have n2_ := zm (below_step (zg_3 HB.out Zc.out Zd.out) hb); clear Za; clear Zb; clear HB; have Za := n0_; have Zb := n1_; have HB := n2_; clear n0_ n1_ n2_; (try clear hb); (try clear hb2); (try clear hk); (try clear hi); have hcz28_0 : w27.cell? ⟨gb603, 0, none⟩ = some (.slice A0_0 l0_0.length c0_0) := (blk_cell Za.out 0).trans rfl; have hcz28_1 : w27.cell? ⟨gb603, 1, none⟩ = some (.slice A0_1 l0_1.length c0_1) := (blk_cell Za.out 1).trans rfl; have hfz28_0 := blk_frozen Za.out 0; have hfz28_1 := blk_frozen Za.out 1) | ((with_reducible refine gate_callee (f := 70) rfl ?_); refine goesL_ (some 22) rfl rfl Try.func70 (by kernel_rfl) rfl #[.agg #[.slice A0_0 l0_0.length c0_0, .slice A0_1 l0_1.length c0_1], .int .i64 a1, .int .i64 1, .bool false] rfl zq ?_; (with_reducible refine (impl_Disk_settle.calls _ _ l0_0 _ _ l0_1 a1 1 false t613 t616 _ ?side1 ?side2 ?side3 ?side4 A20.out).mono ?_); (case side1 => repeat (first | exact (Kd.C_below Zg.out HB.out) | (with_reducible refine Kd.C_alloc ?_ _) | (with_reducible refine Kd.C_drewN ?_ _) | (with_reducible refine Kd.C_drew ?_))); (case side2 => exact Zh.out); (case side3 => repeat (first | exact (Kd.C_below Zi.out HB.out) | (with_reducible refine Kd.C_alloc ?_ _) | (with_reducible refine Kd.C_drewN ?_ _) | (with_reducible refine Kd.C_drew ?_))); (case side4 => exact Zj.out); rintro e w29 ⟨v614, v617, rfl, ho0, ho1, hb⟩; refine ⟨_, rfl, ?_⟩; have n0_ := zm (Kd.R_lower ho0 (below_size (zg_3 HB.out Zc.out Zd.out))); have n1_ := zm (Kd.R_lower ho1 (below_size (zg_3 HB.out Zc.out Zd.out))); have n2_ := zm (blk_below (g := gb603) (o := .cells #[.slice A0_0 l0_0.length c0_0, .slice A0_1 l0_1.length c0_1] 48 (0, 0)) (zg_2 Za.out) hb); have n3_ := zm (blk_below (g := gb604) (o := .cells #[.slice none 0 0, .slice none 0 0] 48 (0, 0)) (zg_2 Zb.out) hb); have n4_ := zm (below_step (zg_3 HB.out Zc.out Zd.out) hb); clear Za; clear Zb; clear HB; have Zo := n0_; have Zp := n1_; have Za := n2_; have Zb := n3_; have HB := n4_; clear n0_ n1_ n2_ n3_ n4_; (try clear hb); (try clear hb2); (try clear hk); (try clear hi); (try clear ho0); (try clear ho1); obtain ⟨Ao30, co30, eo30⟩ := Kd.R_slice Zo.out; subst eo30; have hcz31_0 : w29.cell? ⟨gb604, 0, none⟩ = some (.slice none 0 0) := (blk_cell Zb.out 0).trans rfl; have hcz31_1 : w29.cell? ⟨gb604, 1, none⟩ = some (.slice none 0 0) := (blk_cell Zb.out 1).trans rfl; have hfz31_0 := blk_frozen Zb.out 0; have hfz31_1 := blk_frozen Zb.out 1; obtain ⟨Ao32, co32, eo32⟩ := Kd.R_slice Zp.out; subst eo32))
   refine bodyPost_ret (results_ct rfl _ _ gb604 48 #[.slice Ao30 t613.length co30, .slice Ao32 t616.length co32] (0, 0) _ rfl (by (with_reducible repeat (first | refine blk_drewN ?_ _ | refine blk_drew ?_ | refine blk_alloc ?_ _)); refine blk_put (cs := #[.slice Ao30 t613.length co30, .slice none 0 0]) ?_ 1 _ rfl; (with_reducible repeat (first | refine blk_drewN ?_ _ | refine blk_drew ?_ | refine blk_alloc ?_ _)); refine blk_put (cs := #[.slice none 0 0, .slice none 0 0]) ?_ 0 _ rfl; (with_reducible repeat (first | refine blk_drewN ?_ _ | refine blk_drew ?_ | refine blk_alloc ?_ _)); exact Zb.out) Try.underlying48 rfl (by kernel_rfl)) rfl ?_
   exact ⟨_, _, by first | rfl | (simp [errW_none, errW_some] <;> rfl) | (simp [*, errW_none, errW_some] <;> rfl), by (with_reducible repeat (first | apply Kd.R_alloc | apply Kd.R_drewN | apply Kd.R_drew)); exact Kd.R_mono (Kd.R_far (p := ⟨gb604, 1, none⟩) (Kd.R_far (p := ⟨gb604, 0, none⟩) (Kd.R_types Zo.out Zb.out (by decide)) (fun _ hk => hk.2) (.slice Ao30 t613.length co30)) (fun _ hk => hk.2) (.slice Ao32 t616.length co32)) (fun _ hk => trivial), by (with_reducible repeat (first | apply Kd.R_alloc | apply Kd.R_drewN | apply Kd.R_drew)); exact Kd.R_mono (Kd.R_far (p := ⟨gb604, 1, none⟩) (Kd.R_far (p := ⟨gb604, 0, none⟩) (Kd.R_types Zp.out Zb.out (by decide)) (fun _ hk => hk.2) (.slice Ao30 t613.length co30)) (fun _ hk => hk.2) (.slice Ao32 t616.length co32)) (fun _ hk => trivial), zg_3 HB.out Zc.out Zd.out⟩
 ·rw [if_neg c4] at H
  have c4b0 : (t605 == 0) = false := beq_eq_false_iff_ne.mpr c4
  have c4b1 : (t605 != 0) = true := bne_iff_ne.mpr c4
  simp only [Option.some.injEq, Prod.mk.injEq] at H
  obtain ⟨rfl, rfl, rfl⟩ := H
  go_enter Try.func28, Try.ntmps28
  go_wp2_with (first | ((with_reducible refine gate_dst (N := 2) rfl ?_); refine box_event ?hg (N := 2) ?hd (cs := #[.slice A0_0 l0_0.length c0_0, .slice A0_1 l0_1.length c0_1]) (t := 48) ?hr ?_; (case hd => rfl); (case hg => rfl); (case hr => first | (go_simp; done) | (go_simp; rfl)); intro gb603 hg w33 hbox hb; have n0_ := zm (below_step (zg_0 HB.out) hb); have n1_ := zm (hbox); have n2_ := zm ((by rw [hg]; exact (below_size (zg_0 HB.out)) : w.heap.size ≤ gb603)); have n3_ := zm ((by rw [hg]; exact (below_size (zg_0 HB.out)) : w.heap.size ≤ gb603)); clear HB; have HB := n0_; have Za := n1_; have Zk := n2_; have Zc := n3_; clear n0_ n1_ n2_ n3_; clear hb hbox hg) | ((with_reducible refine gate_dst (N := 4) rfl ?_); refine box_event ?hg (N := 4) ?hd (cs := #[.slice none 0 0, .slice none 0 0]) (t := 48) ?hr ?_; (case hd => rfl); (case hg => rfl); (case hr => first | (go_simp; done) | (go_simp; rfl)); intro gb604 hg w34 hbox hb; have n0_ := zm (blk_below (g := gb603) (o := .cells #[.slice A0_0 l0_0.length c0_0, .slice A0_1 l0_1.length c0_1] 48 (0, 0)) (zg_2 Za.out) hb); have n1_ := zm (below_step (zg_1 HB.out Zc.out) hb); have n2_ := zm (hbox); have n3_ := zm ((by rw [hg]; exact (below_size (zg_1 HB.out Zc.out)) : w.heap.size ≤ gb604)); have n4_ := zm ((by rw [hg]; exact (below_size (zg_1 HB.out Zc.out)) : w.heap.size ≤ gb604)); have n5_ := zm ((by rw [hg]; exact Nat.ne_of_lt (blk_lt (g := gb603) (o := .cells #[.slice A0_0 l0_0.length c0_0, .slice A0_1 l0_1.length c0_1] 48 (0, 0)) (zg_2 Za.out)) : gb603 ≠ gb604)); have n6_ := zm ((by rw [hg]; exact Nat.ne_of_gt (blk_lt (g := gb603) (o := .cells #[.slice A0_0 l0_0.length c0_0, .slice A0_1 l0_1.length c0_1] 48 (0, 0)) (zg_2 Za.out)) : gb604 ≠ gb603)); clear Za; clear HB; have Za := n0_; have HB := n1_; have Zb := n2_; have Zl := n3_; have Zd := n4_; have Ze := n5_; have Zf := n6_; clear n0_ n1_ n2_ n3_ n4_ n5_ n6_; clear hb hbox hg; have hnb35 := Ze.out; have hnc35 := Zf.out; have hcz36_0 : w34.cell? ⟨gb603, 0, none⟩ = some (.slice A0_0 l0_0.length c0_0) := (blk_cell Za.out 0).trans rfl; have hcz36_1 : w34.cell? ⟨gb603, 1, none⟩ = some (.slice A0_1 l0_1.length c0_1) := (blk_cell Za.out 1).trans rfl; have hfz36_0 := blk_frozen Za.out 0; have hfz36_1 := blk_frozen Za.out 1) | ((with_reducible refine gate_callee (f := 74) rfl ?_); refine goesL_ (some 9) rfl rfl Try.func74 (by kernel_rfl) rfl #[.agg #[.slice A0_0 l0_0.length c0_0, .slice A0_1 l0_1.length c0_1], .int .i64 a1] rfl zq ?_; (with_reducible refine (impl_Disk_codes.calls _ _ l0_0 _ _ l0_1 a1 t605 _ ?side1 ?side2 ?side3 ?side4 A3.out).mono ?_); (case side1 => repeat (first | exact (Kd.C_below Zg.out HB.out) | (with_reducible refine Kd.C_alloc ?_ _) | (with_reducible refine Kd.C_drewN ?_ _) | (with_reducible refine Kd.C_drew ?_))); (case side2 => exact Zh.out); (case side3 => repeat (first | exact (Kd.C_below Zi.out HB.out) | (with_reducible refine Kd.C_alloc ?_ _) | (with_reducible refine Kd.C_drewN ?_ _) | (with_reducible refine Kd.C_drew ?_))); (case side4 => exact Zj.out); rintro e w37 ⟨rfl, hb⟩; refine ⟨_, rfl, ?_⟩; have n0_ := zm (blk_below (g := gb603) (o := .cells #[.slice A0_0 l0_0.length c0_0, .slice A0_1 l0_1.length c0_1] 48 (0, 0)) (zg_2 Za.out) hb); have n1_ := zm (blk_below (g := gb604) (o := .cells #[.slice none 0 0, .slice none 0 0] 48 (0, 0)) (zg_2 Zb.out) hb); have n2_ := zm (below_step (zg_3 HB.out Zc.out Zd.out) hb); clear Za; clear Zb; clear HB; have Za := n0_; have Zb := n1_; have HB := n2_; clear n0_ n1_ n2_; (try clear hb); (try clear hb2); (try clear hk); (try clear hi); have hcz38_0 : w37.cell? ⟨gb604, 0, none⟩ = some (.slice none 0 0) := (blk_cell Zb.out 0).trans rfl; have hcz38_1 : w37.cell? ⟨gb604, 1, none⟩ = some (.slice none 0 0) := (blk_cell Zb.out 1).trans rfl; have hfz38_0 := blk_frozen Zb.out 0; have hfz38_1 := blk_frozen Zb.out 1))
  refine bodyPost_ret (results_ct rfl _ _ gb604 48 #[.slice none 0 0, .slice none 0 0] (0, 0) _ rfl (by (with_reducible repeat (first | refine blk_drewN ?_ _ | refine blk_drew ?_ | refine blk_alloc ?_ _)); refine blk_put (cs := #[.slice none 0 0, .slice none 0 0]) ?_ 1 _ rfl; (with_reducible repeat (first | refine blk_drewN ?_ _ | refine blk_drew ?_ | refine blk_alloc ?_ _)); refine blk_put (cs := #[.slice none 0 0, .slice none 0 0]) ?_ 0 _ rfl; (with_reducible repeat (first | refine blk_drewN ?_ _ | refine blk_drew ?_ | refine blk_alloc ?_ _)); exact Zb.out) Try.underlying48 rfl (by kernel_rfl)) rfl ?_
  exact ⟨_, _, by first | rfl | (simp [errW_none, errW_some] <;> rfl) | (simp [*, errW_none, errW_some] <;> rfl), by first | exact Kd.R_nil _ _ _ _ _ | exact Kd.N_nil _ _ _ _ _ | exact Kd.V_nil _ _ _ _ _ | exact Kd.Q_nil _ _ _ _ _ | exact Kd.S_nil _ _ _ _ _, by first | exact Kd.R_nil _ _ _ _ _ | exact Kd.N_nil _ _ _ _ _ | exact Kd.V_nil _ _ _ _ _ | exact Kd.Q_nil _ _ _ _ _ | exact Kd.S_nil _ _ _ _ _, zg_3 HB.out Zc.out Zd.out⟩
end
/-! ### spec_LoseHost: function 26 -/
def spec_LoseHost.f (k : Nat) (l0_0 : List ByteArray) (l0_1 : List (S92)) (a1 : Int) (a2 : Int) : Option (List ByteArray × (List (S92)) × Int) := (spec_l01Ask.f k l0_0 l0_1 a1 0).bind fun t582 => (if t582 = 0 then ((spec_l01In.f a2 0 200).bind fun t583 => (if t583 = true then ((spec_l01Land.f k l0_0 l0_1 a1 a2 true).bind fun bt584 => (some (bt584.1, bt584.2, 0))) else (some (([] : List ByteArray), ([] : List (S92)), 4)))) else (some (([] : List ByteArray), ([] : List (S92)), t582)))
theorem spec_LoseHost.mono : ∀ a0 a1 a2 a3 k, LeO (spec_LoseHost.f k a0 a1 a2 a3) (spec_LoseHost.f (k + 1) a0 a1 a2 a3) := by
  intro a0 a1 a2 a3 k
  unfold spec_LoseHost.f
  repeat' first
      | (with_reducible exact spec_l01Ask.mono _ _ _ _ _)
      | (with_reducible exact spec_l01Land.mono _ _ _ _ _ _)
      | (with_reducible exact LeO.refl _)
      | (with_reducible exact LeO.none _)
      | (with_reducible refine LeO.ite ?_ ?_)
      | (with_reducible refine LeO.bind ?_ (fun _ => ?_))
      | exact spec_l01Ask.mono _ _ _ _ _
      | exact spec_l01Land.mono _ _ _ _ _ _
      | exact LeO.none _
      | refine LeO.ite ?_ ?_
      | refine LeO.bind ?_ (fun _ => ?_)
set_option maxHeartbeats 8000000 in
set_option maxRecDepth 100000 in
theorem spec_LoseHost.calls (k : Nat) (A0_0 : Option Addr) (c0_0 : Nat) (l0_0 : List ByteArray) (A0_1 : Option Addr) (c0_1 : Nat) (l0_1 : List (S92)) (a1 : Int) (a2 : Int) (r1 : List ByteArray) (r2 : List (S92)) (r3 : Int) (w : World) (hr0_0 : Kd.C Kd.string w A0_0 l0_0.length l0_0) (hc0_0 : l0_0.length ≤ c0_0) (hr0_1 : Kd.C k92 w A0_1 l0_1.length l0_1) (hc0_1 : l0_1.length ≤ c0_1) (h : spec_LoseHost.f k l0_0 l0_1 a1 a2 = some (r1, r2, r3)) :
    Calls Try.prog 26 #[.agg #[.slice A0_0 l0_0.length c0_0, .slice A0_1 l0_1.length c0_1], .int .i64 a1, .int .i64 a2] w fun e w' => ∃ v0_ v1_ : Value, e = .returned (.tuple #[.agg #[v0_, v1_], .int .i64 r3]) ∧ Kd.R Kd.string 9 w' w.heap.size (fun _ => True) v0_ r1 ∧ Kd.R k92 92 w' w.heap.size (fun _ => True) v1_ r2 ∧ Below w.heap.size w w' := by
 have hu48 := Try.underlying48
 have Zg := zm hr0_0
 have Zh := zm hc0_0
 clear hr0_0 hc0_0
 have Zi := zm hr0_1
 have Zj := zm hc0_1
 clear hr0_1 hc0_1
 have HB := zm (Below.refl w.heap.size w)
 have H : ((spec_l01Ask.f k l0_0 l0_1 a1 0).bind fun t582 => (if t582 = 0 then ((spec_l01In.f a2 0 200).bind fun t583 => (if t583 = true then ((spec_l01Land.f k l0_0 l0_1 a1 a2 true).bind fun bt584 => (some (bt584.1, bt584.2, 0))) else (some (([] : List ByteArray), ([] : List (S92)), 4)))) else (some (([] : List ByteArray), ([] : List (S92)), t582)))) = some (r1, r2, r3) := h
 clear h
 replace H := Option.bind_eq_some_iff.mp H
 obtain ⟨t582, A40, H⟩ := H
 replace H : (if t582 = 0 then ((spec_l01In.f a2 0 200).bind fun t583 => (if t583 = true then ((spec_l01Land.f k l0_0 l0_1 a1 a2 true).bind fun bt584 => (some (bt584.1, bt584.2, 0))) else (some (([] : List ByteArray), ([] : List (S92)), 4)))) else (some (([] : List ByteArray), ([] : List (S92)), t582))) = some (r1, r2, r3) := H
 have A4 := zm A40
 clear A40
 by_cases c5 : t582 = 0
 ·rw [if_pos c5] at H
  have c5b0 : (t582 == 0) = true := beq_iff_eq.mpr c5
  have c5b1 : (t582 != 0) = false := bne_eq_false_iff_eq.mpr c5
  clear c5
  replace H := Option.bind_eq_some_iff.mp H
  obtain ⟨t583, A60, H⟩ := H
  replace H : (if t583 = true then ((spec_l01Land.f k l0_0 l0_1 a1 a2 true).bind fun bt584 => (some (bt584.1, bt584.2, 0))) else (some (([] : List ByteArray), ([] : List (S92)), 4))) = some (r1, r2, r3) := H
  have A6 := zm A60
  clear A60
  by_cases c7 : t583 = true
  ·subst c7
   have H1 : ((spec_l01Land.f k l0_0 l0_1 a1 a2 true).bind fun bt584 => (some (bt584.1, bt584.2, 0))) = some (r1, r2, r3) := by rw [if_pos rfl] at H; exact H
   clear H
   have H := H1
   clear H1
   replace H := Option.bind_eq_some_iff.mp H
   obtain ⟨⟨t584, t587⟩, A80, H⟩ := H
   replace H : (some (t584, t587, 0)) = some (r1, r2, r3) := H
   have A8 := zm A80
   clear A80
   simp only [Option.some.injEq, Prod.mk.injEq] at H
   obtain ⟨rfl, rfl, rfl⟩ := H
   go_enter Try.func26, Try.ntmps26
   go_wp2_with (first | ((with_reducible refine gate_dst (N := 3) rfl ?_); refine box_event ?hg (N := 3) ?hd (cs := #[.slice A0_0 l0_0.length c0_0, .slice A0_1 l0_1.length c0_1]) (t := 48) ?hr ?_; (case hd => rfl); (case hg => rfl); (case hr => first | (go_simp; done) | (go_simp; rfl)); intro gb580 hg w9 hbox hb; have n0_ := zm (below_step (zg_0 HB.out) hb); have n1_ := zm (hbox); have n2_ := zm ((by rw [hg]; exact (below_size (zg_0 HB.out)) : w.heap.size ≤ gb580)); have n3_ := zm ((by rw [hg]; exact (below_size (zg_0 HB.out)) : w.heap.size ≤ gb580)); clear HB; have HB := n0_; have Za := n1_; have Zk := n2_; have Zc := n3_; clear n0_ n1_ n2_ n3_; clear hb hbox hg) | ((with_reducible refine gate_dst (N := 6) rfl ?_); refine box_event ?hg (N := 6) ?hd (cs := #[.slice none 0 0, .slice none 0 0]) (t := 48) ?hr ?_; (case hd => rfl); (case hg => rfl); (case hr => first | (go_simp; done) | (go_simp; rfl)); intro gb581 hg w10 hbox hb; have n0_ := zm (blk_below (g := gb580) (o := .cells #[.slice A0_0 l0_0.length c0_0, .slice A0_1 l0_1.length c0_1] 48 (0, 0)) (zg_2 Za.out) hb); have n1_ := zm (below_step (zg_1 HB.out Zc.out) hb); have n2_ := zm (hbox); have n3_ := zm ((by rw [hg]; exact (below_size (zg_1 HB.out Zc.out)) : w.heap.size ≤ gb581)); have n4_ := zm ((by rw [hg]; exact (below_size (zg_1 HB.out Zc.out)) : w.heap.size ≤ gb581)); have n5_ := zm ((by rw [hg]; exact Nat.ne_of_lt (blk_lt (g := gb580) (o := .cells #[.slice A0_0 l0_0.length c0_0, .slice A0_1 l0_1.length c0_1] 48 (0, 0)) (zg_2 Za.out)) : gb580 ≠ gb581)); have n6_ := zm ((by rw [hg]; exact Nat.ne_of_gt (blk_lt (g := gb580) (o := .cells #[.slice A0_0 l0_0.length c0_0, .slice A0_1 l0_1.length c0_1] 48 (0, 0)) (zg_2 Za.out)) : gb581 ≠ gb580)); clear Za; clear HB; have Za := n0_; have HB := n1_; have Zb := n2_; have Zl := n3_; have Zd := n4_; have Ze := n5_; have Zf := n6_; clear n0_ n1_ n2_ n3_ n4_ n5_ n6_; clear hb hbox hg; have hnb11 := Ze.out; have hnc11 := Zf.out; have hcz12_0 : w10.cell? ⟨gb580, 0, none⟩ = some (.slice A0_0 l0_0.length c0_0) := (blk_cell Za.out 0).trans rfl; have hcz12_1 : w10.cell? ⟨gb580, 1, none⟩ = some (.slice A0_1 l0_1.length c0_1) := (blk_cell Za.out 1).trans rfl; have hfz12_0 := blk_frozen Za.out 0; have hfz12_1 := blk_frozen Za.out 1) | ((with_reducible refine gate_callee (f := 71) rfl ?_); refine goesL_ (some 11) rfl rfl Try.func71 (by kernel_rfl) rfl #[.agg #[.slice A0_0 l0_0.length c0_0, .slice A0_1 l0_1.length c0_1], .int .i64 a1, .int .i64 0] rfl zq ?_; (with_reducible refine (spec_l01Ask.calls k _ _ l0_0 _ _ l0_1 a1 0 t582 _ ?side1 ?side2 ?side3 ?side4 A4.out).mono ?_); (case side1 => repeat (first | exact (Kd.C_below Zg.out HB.out) | (with_reducible refine Kd.C_alloc ?_ _) | (with_reducible refine Kd.C_drewN ?_ _) | (with_reducible refine Kd.C_drew ?_))); (case side2 => exact Zh.out); (case side3 => repeat (first | exact (Kd.C_below Zi.out HB.out) | (with_reducible refine Kd.C_alloc ?_ _) | (with_reducible refine Kd.C_drewN ?_ _) | (with_reducible refine Kd.C_drew ?_))); (case side4 => exact Zj.out); rintro e w13 ⟨rfl, hb⟩; refine ⟨_, rfl, ?_⟩; have n0_ := zm (blk_below (g := gb580) (o := .cells #[.slice A0_0 l0_0.length c0_0, .slice A0_1 l0_1.length c0_1] 48 (0, 0)) (zg_2 Za.out) hb); have n1_ := zm (blk_below (g := gb581) (o := .cells #[.slice none 0 0, .slice none 0 0] 48 (0, 0)) (zg_2 Zb.out) hb); have n2_ := zm (below_step (zg_3 HB.out Zc.out Zd.out) hb); clear Za; clear Zb; clear HB; have Za := n0_; have Zb := n1_; have HB := n2_; clear n0_ n1_ n2_; (try clear hb); (try clear hb2); (try clear hk); (try clear hi)) | ((with_reducible refine gate_callee (f := 72) rfl ?_); refine goesL_ (some 17) rfl rfl Try.func72 (by kernel_rfl) rfl #[.int .i64 a2, .int .i64 0, .int .i64 200] rfl zq ?_; (with_reducible refine (spec_l01In.calls a2 0 200 true _ A6.out).mono ?_); rintro e w' ⟨rfl, ⟨nd, rfl⟩⟩; refine ⟨_, rfl, ?_⟩; (try (rw [drewN_self w13]; generalize hq_ : World.drewN w13 _ = w13; have n0_ : Aside0 (w13.heap[gb580]? = some (.cells #[.slice A0_0 l0_0.length c0_0, .slice A0_1 l0_1.length c0_1] 48 (0, 0))) := ⟨by rw [← hq_]; exact (zg_2 Za.out)⟩; have n1_ : Aside0 (w13.heap[gb581]? = some (.cells #[.slice none 0 0, .slice none 0 0] 48 (0, 0))) := ⟨by rw [← hq_]; exact (zg_2 Zb.out)⟩; have n2_ : Aside0 (Below w.heap.size w w13) := ⟨by rw [← hq_]; exact (zg_3 HB.out Zc.out Zd.out)⟩; clear Za Zb HB hq_; have Za := n0_; have Zb := n1_; have HB := n2_; clear n0_ n1_ n2_)); have hcz14_0 : w13.cell? ⟨gb580, 0, none⟩ = some (.slice A0_0 l0_0.length c0_0) := (blk_cell Za.out 0).trans rfl; have hcz14_1 : w13.cell? ⟨gb580, 1, none⟩ = some (.slice A0_1 l0_1.length c0_1) := (blk_cell Za.out 1).trans rfl; have hfz14_0 := blk_frozen Za.out 0; have hfz14_1 := blk_frozen Za.out 1) | ((with_reducible refine gate_callee (f := 73) rfl ?_); refine goesL_ (some 23) rfl rfl Try.func73 (by kernel_rfl) rfl #[.agg #[.slice A0_0 l0_0.length c0_0, .slice A0_1 l0_1.length c0_1], .int .i64 a1, .int .i64 a2, .bool true] rfl zq ?_; (with_reducible refine (spec_l01Land.calls k _ _ l0_0 _ _ l0_1 a1 a2 true t584 t587 _ ?side1 ?side2 ?side3 ?side4 A8.out).mono ?_); (case side1 => repeat (first | exact (Kd.C_below Zg.out HB.out) | (with_reducible refine Kd.C_alloc ?_ _) | (with_reducible refine Kd.C_drewN ?_ _) | (with_reducible refine Kd.C_drew ?_))); (case side2 => exact Zh.out); (case side3 => repeat (first | exact (Kd.C_below Zi.out HB.out) | (with_reducible refine Kd.C_alloc ?_ _) | (with_reducible refine Kd.C_drewN ?_ _) | (with_reducible refine Kd.C_drew ?_))); (case side4 => exact Zj.out); rintro e w15 ⟨v585, v588, rfl, ho0, ho1, hb⟩; refine ⟨_, rfl, ?_⟩; have n0_ := zm (Kd.R_lower ho0 (below_size (zg_3 HB.out Zc.out Zd.out))); have n1_ := zm (Kd.R_lower ho1 (below_size (zg_3 HB.out Zc.out Zd.out))); have n2_ := zm (blk_below (g := gb580) (o := .cells #[.slice A0_0 l0_0.length c0_0, .slice A0_1 l0_1.length c0_1] 48 (0, 0)) (zg_2 Za.out) hb); have n3_ := zm (blk_below (g := gb581) (o := .cells #[.slice none 0 0, .slice none 0 0] 48 (0, 0)) (zg_2 Zb.out) hb); have n4_ := zm (below_step (zg_3 HB.out Zc.out Zd.out) hb); clear Za; clear Zb; clear HB; have Zm := n0_; have Zn := n1_; have Za := n2_; have Zb := n3_; have HB := n4_; clear n0_ n1_ n2_ n3_ n4_; (try clear hb); (try clear hb2); (try clear hk); (try clear hi); (try clear ho0); (try clear ho1); obtain ⟨Ao16, co16, eo16⟩ := Kd.R_slice Zm.out; subst eo16; have hcz17_0 : w15.cell? ⟨gb581, 0, none⟩ = some (.slice none 0 0) := (blk_cell Zb.out 0).trans rfl; have hcz17_1 : w15.cell? ⟨gb581, 1, none⟩ = some (.slice none 0 0) := (blk_cell Zb.out 1).trans rfl; have hfz17_0 := blk_frozen Zb.out 0; have hfz17_1 := blk_frozen Zb.out 1; obtain ⟨Ao18, co18, eo18⟩ := Kd.R_slice Zn.out; subst eo18))
   refine bodyPost_ret (results_ct rfl _ _ gb581 48 #[.slice Ao16 t584.length co16, .slice Ao18 t587.length co18] (0, 0) _ rfl (by (with_reducible repeat (first | refine blk_drewN ?_ _ | refine blk_drew ?_ | refine blk_alloc ?_ _)); refine blk_put (cs := #[.slice Ao16 t584.length co16, .slice none 0 0]) ?_ 1 _ rfl; (with_reducible repeat (first | refine blk_drewN ?_ _ | refine blk_drew ?_ | refine blk_alloc ?_ _)); refine blk_put (cs := #[.slice none 0 0, .slice none 0 0]) ?_ 0 _ rfl; (with_reducible repeat (first | refine blk_drewN ?_ _ | refine blk_drew ?_ | refine blk_alloc ?_ _)); exact Zb.out) Try.underlying48 rfl (by kernel_rfl)) rfl ?_
   exact ⟨_, _, by first | rfl | (simp [errW_none, errW_some] <;> rfl) | (simp [*, errW_none, errW_some] <;> rfl), by (with_reducible repeat (first | apply Kd.R_alloc | apply Kd.R_drewN | apply Kd.R_drew)); exact Kd.R_mono (Kd.R_far (p := ⟨gb581, 1, none⟩) (Kd.R_far (p := ⟨gb581, 0, none⟩) (Kd.R_types Zm.out Zb.out (by decide)) (fun _ hk => hk.2) (.slice Ao16 t584.length co16)) (fun _ hk => hk.2) (.slice Ao18 t587.length co18)) (fun _ hk => trivial), by (with_reducible repeat (first | apply Kd.R_alloc | apply Kd.R_drewN | apply Kd.R_drew)); exact Kd.R_mono (Kd.R_far (p := ⟨gb581, 1, none⟩) (Kd.R_far (p := ⟨gb581, 0, none⟩) (Kd.R_types Zn.out Zb.out (by decide)) (fun _ hk => hk.2) (.slice Ao16 t584.length co16)) (fun _ hk => hk.2) (.slice Ao18 t587.length co18)) (fun _ hk => trivial), zg_3 HB.out Zc.out Zd.out⟩
  ·replace c7 := Bool.eq_false_iff.mpr c7
   subst c7
   have H1 : (some (([] : List ByteArray), ([] : List (S92)), 4)) = some (r1, r2, r3) := by rw [if_neg (show ¬ (false = true) by decide)] at H; exact H
   clear H
   have H := H1
   clear H1
   simp only [Option.some.injEq, Prod.mk.injEq] at H
   obtain ⟨rfl, rfl, rfl⟩ := H
   go_enter Try.func26, Try.ntmps26
   go_wp2_with (first | ((with_reducible refine gate_dst (N := 3) rfl ?_); refine box_event ?hg (N := 3) ?hd (cs := #[.slice A0_0 l0_0.length c0_0, .slice A0_1 l0_1.length c0_1]) (t := 48) ?hr ?_; (case hd => rfl); (case hg => rfl); (case hr => first | (go_simp; done) | (go_simp; rfl)); intro gb580 hg w19 hbox hb; have n0_ := zm (below_step (zg_0 HB.out) hb); have n1_ := zm (hbox); have n2_ := zm ((by rw [hg]; exact (below_size (zg_0 HB.out)) : w.heap.size ≤ gb580)); have n3_ := zm ((by rw [hg]; exact (below_size (zg_0 HB.out)) : w.heap.size ≤ gb580)); clear HB; have HB := n0_; have Za := n1_; have Zk := n2_; have Zc := n3_; clear n0_ n1_ n2_ n3_; clear hb hbox hg) | ((with_reducible refine gate_dst (N := 6) rfl ?_); refine box_event ?hg (N := 6) ?hd (cs := #[.slice none 0 0, .slice none 0 0]) (t := 48) ?hr ?_; (case hd => rfl); (case hg => rfl); (case hr => first | (go_simp; done) | (go_simp; rfl)); intro gb581 hg w20 hbox hb; have n0_ := zm (blk_below (g := gb580) (o := .cells #[.slice A0_0 l0_0.length c0_0, .slice A0_1 l0_1.length c0_1] 48 (0, 0)) (zg_2 Za.out) hb); have n1_ := zm (below_step (zg_1 HB.out Zc.out) hb); have n2_ := zm (hbox); have n3_ := zm ((by rw [hg]; exact (below_size (zg_1 HB.out Zc.out)) : w.heap.size ≤ gb581)); have n4_ := zm ((by rw [hg]; exact (below_size (zg_1 HB.out Zc.out)) : w.heap.size ≤ gb581)); have n5_ := zm ((by rw [hg]; exact Nat.ne_of_lt (blk_lt (g := gb580) (o := .cells #[.slice A0_0 l0_0.length c0_0, .slice A0_1 l0_1.length c0_1] 48 (0, 0)) (zg_2 Za.out)) : gb580 ≠ gb581)); have n6_ := zm ((by rw [hg]; exact Nat.ne_of_gt (blk_lt (g := gb580) (o := .cells #[.slice A0_0 l0_0.length c0_0, .slice A0_1 l0_1.length c0_1] 48 (0, 0)) (zg_2 Za.out)) : gb581 ≠ gb580)); clear Za; clear HB; have Za := n0_; have HB := n1_; have Zb := n2_; have Zl := n3_; have Zd := n4_; have Ze := n5_; have Zf := n6_; clear n0_ n1_ n2_ n3_ n4_ n5_ n6_; clear hb hbox hg; have hnb21 := Ze.out; have hnc21 := Zf.out; have hcz22_0 : w20.cell? ⟨gb580, 0, none⟩ = some (.slice A0_0 l0_0.length c0_0) := (blk_cell Za.out 0).trans rfl; have hcz22_1 : w20.cell? ⟨gb580, 1, none⟩ = some (.slice A0_1 l0_1.length c0_1) := (blk_cell Za.out 1).trans rfl; have hfz22_0 := blk_frozen Za.out 0; have hfz22_1 := blk_frozen Za.out 1) | ((with_reducible refine gate_callee (f := 71) rfl ?_); refine goesL_ (some 11) rfl rfl Try.func71 (by kernel_rfl) rfl #[.agg #[.slice A0_0 l0_0.length c0_0, .slice A0_1 l0_1.length c0_1], .int .i64 a1, .int .i64 0] rfl zq ?_; (with_reducible refine (spec_l01Ask.calls k _ _ l0_0 _ _ l0_1 a1 0 t582 _ ?side1 ?side2 ?side3 ?side4 A4.out).mono ?_); (case side1 => repeat (first | exact (Kd.C_below Zg.out HB.out) | (with_reducible refine Kd.C_alloc ?_ _) | (with_reducible refine Kd.C_drewN ?_ _) | (with_reducible refine Kd.C_drew ?_))); (case side2 => exact Zh.out); (case side3 => repeat (first | exact (Kd.C_below Zi.out HB.out) | (with_reducible refine Kd.C_alloc ?_ _) | (with_reducible refine Kd.C_drewN ?_ _) | (with_reducible refine Kd.C_drew ?_))); (case side4 => exact Zj.out); rintro e w23 ⟨rfl, hb⟩; refine ⟨_, rfl, ?_⟩; have n0_ := zm (blk_below (g := gb580) (o := .cells #[.slice A0_0 l0_0.length c0_0, .slice A0_1 l0_1.length c0_1] 48 (0, 0)) (zg_2 Za.out) hb); have n1_ := zm (blk_below (g := gb581) (o := .cells #[.slice none 0 0, .slice none 0 0] 48 (0, 0)) (zg_2 Zb.out) hb); have n2_ := zm (below_step (zg_3 HB.out Zc.out Zd.out) hb); clear Za; clear Zb; clear HB; have Za := n0_; have Zb := n1_; have HB := n2_; clear n0_ n1_ n2_; (try clear hb); (try clear hb2); (try clear hk); (try clear hi)) | ((with_reducible refine gate_callee (f := 72) rfl ?_); refine goesL_ (some 17) rfl rfl Try.func72 (by kernel_rfl) rfl #[.int .i64 a2, .int .i64 0, .int .i64 200] rfl zq ?_; (with_reducible refine (spec_l01In.calls a2 0 200 false _ A6.out).mono ?_); rintro e w' ⟨rfl, ⟨nd, rfl⟩⟩; refine ⟨_, rfl, ?_⟩; (try (rw [drewN_self w23]; generalize hq_ : World.drewN w23 _ = w23; have n0_ : Aside0 (w23.heap[gb580]? = some (.cells #[.slice A0_0 l0_0.length c0_0, .slice A0_1 l0_1.length c0_1] 48 (0, 0))) := ⟨by rw [← hq_]; exact (zg_2 Za.out)⟩; have n1_ : Aside0 (w23.heap[gb581]? = some (.cells #[.slice none 0 0, .slice none 0 0] 48 (0, 0))) := ⟨by rw [← hq_]; exact (zg_2 Zb.out)⟩; have n2_ : Aside0 (Below w.heap.size w w23) := ⟨by rw [← hq_]; exact (zg_3 HB.out Zc.out Zd.out)⟩; clear Za Zb HB hq_; have Za := n0_; have Zb := n1_; have HB := n2_; clear n0_ n1_ n2_)); have hcz24_0 : w23.cell? ⟨gb581, 0, none⟩ = some (.slice none 0 0) := (blk_cell Zb.out 0).trans rfl; have hcz24_1 : w23.cell? ⟨gb581, 1, none⟩ = some (.slice none 0 0) := (blk_cell Zb.out 1).trans rfl; have hfz24_0 := blk_frozen Zb.out 0; have hfz24_1 := blk_frozen Zb.out 1))
   refine bodyPost_ret (results_ct rfl _ _ gb581 48 #[.slice none 0 0, .slice none 0 0] (0, 0) _ rfl (by (with_reducible repeat (first | refine blk_drewN ?_ _ | refine blk_drew ?_ | refine blk_alloc ?_ _)); refine blk_put (cs := #[.slice none 0 0, .slice none 0 0]) ?_ 1 _ rfl; (with_reducible repeat (first | refine blk_drewN ?_ _ | refine blk_drew ?_ | refine blk_alloc ?_ _)); refine blk_put (cs := #[.slice none 0 0, .slice none 0 0]) ?_ 0 _ rfl; (with_reducible repeat (first | refine blk_drewN ?_ _ | refine blk_drew ?_ | refine blk_alloc ?_ _)); exact Zb.out) Try.underlying48 rfl (by kernel_rfl)) rfl ?_
   exact ⟨_, _, by first | rfl | (simp [errW_none, errW_some] <;> rfl) | (simp [*, errW_none, errW_some] <;> rfl), by first | exact Kd.R_nil _ _ _ _ _ | exact Kd.N_nil _ _ _ _ _ | exact Kd.V_nil _ _ _ _ _ | exact Kd.Q_nil _ _ _ _ _ | exact Kd.S_nil _ _ _ _ _, by first | exact Kd.R_nil _ _ _ _ _ | exact Kd.N_nil _ _ _ _ _ | exact Kd.V_nil _ _ _ _ _ | exact Kd.Q_nil _ _ _ _ _ | exact Kd.S_nil _ _ _ _ _, zg_3 HB.out Zc.out Zd.out⟩
 ·rw [if_neg c5] at H
  have c5b0 : (t582 == 0) = false := beq_eq_false_iff_ne.mpr c5
  have c5b1 : (t582 != 0) = true := bne_iff_ne.mpr c5
  simp only [Option.some.injEq, Prod.mk.injEq] at H
  obtain ⟨rfl, rfl, rfl⟩ := H
  go_enter Try.func26, Try.ntmps26
  go_wp2_with (first | ((with_reducible refine gate_dst (N := 3) rfl ?_); refine box_event ?hg (N := 3) ?hd (cs := #[.slice A0_0 l0_0.length c0_0, .slice A0_1 l0_1.length c0_1]) (t := 48) ?hr ?_; (case hd => rfl); (case hg => rfl); (case hr => first | (go_simp; done) | (go_simp; rfl)); intro gb580 hg w25 hbox hb; have n0_ := zm (below_step (zg_0 HB.out) hb); have n1_ := zm (hbox); have n2_ := zm ((by rw [hg]; exact (below_size (zg_0 HB.out)) : w.heap.size ≤ gb580)); have n3_ := zm ((by rw [hg]; exact (below_size (zg_0 HB.out)) : w.heap.size ≤ gb580)); clear HB; have HB := n0_; have Za := n1_; have Zk := n2_; have Zc := n3_; clear n0_ n1_ n2_ n3_; clear hb hbox hg) | ((with_reducible refine gate_dst (N := 6) rfl ?_); refine box_event ?hg (N := 6) ?hd (cs := #[.slice none 0 0, .slice none 0 0]) (t := 48) ?hr ?_; (case hd => rfl); (case hg => rfl); (case hr => first | (go_simp; done) | (go_simp; rfl)); intro gb581 hg w26 hbox hb; have n0_ := zm (blk_below (g := gb580) (o := .cells #[.slice A0_0 l0_0.length c0_0, .slice A0_1 l0_1.length c0_1] 48 (0, 0)) (zg_2 Za.out) hb); have n1_ := zm (below_step (zg_1 HB.out Zc.out) hb); have n2_ := zm (hbox); have n3_ := zm ((by rw [hg]; exact (below_size (zg_1 HB.out Zc.out)) : w.heap.size ≤ gb581)); have n4_ := zm ((by rw [hg]; exact (below_size (zg_1 HB.out Zc.out)) : w.heap.size ≤ gb581)); have n5_ := zm ((by rw [hg]; exact Nat.ne_of_lt (blk_lt (g := gb580) (o := .cells #[.slice A0_0 l0_0.length c0_0, .slice A0_1 l0_1.length c0_1] 48 (0, 0)) (zg_2 Za.out)) : gb580 ≠ gb581)); have n6_ := zm ((by rw [hg]; exact Nat.ne_of_gt (blk_lt (g := gb580) (o := .cells #[.slice A0_0 l0_0.length c0_0, .slice A0_1 l0_1.length c0_1] 48 (0, 0)) (zg_2 Za.out)) : gb581 ≠ gb580)); clear Za; clear HB; have Za := n0_; have HB := n1_; have Zb := n2_; have Zl := n3_; have Zd := n4_; have Ze := n5_; have Zf := n6_; clear n0_ n1_ n2_ n3_ n4_ n5_ n6_; clear hb hbox hg; have hnb27 := Ze.out; have hnc27 := Zf.out; have hcz28_0 : w26.cell? ⟨gb580, 0, none⟩ = some (.slice A0_0 l0_0.length c0_0) := (blk_cell Za.out 0).trans rfl; have hcz28_1 : w26.cell? ⟨gb580, 1, none⟩ = some (.slice A0_1 l0_1.length c0_1) := (blk_cell Za.out 1).trans rfl; have hfz28_0 := blk_frozen Za.out 0; have hfz28_1 := blk_frozen Za.out 1) | ((with_reducible refine gate_callee (f := 71) rfl ?_); refine goesL_ (some 11) rfl rfl Try.func71 (by kernel_rfl) rfl #[.agg #[.slice A0_0 l0_0.length c0_0, .slice A0_1 l0_1.length c0_1], .int .i64 a1, .int .i64 0] rfl zq ?_; (with_reducible refine (spec_l01Ask.calls k _ _ l0_0 _ _ l0_1 a1 0 t582 _ ?side1 ?side2 ?side3 ?side4 A4.out).mono ?_); (case side1 => repeat (first | exact (Kd.C_below Zg.out HB.out) | (with_reducible refine Kd.C_alloc ?_ _) | (with_reducible refine Kd.C_drewN ?_ _) | (with_reducible refine Kd.C_drew ?_))); (case side2 => exact Zh.out); (case side3 => repeat (first | exact (Kd.C_below Zi.out HB.out) | (with_reducible refine Kd.C_alloc ?_ _) | (with_reducible refine Kd.C_drewN ?_ _) | (with_reducible refine Kd.C_drew ?_))); (case side4 => exact Zj.out); rintro e w29 ⟨rfl, hb⟩; refine ⟨_, rfl, ?_⟩; have n0_ := zm (blk_below (g := gb580) (o := .cells #[.slice A0_0 l0_0.length c0_0, .slice A0_1 l0_1.length c0_1] 48 (0, 0)) (zg_2 Za.out) hb); have n1_ := zm (blk_below (g := gb581) (o := .cells #[.slice none 0 0, .slice none 0 0] 48 (0, 0)) (zg_2 Zb.out) hb); have n2_ := zm (below_step (zg_3 HB.out Zc.out Zd.out) hb); clear Za; clear Zb; clear HB; have Za := n0_; have Zb := n1_; have HB := n2_; clear n0_ n1_ n2_; (try clear hb); (try clear hb2); (try clear hk); (try clear hi); have hcz30_0 : w29.cell? ⟨gb581, 0, none⟩ = some (.slice none 0 0) := (blk_cell Zb.out 0).trans rfl; have hcz30_1 : w29.cell? ⟨gb581, 1, none⟩ = some (.slice none 0 0) := (blk_cell Zb.out 1).trans rfl; have hfz30_0 := blk_frozen Zb.out 0; have hfz30_1 := blk_frozen Zb.out 1))
  refine bodyPost_ret (results_ct rfl _ _ gb581 48 #[.slice none 0 0, .slice none 0 0] (0, 0) _ rfl (by (with_reducible repeat (first | refine blk_drewN ?_ _ | refine blk_drew ?_ | refine blk_alloc ?_ _)); refine blk_put (cs := #[.slice none 0 0, .slice none 0 0]) ?_ 1 _ rfl; (with_reducible repeat (first | refine blk_drewN ?_ _ | refine blk_drew ?_ | refine blk_alloc ?_ _)); refine blk_put (cs := #[.slice none 0 0, .slice none 0 0]) ?_ 0 _ rfl; (with_reducible repeat (first | refine blk_drewN ?_ _ | refine blk_drew ?_ | refine blk_alloc ?_ _)); exact Zb.out) Try.underlying48 rfl (by kernel_rfl)) rfl ?_
  exact ⟨_, _, by first | rfl | (simp [errW_none, errW_some] <;> rfl) | (simp [*, errW_none, errW_some] <;> rfl), by first | exact Kd.R_nil _ _ _ _ _ | exact Kd.N_nil _ _ _ _ _ | exact Kd.V_nil _ _ _ _ _ | exact Kd.Q_nil _ _ _ _ _ | exact Kd.S_nil _ _ _ _ _, by first | exact Kd.R_nil _ _ _ _ _ | exact Kd.N_nil _ _ _ _ _ | exact Kd.V_nil _ _ _ _ _ | exact Kd.Q_nil _ _ _ _ _ | exact Kd.S_nil _ _ _ _ _, zg_3 HB.out Zc.out Zd.out⟩
/-! ### Land -/
def landP (host : Int) (lose : Bool) : List S92 → Nat → List S92
  | [], _ => []
  | x :: r, 0 => if x.f0 = host then (if lose = true then landP host lose r 0 else x :: landP host lose r 0) else x :: landP host lose r 0
  | x :: r, k + 1 => if x.f0 = host then landP host lose r k else x :: landP host lose r (k + 1)
def landS (host : Int) : List S92 → Nat → List ByteArray → List ByteArray
  | [], _, s => s
  | x :: r, 0, s => landS host r 0 s
  | x :: r, k + 1, s => if x.f0 = host then landS host r k (s.set x.f1.toNat x.f2) else landS host r (k + 1) s
theorem go_land (host : Int) (lose : Bool) : ∀ (l : List S92) (k : Nat) (s : List ByteArray), k ≤ 100000 → (∀ x ∈ l, 0 ≤ x.f1 ∧ x.f1 < (s.length : Int)) → ∃ kf, impl_Disk_settle_go host lose l (k : Int) s = some (landP host lose l k, kf, landS host l k s) := by
  intro l
  induction l with
  | nil => intro k s _ _; cases k <;> exact ⟨_, rfl⟩
  | cons x r ih =>
    intro k s hk h
    have hx := h x (by simp)
    have hr : ∀ y ∈ r, 0 ≤ y.f1 ∧ y.f1 < (s.length : Int) := fun y hy => h y (by simp [hy])
    by_cases c1 : x.f0 = host
    · cases k with
      | zero =>
        obtain ⟨kf, e⟩ := ih 0 s (by omega) hr
        refine ⟨kf, ?_⟩
        simp only [impl_Disk_settle_go, impl_Disk_settle_stp, landP, landS, if_pos c1]
        rw [if_neg (by omega), Option.bind_some, e, Option.bind_some]
      | succ k =>
        obtain ⟨kf, e⟩ := ih k (s.set x.f1.toNat x.f2) (by omega) (by intro y hy; rw [List.length_set]; exact hr y hy)
        refine ⟨kf, ?_⟩
        simp only [impl_Disk_settle_go, impl_Disk_settle_stp, landP, landS, if_pos c1]
        rw [if_pos (by omega), if_pos hx.1, if_pos hx.2, Option.bind_some]
        simp only
        rw [w64 (n := ((k + 1 : Nat) : Int) - 1) (by omega) (by omega), show ((k + 1 : Nat) : Int) - 1 = (k : Int) by omega, e, Option.bind_some]
        rfl
    · obtain ⟨kf, e⟩ := ih k s hk hr
      refine ⟨kf, ?_⟩
      cases k <;> simp only [impl_Disk_settle_go, impl_Disk_settle_stp, landP, landS, if_neg c1] <;> rw [Option.bind_some] <;> simp only [e, Option.bind_some] <;> rfl
theorem landP_sub (host : Int) (lose : Bool) : ∀ (l : List S92) (k : Nat), (∀ x ∈ landP host lose l k, x ∈ l) ∧ (landP host lose l k).length ≤ l.length := by
  intro l
  induction l with
  | nil => intro k; cases k <;> exact ⟨by simp [landP], by simp [landP]⟩
  | cons x r ih =>
    intro k
    cases k with
    | zero =>
      obtain ⟨h1, h2⟩ := ih 0
      simp only [landP]
      split
      · split
        · exact ⟨fun y hy => by simp [h1 y hy], by simp only [List.length_cons]; omega⟩
        · refine ⟨fun y hy => ?_, by simp only [List.length_cons]; omega⟩
          rcases List.mem_cons.1 hy with rfl | hy
          · simp
          · simp [h1 y hy]
      · refine ⟨fun y hy => ?_, by simp only [List.length_cons]; omega⟩
        rcases List.mem_cons.1 hy with rfl | hy
        · simp
        · simp [h1 y hy]
    | succ k =>
      simp only [landP]
      split
      · obtain ⟨h1, h2⟩ := ih k
        exact ⟨fun y hy => by simp [h1 y hy], by simp only [List.length_cons]; omega⟩
      · obtain ⟨h1, h2⟩ := ih (k + 1)
        refine ⟨fun y hy => ?_, by simp only [List.length_cons]; omega⟩
        rcases List.mem_cons.1 hy with rfl | hy
        · simp
        · simp [h1 y hy]
theorem landS_ok (host : Int) : ∀ (l : List S92) (k : Nat) (s : List ByteArray), (∀ x ∈ l, x.f2.size ≤ 80) → (∀ x ∈ s, x.size ≤ 80) → (landS host l k s).length = s.length ∧ ∀ x ∈ landS host l k s, x.size ≤ 80 := by
  intro l
  induction l with
  | nil => intro k s _ hs; cases k <;> exact ⟨rfl, hs⟩
  | cons x r ih =>
    intro k s hl hs
    have hr : ∀ y ∈ r, y.f2.size ≤ 80 := fun y hy => hl y (by simp [hy])
    cases k with
    | zero => exact ih 0 s hr hs
    | succ k =>
      simp only [landS]
      split
      · obtain ⟨h1, h2⟩ := ih k (s.set x.f1.toNat x.f2) hr (by
          intro y hy
          rcases List.mem_or_eq_of_mem_set hy with hy | rfl
          · exact hs y hy
          · exact hl x (by simp))
        exact ⟨by rw [h1, List.length_set], h2⟩
      · exact ih (k + 1) s hr hs
theorem disk_of {d : List ByteArray} {l : List S92} (h1 : d.length = 64) (h2 : l.length ≤ 200) (h3 : ∀ x ∈ d, x.size ≤ 80) (h4 : ∀ x ∈ l, ioOK x = true) : diskOK d l = true := by
  unfold diskOK
  rw [decide_eq_true (show (d.length : Int) = 64 by omega), decide_eq_true (show (l.length : Int) ≤ 200 by omega), List.all_eq_true.2 (fun x hx => by unfold secOK; exact decide_eq_true (by have := h3 x hx; omega)), List.all_eq_true.2 h4]; rfl
theorem disk_in {d : List ByteArray} {l : List S92} (h : diskOK d l = true) : d.length = 64 ∧ l.length ≤ 200 ∧ (∀ x ∈ d, x.size ≤ 80) ∧ (∀ x ∈ l, ioOK x = true) := by
  unfold diskOK at h
  simp only [Bool.and_eq_true, decide_eq_true_eq, List.all_eq_true] at h
  obtain ⟨h1, h2, h3, h4⟩ := h
  exact ⟨by omega, by omega, fun x hx => by have := h3 x hx; unfold secOK at this; have := of_decide_eq_true this; omega, h4⟩
theorem io_in {x : S92} (h : ioOK x = true) : 0 ≤ x.f0 ∧ x.f0 ≤ 3 ∧ 0 ≤ x.f1 ∧ x.f1 ≤ 63 ∧ x.f2.size ≤ 80 := by
  unfold ioOK at h
  simp only [Bool.and_eq_true, decide_eq_true_eq] at h
  have h1 := inB_iff.1 h.1
  have h2 := inB_iff.1 h.2.1
  exact ⟨h1.1, h1.2, h2.1, h2.2, by omega⟩
theorem io_of {x : S92} (h0 : 0 ≤ x.f0) (h1 : x.f0 ≤ 3) (h2 : 0 ≤ x.f1) (h3 : x.f1 ≤ 63) (h4 : x.f2.size ≤ 80) : ioOK x = true := by
  unfold ioOK
  rw [inB_iff.2 ⟨h0, h1⟩, inB_iff.2 ⟨h2, h3⟩, decide_eq_true (by omega)]; rfl
theorem land_ok {d : List ByteArray} {l : List S92} (h : diskOK d l = true) (host : Int) (k : Nat) (lose : Bool) : diskOK (landS host l k d) (landP host lose l k) = true := by
  obtain ⟨h1, h2, h3, h4⟩ := disk_in h
  obtain ⟨p1, p2⟩ := landP_sub host lose l k
  obtain ⟨s1, s2⟩ := landS_ok host l k d (fun x hx => (io_in (h4 x hx)).2.2.2.2) h3
  exact disk_of (by omega) (by omega) s2 (fun x hx => h4 x (p1 x hx))
theorem settle_land {d : List ByteArray} {l : List S92} (h : diskOK d l = true) (host : Int) (k : Nat) (hk : k ≤ 100000) (lose : Bool) : impl_Disk_settle.f d l host (k : Int) lose = some (landS host l k d, landP host lose l k) ∧ Ev (fun n => spec_l01Land.f n d l host (k : Int) lose) (landS host l k d, landP host lose l k) := by
  obtain ⟨h1, h2, h3, h4⟩ := disk_in h
  obtain ⟨q, _, _, q3, q4⟩ := settled h host (k : Int) lose
  obtain ⟨kf, e⟩ := go_land host lose l k d hk (fun x hx => by have := io_in (h4 x hx); omega)
  have he : impl_Disk_settle.f d l host (k : Int) lose = some (landS host l k d, landP host lose l k) := by
    unfold impl_Disk_settle.f
    rw [copied_eq d l (by omega) (by omega), Option.bind_some]
    show (if l.length ≤ 1000000000 then _ else _) = _
    rw [if_pos (by omega)]
    show (impl_Disk_settle_go host lose l (k : Int) d).bind _ = _
    rw [e]; rfl
  rw [he] at q3
  rw [← Option.some.inj q3] at q4
  exact ⟨he, q4⟩
theorem codes0 {d : List ByteArray} {l : List S92} (h : diskOK d l = true) {a : Int} (h0 : 0 ≤ a) (h1 : a ≤ 3) : impl_Disk_codes.f d l a = some 0 := by
  rw [codes_eq, h, inB_iff.2 ⟨h0, h1⟩]; rfl
theorem ask0 {d : List ByteArray} {l : List S92} (h : diskOK d l = true) {a : Int} (h0 : 0 ≤ a) (h1 : a ≤ 3) : Ev (fun k => spec_l01Ask.f k d l a 0) 0 := by
  obtain ⟨e1, e2, _, _⟩ := disk_in h
  have := ask_ev d l a (by omega) (by omega)
  rw [h, inB_iff.2 ⟨h0, h1⟩] at this
  exact this
theorem lose_eq {d : List ByteArray} {l : List S92} (h : diskOK d l = true) {a : Int} (h0 : 0 ≤ a) (h1 : a ≤ 3) (k : Nat) (hk : k ≤ 200) : impl_LoseHost.f d l a (k : Int) = some (landS a l k d, landP a true l k, 0) := by
  unfold impl_LoseHost.f
  simp only [impl_DiskOK_eq, impl_isHost.f, within_eq, Option.bind_some, h, inB_iff.2 ⟨h0, h1⟩, inB_iff.2 ⟨show (0 : Int) ≤ (k : Int) by omega, show (k : Int) ≤ 200 by omega⟩]
  rw [show impl_first.f [Any.b (!true), Any.n 1, Any.b (!true), Any.n 4, Any.b (!true), Any.n 4] = some 0 from rfl, Option.bind_some, if_pos rfl, (settle_land h a k (by omega) true).1]; rfl
theorem lose_spec {d : List ByteArray} {l : List S92} (h : diskOK d l = true) {a : Int} (h0 : 0 ≤ a) (h1 : a ≤ 3) (k : Nat) (hk : k ≤ 200) : Ev (fun n => spec_LoseHost.f n d l a (k : Int)) (landS a l k d, landP a true l k, 0) := by
  unfold spec_LoseHost.f
  simp only [l01In_eq, Option.bind_some]
  rw [inB_iff.2 ⟨show (0 : Int) ≤ (k : Int) by omega, show (k : Int) ≤ 200 by omega⟩]
  exact ev_bind (ask0 h h0 h1) (ev_pos rfl (ev_pos rfl (ev_bind (settle_land h a k (by omega) true).2 (ev_some _))))
theorem flush_eq {d : List ByteArray} {l : List S92} (h : diskOK d l = true) {a : Int} (h0 : 0 ≤ a) (h1 : a ≤ 3) : impl_Flush.f d l a = some (landS a l 200 d, landP a false l 200, 0) := by
  unfold impl_Flush.f
  rw [codes0 h h0 h1, Option.bind_some, if_pos rfl, show ((200 : Int)) = ((200 : Nat) : Int) from rfl, (settle_land h a 200 (by omega) false).1]; rfl
theorem flush_spec {d : List ByteArray} {l : List S92} (h : diskOK d l = true) {a : Int} (h0 : 0 ≤ a) (h1 : a ≤ 3) : Ev (fun n => spec_Flush.f n d l a) (landS a l 200 d, landP a false l 200, 0) := by
  unfold spec_Flush.f
  exact ev_bind (ask0 h h0 h1) (ev_pos rfl (ev_bind (ev_bind (settle_land h a 200 (by omega) false).2 (ev_some _)) (ev_some _)))
theorem pending_ev {d : List ByteArray} {l : List S92} (h : diskOK d l = true) {a : Int} (h0 : 0 ≤ a) (h1 : a ≤ 3) : Ev (fun n => impl_PendingOf.f n d l a) (((countOf a l : Nat) : Int), 0) := by
  obtain ⟨e1, e2, _, _⟩ := disk_in h
  unfold impl_PendingOf.f
  simp only [codes0 h h0 h1, Option.bind_some]
  exact ev_pos trivial (ev_bind (impl_count_ev d l a (by omega)) (ev_some _))
theorem landOne_ev {d : List ByteArray} {l : List S92} (h : diskOK d l = true) {a : Int} (h0 : 0 ≤ a) (h1 : a ≤ 3) (hc : 0 < countOf a l) : Ev (fun n => impl_LandOne.f n d l a) (landS a l 1 d, landP a false l 1, 0) := by
  obtain ⟨e1, e2, _, _⟩ := disk_in h
  unfold impl_LandOne.f
  simp only [codes0 h h0 h1, Option.bind_some]
  refine ev_pos trivial (ev_bind (impl_count_ev d l a (by omega)) (ev_neg (by omega) ?_))
  have := (settle_land h a 1 (by omega) false).1
  rw [show (((1 : Nat) : Int)) = 1 from rfl] at this
  rw [this]; exact ev_some _
/- of lists -/
theorem landP0 (a : Int) : ∀ l : List S92, landP a false l 0 = l := by
  intro l
  induction l with
  | nil => rfl
  | cons x r ih => simp only [landP, ih, Bool.false_eq_true, if_false, ite_self]
theorem landS0 (a : Int) : ∀ (l : List S92) (s : List ByteArray), landS a l 0 s = s := by
  intro l
  induction l with
  | nil => intro s; rfl
  | cons x r ih => intro s; exact ih s
theorem count_cons (a : Int) (x : S92) (r : List S92) : countOf a (x :: r) = (if x.f0 = a then countOf a r + 1 else countOf a r) := by
  unfold countOf
  by_cases c : x.f0 = a
  · rw [if_pos c, List.filter_cons_of_pos (by simp [c])]; rfl
  · rw [if_neg c, List.filter_cons_of_neg (by simp [c])]
theorem landP_true (a : Int) : ∀ (l : List S92) (k : Nat), landP a true l k = l.filter (fun x => !(x.f0 == a)) := by
  intro l
  induction l with
  | nil => intro k; cases k <;> rfl
  | cons x r ih =>
    intro k
    by_cases c : x.f0 = a
    · rw [List.filter_cons_of_neg (by simp [c])]
      cases k with
      | zero => simp only [landP, if_pos c, if_true]; exact ih 0
      | succ k => simp only [landP, if_pos c]; exact ih k
    · rw [List.filter_cons_of_pos (by simp [c])]
      cases k with
      | zero => simp only [landP, if_neg c, ih 0]
      | succ k => simp only [landP, if_neg c, ih (k + 1)]
theorem landP_filter (a : Int) : ∀ (l : List S92) (k : Nat), (landP a false l k).filter (fun x => !(x.f0 == a)) = l.filter (fun x => !(x.f0 == a)) := by
  intro l
  induction l with
  | nil => intro k; cases k <;> rfl
  | cons x r ih =>
    intro k
    by_cases c : x.f0 = a
    · rw [List.filter_cons_of_neg (l := r) (by simp [c])]
      cases k with
      | zero => simp only [landP, if_pos c, Bool.false_eq_true, if_false]; rw [List.filter_cons_of_neg (by simp [c])]; exact ih 0
      | succ k => simp only [landP, if_pos c]; exact ih k
    · rw [List.filter_cons_of_pos (l := r) (by simp [c])]
      cases k with
      | zero => simp only [landP, if_neg c]; rw [List.filter_cons_of_pos (by simp [c]), ih 0]
      | succ k => simp only [landP, if_neg c]; rw [List.filter_cons_of_pos (by simp [c]), ih (k + 1)]
theorem count_landP (a : Int) : ∀ (l : List S92) (k : Nat), countOf a (landP a false l k) = countOf a l - k := by
  intro l
  induction l with
  | nil => intro k; cases k <;> simp [landP, countOf]
  | cons x r ih =>
    intro k
    by_cases c : x.f0 = a
    · cases k with
      | zero => rw [landP0]; omega
      | succ k => simp only [landP, if_pos c]; rw [ih k, count_cons, if_pos c]; omega
    · cases k with
      | zero => rw [landP0]; omega
      | succ k => simp only [landP, if_neg c]; rw [count_cons, count_cons, if_neg c, if_neg c, ih (k + 1)]
theorem landP_step (a : Int) : ∀ (l : List S92) (j : Nat), landP a false (landP a false l j) 1 = landP a false l (j + 1) := by
  intro l
  induction l with
  | nil => intro j; cases j <;> rfl
  | cons x r ih =>
    intro j
    by_cases c : x.f0 = a
    · cases j with
      | zero => rw [landP0]
      | succ j => simp only [landP, if_pos c]; exact ih j
    · cases j with
      | zero => rw [landP0]
      | succ j => simp only [landP, if_neg c]; rw [ih (j + 1)]
theorem landS_step (a : Int) : ∀ (l : List S92) (j : Nat) (s : List ByteArray), landS a (landP a false l j) 1 (landS a l j s) = landS a l (j + 1) s := by
  intro l
  induction l with
  | nil => intro j s; cases j <;> rfl
  | cons x r ih =>
    intro j s
    by_cases c : x.f0 = a
    · cases j with
      | zero => rw [landP0, landS0]
      | succ j => simp only [landP, landS, if_pos c]; exact ih j _
    · cases j with
      | zero => rw [landP0, landS0]
      | succ j => simp only [landP, landS, if_neg c]; exact ih (j + 1) s
theorem landS_more (a : Int) : ∀ (l : List S92) (k j : Nat) (s : List ByteArray), countOf a l ≤ k → countOf a l ≤ j → landS a l k s = landS a l j s := by
  intro l
  induction l with
  | nil => intro k j s _ _; cases k <;> cases j <;> rfl
  | cons x r ih =>
    intro k j s hk hj
    rw [count_cons] at hk hj
    by_cases c : x.f0 = a
    · rw [if_pos c] at hk hj
      cases k with
      | zero => omega
      | succ k =>
        cases j with
        | zero => omega
        | succ j => simp only [landS, if_pos c]; exact ih k j _ (by omega) (by omega)
    · rw [if_neg c] at hk hj
      cases k with
      | zero =>
        cases j with
        | zero => rfl
        | succ j => simp only [landS, if_neg c]; exact ih 0 (j + 1) s hk hj
      | succ k =>
        cases j with
        | zero => simp only [landS, if_neg c]; exact ih (k + 1) 0 s hk hj
        | succ j => simp only [landS, if_neg c]; exact ih (k + 1) (j + 1) s hk hj
theorem landS_snoc (a : Int) (x : S92) (hx : x.f0 = a) : ∀ (l : List S92) (k : Nat) (s : List ByteArray), countOf a l < k → landS a (l ++ [x]) k s = (landS a l k s).set x.f1.toNat x.f2 := by
  intro l
  induction l with
  | nil =>
    intro k s hk
    cases k with
    | zero => simp [countOf] at hk
    | succ k => simp only [List.nil_append, landS, if_pos hx]
  | cons y r ih =>
    intro k s hk
    rw [count_cons] at hk
    rw [List.cons_append]
    cases k with
    | zero => omega
    | succ k =>
      by_cases c : y.f0 = a
      · rw [if_pos c] at hk
        simp only [landS, if_pos c]; exact ih k _ (by omega)
      · rw [if_neg c] at hk
        simp only [landS, if_neg c]; exact ih (k + 1) s hk
theorem count_filter (a : Int) (l : List S92) : countOf a (l.filter (fun x => !(x.f0 == a))) = 0 := by
  unfold countOf
  rw [List.filter_filter, List.length_eq_zero_iff, List.filter_eq_nil_iff]
  intro x _
  cases (x.f0 == a) <;> simp
theorem filter_count (a : Int) : ∀ l : List S92, (l.filter (fun x => !(x.f0 == a))).length + countOf a l = l.length := by
  intro l
  induction l with
  | nil => rfl
  | cons x r ih =>
    rw [count_cons]
    by_cases c : x.f0 = a
    · rw [if_pos c, List.filter_cons_of_neg (by simp [c]), List.length_cons]; omega
    · rw [if_neg c, List.filter_cons_of_pos (by simp [c]), List.length_cons, List.length_cons]; omega
theorem sameTexts_ev (l : List ByteArray) (hl : l.length ≤ 1000000000) : Ev (fun k => laws_sameTexts.f k l l) true := by
  unfold laws_sameTexts.f
  refine ev_pos rfl ?_
  refine ev_loop (g := fun k i => laws_sameTexts.l0 k l l (i : Int)) l.length ?_ ?_ l.length 0 (by omega) (by omega)
  · refine Ev.step (f := fun _ => some true) (fun k => ?_) (ev_some _)
    simp only [laws_sameTexts.l0]; rw [if_neg (by omega)]
  · intro i hi
    refine ⟨1, fun k => ⟨?_, by omega⟩⟩
    simp only [laws_sameTexts.l0]
    rw [if_pos (by omega), if_pos (by omega), if_pos (by omega), if_pos trivial, wnext i (by omega)]
theorem sameDisk_ev (d : List ByteArray) (l : List S92) (hd : d.length ≤ 1000000000) (hl : l.length ≤ 1000000000) : Ev (fun k => laws_sameDisk.f k d l d l) true := by
  unfold laws_sameDisk.f
  refine ev_bind (sameTexts_ev d hd) (ev_pos rfl (Ev.succ ?_))
  simp only [laws_sameDisk.j0]
  refine ev_neg (by simp) ?_
  refine ev_loop (g := fun k i => laws_sameDisk.l0 k (i : Int) d l d l) l.length ?_ ?_ l.length 0 (by omega) (by omega)
  · refine Ev.step (f := fun _ => some true) (fun k => ?_) (ev_some _)
    simp only [laws_sameDisk.l0]; rw [if_neg (by omega)]
  · intro i hi
    refine ⟨1, fun k => ⟨?_, by omega⟩⟩
    simp only [laws_sameDisk.l0]
    rw [if_pos (by omega), if_pos (by omega), if_pos (by omega), if_neg (by simp), wnext i (by omega)]
/-! ### DrawD -/
theorem disk_fill (l : List Int) (h : ∀ x ∈ l, 0 ≤ x ∧ x ≤ 255) : ∀ (i : Nat) (at_ seed : Int) (n : Nat) (D : List ByteArray) (P : List S92), P.length + i ≤ 100 → n + 100 * i ≤ 1000000000 → srcOK at_ seed n → diskOK D P = true →
    ∃ D' P' a s, Ev (fun k => spec_l00Src_disk.l0 k (i : Int) l at_ seed D P) (D', P', a, s) ∧ diskOK D' P' = true ∧ P'.length ≤ P.length + i := by
  intro i
  induction i with
  | zero =>
    intro at_ seed n D P hp hn hs hok
    obtain ⟨e1, e2, _, _⟩ := disk_in hok
    refine ⟨D, P, at_, seed, Ev.step (f := fun _ => some (D, P, at_, seed)) (fun k => ?_) (ev_some _), hok, by omega⟩
    simp only [spec_l00Src_disk.l0]; rw [if_neg (by omega), own_eq D P (by omega) (by omega)]; rfl
  | succ i ih =>
    intro at_ seed n D P hp hn hs hok
    obtain ⟨e1, e2, e3, e4⟩ := disk_in hok
    obtain ⟨p, a1, s1, f1, p0, -, p1, o1⟩ := next_ok l h at_ seed n hs (by omega) 5
    obtain ⟨q, a2, s2, f2, q0, -, q1, o2⟩ := next_ok l h a1 s1 _ o1 (by omega) 4
    have q1' := q1 (by omega)
    by_cases c : p = 0
    · obtain ⟨D', P', a', s', h1, h2, h3⟩ := ih a2 s2 _ (landS q P 200 D) (landP q false P 200) (by have := (landP_sub q false P 200).2; omega) (by omega) o2 (land_ok hok q 200 false)
      refine ⟨D', P', a', s', Ev.succ ?_, h2, by have := (landP_sub q false P 200).2; omega⟩
      simp only [spec_l00Src_disk.l0, f1, f2, Option.bind_some]
      refine ev_pos (by omega) (ev_pos c (ev_bind (ev_bind (settle_land hok q 200 (by omega) false).2 (ev_some _)) ?_))
      rw [w64 (n := ((i + 1 : Nat) : Int) - 1) (by omega) (by omega), show ((i + 1 : Nat) : Int) - 1 = (i : Int) by omega]
      exact h1
    · obtain ⟨r, a3, s3, f3, r0, -, r1, o3⟩ := next_ok l h a2 s2 _ o2 (by omega) 8
      obtain ⟨m, a4, s4, f4, m0, -, m1, o4⟩ := next_ok l h a3 s3 _ o3 (by omega) 5
      have r1' := r1 (by omega)
      have m1' := m1 (by omega)
      obtain ⟨j, rfl⟩ : ∃ j : Nat, m = (j : Int) := ⟨m.toNat, by omega⟩
      obtain ⟨t, a5, s5, f5, ht, o5⟩ := some_ev l h j (by omega) a4 s4 _ o4 (by omega)
      have hw : spec_l01Write.f D P q r t = some (D, P ++ [(⟨q, r, t⟩ : S92)]) := by
        unfold spec_l01Write.f
        simp only [Option.bind_some, List.length_nil, List.nil_append, List.length_singleton]
        rw [if_pos (by omega), if_pos (by omega)]
      obtain ⟨D', P', a', s', h1, h2, h3⟩ := ih a5 s5 _ D (P ++ [(⟨q, r, t⟩ : S92)]) (by simp; omega) (by omega) o5 (disk_of e1 (by simp; omega) e3 (by
        intro x hx
        rcases List.mem_append.1 hx with hx | hx
        · exact e4 x hx
        · rw [List.mem_singleton.1 hx]; exact io_of q0 (by show q ≤ 3; omega) r0 (by show r ≤ 63; omega) (by show t.size ≤ 80; omega)))
      refine ⟨D', P', a', s', Ev.succ ?_, h2, by simp at h3; omega⟩
      simp only [spec_l00Src_disk.l0, f1, f2, f3, f4, Option.bind_some]
      refine ev_pos (by omega) (ev_neg c (ev_bind f5 ?_))
      simp only [hw, Option.bind_some]
      rw [w64 (n := ((i + 1 : Nat) : Int) - 1) (by omega) (by omega), show ((i + 1 : Nat) : Int) - 1 = (i : Int) by omega]
      exact h1
theorem disk_drawn (l : List Int) (h : ∀ x ∈ l, 0 ≤ x ∧ x ≤ 255) : ∃ D P, Ev (fun k => spec_DiskOf.f k l) (D, P) ∧ diskOK D P = true ∧ P.length ≤ 19 := by
  have hnew : spec_l01New.f = some (List.replicate 64 (⟨#[]⟩ : ByteArray), ([] : List S92)) := rfl
  unfold spec_DiskOf.f spec_l00Source.f spec_l00Src_disk.f
  simp only [hnew, Option.bind_some]
  obtain ⟨m, a1, s1, e1, m0, -, m1, o1⟩ := next_ok l h _ _ _ (source_ok l) (by omega) 20
  have m1' := m1 (by omega)
  rw [e1]; simp only [Option.bind_some]
  obtain ⟨j, rfl⟩ : ∃ j : Nat, m = (j : Int) := ⟨m.toNat, by omega⟩
  obtain ⟨D, P, a, s, e, h1, h2⟩ := disk_fill l h j a1 s1 _ (List.replicate 64 (⟨#[]⟩ : ByteArray)) [] (by simp; omega) (by omega) o1 (disk_of (by simp) (by simp) (by intro x hx; rw [(List.mem_replicate.1 hx).2]; exact Nat.zero_le _) (by simp))
  exact ⟨D, P, ev_bind e (ev_some _), h1, by simp at h2; omega⟩
theorem text_drawn (l : List Int) (h : ∀ x ∈ l, 0 ≤ x ∧ x ≤ 255) (m : Nat) (hm : m ≤ 1000) : ∃ t, Ev (fun k => spec_TextOf.f k l (m : Int)) t ∧ t.size = m := by
  unfold spec_TextOf.f spec_l00Source.f
  simp only [Option.bind_some]
  obtain ⟨t, a, s, e, ht, _⟩ := some_ev l h m (by omega) _ _ _ (source_ok l) (by omega)
  exact ⟨t, ev_bind e (ev_some _), ht⟩
/-! ### Read -/
def readP (d : List ByteArray) (l : List S92) (a b : Int) : ByteArray := match l.reverse.find? (fun x => x.f0 == a && x.f1 == b) with | some x => x.f2 | none => rdOf ByteArray.empty d b
theorem impl_read_eq (d : List ByteArray) (l : List S92) (a b : Int) (hl : l.length ≤ 1000000000) (h0 : 0 ≤ b) (h1 : b < (d.length : Int)) : impl_Disk_read.f d l a b = some (readP d l a b) := by
  unfold impl_Disk_read.f readP
  rw [if_pos hl]
  cases l.reverse.find? (fun x => x.f0 == a && x.f1 == b) with
  | some x => rfl
  | none => simp only [if_pos h0, if_pos h1]
theorem readP_size {d : List ByteArray} {l : List S92} (h : diskOK d l = true) (a b : Int) (h0 : 0 ≤ b) (h1 : b < 64) : (readP d l a b).size ≤ 80 := by
  unfold diskOK at h
  simp only [Bool.and_eq_true, decide_eq_true_eq, List.all_eq_true] at h
  obtain ⟨e1, e2, e3, e4⟩ := h
  unfold readP
  cases hf : l.reverse.find? (fun x => x.f0 == a && x.f1 == b) with
  | some x =>
    have := e4 x (by simpa using List.mem_of_find?_eq_some hf)
    unfold ioOK at this
    simp only [Bool.and_eq_true, decide_eq_true_eq] at this
    show x.f2.size ≤ 80
    omega
  | none =>
    have hb : b.toNat < d.length := by omega
    have e : rdOf ByteArray.empty d b = d[b.toNat] := by simp [rdOf, hb]
    have := e3 _ (List.getElem_mem hb)
    unfold secOK at this
    show (rdOf ByteArray.empty d b).size ≤ 80
    rw [e]
    have := of_decide_eq_true this
    omega
theorem disk_len {d : List ByteArray} {l : List S92} (h : diskOK d l = true) : d.length = 64 ∧ l.length ≤ 200 := by
  unfold diskOK at h
  simp only [Bool.and_eq_true, decide_eq_true_eq] at h
  omega
/-! ### At -/
theorem at_ok (l : List Int) (h : ∀ x ∈ l, 0 ≤ x ∧ x ≤ 255) (i : Int) (hi0 : 0 ≤ i) (hi : i ≤ 1000000) (n : Int) : ∃ r, laws_at.f l i n = some r ∧ 0 ≤ r ∧ (n ≤ 1 → r = 0) ∧ (1 ≤ n → r < n) := by
  unfold laws_at.f
  by_cases c1 : n ≤ 1
  · rw [if_pos c1]; exact ⟨0, rfl, by omega, fun _ => rfl, fun _ => by omega⟩
  · rw [if_neg c1]
    by_cases c2 : (l.length : Int) = 0
    · rw [if_pos c2, if_neg (by omega)]
      have x1 : wrap64 (i * 7) = i * 7 := w64 (by omega) (by omega)
      rw [x1]
      have := tmod_range (show 0 ≤ i * 7 by omega) (show 0 < n by omega)
      exact ⟨_, rfl, this.1, fun h => absurd h c1, fun _ => this.2⟩
    · rw [if_neg c2]
      have x1 : wrap64 (i + 1) = i + 1 := w64 (by omega) (by omega)
      rw [x1]
      have m1 := tmod_range hi0 (show 0 < (l.length : Int) by omega)
      have m2 := tmod_range (show 0 ≤ i + 1 by omega) (show 0 < (l.length : Int) by omega)
      rw [if_pos m1.1, if_pos m1.2, if_pos m2.1, if_pos m2.2, if_neg (by omega)]
      have b1 := rd_byte l h (Int.tmod i (l.length : Int))
      have b2 := rd_byte l h (Int.tmod (i + 1) (l.length : Int))
      generalize rd l (Int.tmod i (l.length : Int)) = u at b1 ⊢
      generalize rd l (Int.tmod (i + 1) (l.length : Int)) = v at b2 ⊢
      have d0 : 0 ≤ Int.tdiv i (l.length : Int) := by rw [Int.tdiv_eq_ediv_of_nonneg hi0]; exact Int.ediv_nonneg hi0 (by omega)
      have d1 : Int.tdiv i (l.length : Int) ≤ i := by rw [Int.tdiv_eq_ediv_of_nonneg hi0]; exact Int.ediv_le_self _ hi0
      generalize Int.tdiv i (l.length : Int) = q at d0 d1 ⊢
      have y1 : wrap64 u = u := w64 (by omega) (by omega)
      have y2 : wrap64 v = v := w64 (by omega) (by omega)
      have y3 : wrap64 q = q := w64 (by omega) (by omega)
      have y4 : wrap64 (u * 31) = u * 31 := w64 (by omega) (by omega)
      rw [y1, y2, y3, y4]
      have y5 : wrap64 (u * 31 + v) = u * 31 + v := w64 (by omega) (by omega)
      rw [y5]
      have y6 : wrap64 (u * 31 + v + q) = u * 31 + v + q := w64 (by omega) (by omega)
      rw [y6]
      have := tmod_range (show 0 ≤ u * 31 + v + q by omega) (show 0 < n by omega)
      exact ⟨_, rfl, this.1, fun h => absurd h c1, fun _ => this.2⟩
end Go.Proofs.Ytajflpcihblkfaa.Q
