/- What laws.FnRefs reaches, part 5: the functions as Lean functions, the proofs that the program's functions answer so, and plain laws about them. -/
import Derived.Test.YtajflpcihblkfaaKFnRefs1
import Derived.Test.YtajflpcihblkfaaKFnRefs2
import Derived.Test.YtajflpcihblkfaaKFnRefs3
namespace Go.Proofs.Ytajflpcihblkfaa.Q
open Go.RowKit Go.Proofs.Ytajflpcihblkfaa.Ext Go.Proofs.YtajflpcihblkfaaW.PrintWords Go.Proofs.YtajflpcihblkfaaW.PrintLast Go.Proofs.YtajflpcihblkfaaW.PrintMore
attribute [local go_sem] max2_int min2_int max_two min_two max_three min_three max_four min_four   -- for this text's walks alone
set_option linter.unusedVariables false
set_option linter.unusedSimpArgs false

set_option linter.unusedVariables false
set_option linter.unusedSimpArgs false
/-! ### Base -/
def okI (x : Int) : Prop := (Lit.int .i64 x).wf = true
def okU8 (x : Int) : Prop := (Lit.int .u8 x).wf = true
def okB (_ : Bool) : Prop := True
def okS (x : ByteArray) : Prop := x.size ≤ maxLen
theorem w64 {n : Int} (h0 : -9223372036854775808 ≤ n) (h1 : n ≤ 9223372036854775807) : wrap64 n = n := by unfold wrap64; omega
theorem okI_iff {n : Int} (h : (Lit.int .i64 n).wf = true) : -9223372036854775808 ≤ n ∧ n ≤ 9223372036854775807 := by
  simp [Lit.wf, IntKind.min, IntKind.max, IntKind.signed, IntKind.bits] at h
  omega
theorem Ev.k {α : Type} {g : Nat → Option α} {r : α} (K : Nat) (h : ∀ k, K ≤ k → g k = some r) : Ev g r := ⟨K, h⟩
theorem ev_some {α : Type} (r : α) : Ev (fun _ => some r) r := ⟨0, fun _ _ => rfl⟩
theorem ev_of_eq {α : Type} {g : Nat → Option α} {r : α} (h : ∀ k, g k = some r) : Ev g r := ⟨0, fun k _ => h k⟩
theorem ev_bind {α β : Type} {g : Nat → Option α} {f : Nat → α → Option β} {a : α} {r : β} (h : Ev g a) (k : Ev (fun n => f n a) r) : Ev (fun n => (g n).bind (f n)) r := Ev.bind h k
theorem ev_if {α : Type} {c : Prop} [Decidable c] {g f : Nat → Option α} {r : α} (h : c → Ev g r) (h' : ¬ c → Ev f r) : Ev (fun n => if c then g n else f n) r := by
  by_cases hc : c
  · simp only [if_pos hc]; exact h hc
  · simp only [if_neg hc]; exact h' hc
theorem ev_pos {α : Type} {c : Prop} [Decidable c] {g f : Nat → Option α} {r : α} (hc : c) (h : Ev g r) : Ev (fun n => if c then g n else f n) r := by
  simp only [if_pos hc]; exact h
theorem ev_neg {α : Type} {c : Prop} [Decidable c] {g f : Nat → Option α} {r : α} (hc : ¬ c) (h : Ev f r) : Ev (fun n => if c then g n else f n) r := by
  simp only [if_neg hc]; exact h
theorem strOfNums_size (l : List Int) : (strOfNums l).size = l.length := by show (List.map _ l).toArray.size = _; simp
theorem ba_size_append (a b : ByteArray) : (a ++ b).size = a.size + b.size := by simp
theorem toList_inj {a b : ByteArray} : a.toList = b.toList ↔ a = b := by
  constructor
  · intro h
    have h1 : a.data.toList = b.data.toList := by simpa [ByteArray.toList_eq] using h
    have : a.data = b.data := Array.toList_inj.1 h1
    cases a; cases b; simp_all
  · rintro rfl; rfl
/-! ### Mark -/
theorem ev_loop {α : Type} {g : Nat → Nat → Option α} {r : α} (n : Nat) (hend : Ev (fun k => g k n) r) (hstep : ∀ i, i < n → ∃ c, ∀ k, g (k + c) i = g k (i + 1) ∧ 1 ≤ c) : ∀ d i, i ≤ n → n - i = d → Ev (fun k => g k i) r := by
  intro d
  induction d with
  | zero =>
    intro i hi hd
    have e : i = n := by omega
    rw [e]; exact hend
  | succ d ih =>
    intro i hi hd
    obtain ⟨K, hK⟩ := ih (i + 1) (by omega) (by omega)
    obtain ⟨c, hc⟩ := hstep i (by omega)
    refine ⟨K + c, fun k hk => ?_⟩
    obtain ⟨m, rfl⟩ : ∃ m, k = m + c := ⟨k - c, by omega⟩
    show g (m + c) i = _
    rw [(hc m).1]; exact hK m (by omega)
theorem rdn (l : List Int) (i : Nat) (h : i < l.length) : rd l (i : Int) = l[i] := by simp [rd, h]
theorem wnext (i : Nat) (h : i < 1000000000000000000) : wrap64 ((i : Int) + 1) = ((i + 1 : Nat) : Int) := by rw [w64 (by omega) (by omega)]; omega
def countUp (a : Int) (n : Nat) : List Int := (List.range n).map (fun j : Nat => a + (j : Int))
theorem countUp_length (a : Int) (n : Nat) : (countUp a n).length = n := by simp [countUp]
theorem countUp_get (a : Int) (n i : Nat) (h : i < n) : (countUp a n)[i]'(by rw [countUp_length]; exact h) = a + (i : Int) := by simp [countUp]
theorem set_mid {α : Type} (l m : List α) (hlm : m.length = l.length) (i : Nat) (h : i < l.length) (x : α) (hx : m[i]'(by omega) = x) : (m.take i ++ l.drop i).set i x = m.take (i + 1) ++ l.drop (i + 1) := by
  subst hx
  rw [List.drop_eq_getElem_cons h, List.set_append_right _ _ (by rw [List.length_take]; omega)]
  have : i - (m.take i).length = 0 := by rw [List.length_take]; omega
  rw [this, List.set_cons_zero, List.take_succ_eq_append_getElem (by omega), List.append_assoc]
  rfl
/-! ### Ev -/
theorem Ev.succ {α : Type} {g : Nat → Option α} {r : α} (h : Ev (fun k => g (k + 1)) r) : Ev g r := Ev.step (f := fun k => g (k + 1)) (fun _ => rfl) h
theorem ev_all {α : Type} {g : Nat → Nat → Option Bool} (l : List α) (q : α → Bool) (r : Bool) (hend : Ev (fun k => g k l.length) r) (hstep : ∀ i (h : i < l.length) k, g (k + 1) i = if q l[i] = true then g k (i + 1) else some false) : Ev (fun k => g k 0) (l.all q && r) := by
  have hgo : ∀ d i, i ≤ l.length → l.length - i = d → Ev (fun k => g k i) ((l.drop i).all q && r) := by
    intro d
    induction d with
    | zero =>
      intro i hi hd
      have e : i = l.length := by omega
      subst e
      rw [List.drop_of_length_le (by omega)]; simp only [List.all_nil, Bool.true_and]; exact hend
    | succ d ih =>
      intro i hi hd
      have hlt : i < l.length := by omega
      refine Ev.step (f := fun k => if q l[i] = true then g k (i + 1) else some false) (hstep i hlt) ?_
      rw [List.drop_eq_getElem_cons hlt, List.all_cons]
      cases hq : q l[i]
      · simp only [Bool.false_and, Bool.false_eq_true, if_false]; exact ev_some _
      · simp only [Bool.true_and, if_true]; exact ih (i + 1) (by omega) (by omega)
  have := hgo l.length 0 (by omega) (by omega)
  rwa [List.drop_zero] at this
theorem ev_asks {α β : Type} {g : Nat → Nat → Option β} (l : List α) (q : α → Bool) (r bad : β) (hend : Ev (fun k => g k l.length) r) (hstep : ∀ i (h : i < l.length) k, g (k + 1) i = if q l[i] = true then g k (i + 1) else some bad) : Ev (fun k => g k 0) (if l.all q = true then r else bad) := by
  have hgo : ∀ d i, i ≤ l.length → l.length - i = d → Ev (fun k => g k i) (if (l.drop i).all q = true then r else bad) := by
    intro d
    induction d with
    | zero =>
      intro i hi hd
      have e : i = l.length := by omega
      subst e
      rw [List.drop_of_length_le (by omega)]; simp only [List.all_nil, if_true]; exact hend
    | succ d ih =>
      intro i hi hd
      have hlt : i < l.length := by omega
      refine Ev.step (f := fun k => if q l[i] = true then g k (i + 1) else some bad) (hstep i hlt) ?_
      rw [List.drop_eq_getElem_cons hlt, List.all_cons]
      cases hq : q l[i]
      · simp only [Bool.false_and, Bool.false_eq_true, if_false]; exact ev_some _
      · simp only [Bool.true_and, if_true]; exact ih (i + 1) (by omega) (by omega)
  have := hgo l.length 0 (by omega) (by omega)
  rwa [List.drop_zero] at this
/-! ### In -/
def inB (n a b : Int) : Bool := decide (a ≤ n) && decide (n ≤ b)
theorem inB_iff {n a b : Int} : inB n a b = true ↔ a ≤ n ∧ n ≤ b := by simp [inB]
theorem inB_no {n a b : Int} : inB n a b = false ↔ ¬ (a ≤ n ∧ n ≤ b) := by rw [← inB_iff]; simp
theorem l01In_eq (n a b : Int) : spec_l01In.f n a b = some (inB n a b) := by
  unfold spec_l01In.f inB; by_cases h : a ≤ n <;> simp [h]
theorem within_eq (n a b : Int) : impl_within.f n a b = some (inB n a b) := by
  unfold impl_within.f inB; by_cases h : a ≤ n <;> simp [h]
theorem and_opt {b : Bool} {c : Option Bool} {c' : Bool} (h : c = some c') : (if b = true then c else some false) = some (b && c') := by
  cases b <;> simp [h]
/-! ### RefsOK -/
def refsOK (l : List Int) : Bool := l.all (fun n => inB n 0 15) && ((l.length : Int) == 24)
theorem spec_RefsOK_ev (l : List Int) (hl : l.length ≤ 1000000000) : Ev (fun k => spec_RefsOK.f k l) (refsOK l) := by
  unfold spec_RefsOK.f
  by_cases h : (l.length : Int) > 4096
  · have : refsOK l = false := by
      unfold refsOK
      rw [show ((l.length : Int) == 24) = false from beq_eq_false_iff_ne.2 (by omega), Bool.and_false]
    rw [this]; exact ev_pos h (ev_some _)
  · refine ev_neg h ?_
    refine ev_all (g := fun k i => spec_RefsOK.l0 k l (i : Int)) l (fun n => inB n 0 15) _ ?_ ?_
    · refine Ev.step (f := fun _ => some ((l.length : Int) == 24)) (fun k => ?_) (ev_some _)
      simp only [spec_RefsOK.l0]; rw [if_neg (by omega)]
    · intro i hi k
      simp only [spec_RefsOK.l0, l01In_eq, Option.bind_some]
      rw [if_pos (by omega), if_pos (by omega), rdn l i hi, wnext i (by omega)]
theorem impl_RefsOK_eq (l : List Int) : impl_RefsOK.f l = some (refsOK l) := by
  have ha : all107_impl_RefsOK_1.f l () = some (l.all (fun n => inB n 0 15)) := by
    unfold all107_impl_RefsOK_1.f; exact allO_some _ _ (fun x _ => by simp only [impl_RefsOK_1.f, within_eq, Option.bind_some])
  unfold impl_RefsOK.f refsOK
  by_cases h : (l.length : Int) = 24
  · rw [if_pos h, ha, show ((l.length : Int) == 24) = true from beq_iff_eq.2 h, Bool.and_true]; rfl
  · rw [if_neg h, show ((l.length : Int) == 24) = false from beq_eq_false_iff_ne.2 h, Bool.and_false]
theorem refs_len {l : List Int} (h : refsOK l = true) : l.length = 24 := by
  unfold refsOK at h; rw [Bool.and_eq_true, beq_iff_eq] at h; omega
/-! ### Codec -/
/-- The bytes of a number. -/
def quad (n : Int) : List Int := [n % 256, n / 256 % 256, n / 65536 % 256, n / 16777216 % 256]
def packP (l : List Int) : List Int := l.flatMap quad
theorem packP_length (l : List Int) : (packP l).length = 4 * l.length := by
  induction l with
  | nil => rfl
  | cons x xs ih => simp only [packP, List.flatMap_cons, List.length_append] at ih ⊢; rw [ih]; simp [quad]; omega
theorem packP_snoc (l : List Int) (x : Int) : packP (l ++ [x]) = packP l ++ quad x := by simp [packP]
theorem rd_eq (l : List Int) (i : Nat) (h : i < l.length) : rd l (i : Int) = l[i] := by simp [rd, h]
theorem take_next {α : Type} (l : List α) (i : Nat) (h : i < l.length) : l.take (i + 1) = l.take i ++ [l[i]] := by
  rw [List.take_succ_eq_append_getElem h]
theorem spec_pack_in (l out : List Int) (i : Nat) (n : Int) (h : out.length + 4 < 140737488355328) (k : Nat) (hk : 5 ≤ k) :
    spec_l02Pack.l1 k l out i n 0 = spec_l02Pack.l0 (k - 5) l (out ++ quad n) (wrap64 ((i : Int) + 1)) := by
  obtain ⟨k, rfl⟩ : ∃ m, k = m + 5 := ⟨k - 5, by omega⟩
  have e1 : wrap64 (0 + 1) = 1 := by rw [w64 (by omega) (by omega)]; omega
  have e2 : wrap64 (1 + 1) = 2 := by rw [w64 (by omega) (by omega)]; omega
  have e3 : wrap64 (2 + 1) = 3 := by rw [w64 (by omega) (by omega)]; omega
  have e4 : wrap64 (3 + 1) = 4 := by rw [w64 (by omega) (by omega)]; omega
  simp only [spec_l02Pack.l1, e1, e2, e3, e4, List.length_append, List.length_cons, List.length_nil]
  rw [if_pos (by omega), if_pos (by omega), if_pos (by omega), if_pos (by omega), if_pos (by omega), if_pos (by omega), if_pos (by omega), if_pos (by omega), if_neg (by omega)]
  simp only [quad, Nat.add_sub_cancel, List.append_assoc, List.cons_append, List.nil_append]
  rw [Int.ediv_ediv_of_nonneg (by omega), Int.ediv_ediv_of_nonneg (by omega)]
  rfl
theorem spec_pack_from (l : List Int) (hl : l.length ≤ 1000000000) (d : Nat) : ∀ (k i : Nat), i ≤ l.length → l.length - i = d → 6 * d < k →
    spec_l02Pack.l0 k l (packP (l.take i)) i = some (strOfNums (packP l)) := by
  induction d with
  | zero =>
    intro k i hi hd hk
    obtain ⟨k, rfl⟩ : ∃ m, k = m + 1 := ⟨k - 1, by omega⟩
    simp only [spec_l02Pack.l0]
    rw [if_neg (by omega), List.take_of_length_le (by omega)]
  | succ d ih =>
    intro k i hi hd hk
    obtain ⟨k, rfl⟩ : ∃ m, k = m + 1 := ⟨k - 1, by omega⟩
    have hlt : i < l.length := by omega
    have hp := packP_length (l.take i)
    have hl2 : (l.take i).length ≤ i := List.length_take_le _ _
    simp only [spec_l02Pack.l0]
    rw [if_pos (by omega), if_pos (by omega), spec_pack_in _ _ _ _ (by omega) _ (by omega), rd_eq l i hlt, ← packP_snoc, ← take_next l i hlt, w64 (by omega) (by omega)]
    exact ih (k - 5) (i + 1) (by omega) (by omega) (by omega)
theorem spec_pack_ev (l : List Int) (hl : l.length ≤ 1000000000) : Ev (fun k => spec_l02Pack.f k l) (strOfNums (packP l)) :=
  ⟨6 * l.length + 1, fun k hk => by have := spec_pack_from l hl l.length k 0 (by omega) (by omega) (by omega); simpa [spec_l02Pack.f, packP] using this⟩
theorem impl_pack_from (l : List Int) (hl : l.length ≤ 1000000000) (d : Nat) : ∀ (k i : Nat), i ≤ l.length → l.length - i = d → d < k →
    impl_pack.l0 k (packP (l.take i)) l (l.length : Int) i = some (strOfNums (packP l)) := by
  induction d with
  | zero =>
    intro k i hi hd hk
    obtain ⟨k, rfl⟩ : ∃ m, k = m + 1 := ⟨k - 1, by omega⟩
    simp only [impl_pack.l0]
    rw [if_neg (by omega), List.take_of_length_le (by omega)]
  | succ d ih =>
    intro k i hi hd hk
    obtain ⟨k, rfl⟩ : ∃ m, k = m + 1 := ⟨k - 1, by omega⟩
    have hlt : i < l.length := by omega
    have hp := packP_length (l.take i)
    have hl2 : (l.take i).length ≤ i := List.length_take_le _ _
    simp only [impl_pack.l0]
    rw [if_pos (by omega), if_pos (by omega), if_pos (by omega)]
    simp only [Option.bind_some, List.length_cons, List.length_nil]
    rw [if_pos (by omega), rd_eq l i hlt]
    have : packP (l.take i) ++ [l[i] % 256, l[i] / 256 % 256, l[i] / 65536 % 256, l[i] / 16777216 % 256] = packP (l.take (i + 1)) := by
      rw [take_next l i hlt, packP_snoc]; rfl
    rw [this, w64 (by omega) (by omega)]
    exact ih k (i + 1) (by omega) (by omega) (by omega)
theorem impl_pack_ev (l : List Int) (hl : l.length ≤ 1000000000) : Ev (fun k => impl_pack.f k l) (strOfNums (packP l)) :=
  ⟨l.length + 1, fun k hk => by have := impl_pack_from l hl l.length k 0 (by omega) (by omega) (by omega); simpa [impl_pack.f, packP] using this⟩
/-- One step of the sum. -/
def sumStep (t : ByteArray) (n : Int) (i : Nat) : Int := Int.tmod (wrap64 (n + (wrap64 ((wrap64 ((i : Int) + 1)) * (wrap64 ((wrap64 (bt t i)) + 1)))))) 251
def sumP (t : ByteArray) : Int := (List.range t.size).foldl (sumStep t) 0
theorem range_split (i n : Nat) (h : i < n) : List.range' i (n - i) = i :: List.range' (i + 1) (n - (i + 1)) := by
  obtain ⟨d, rfl⟩ : ∃ d, n = i + 1 + d := ⟨n - (i + 1), by omega⟩
  rw [show i + 1 + d - i = d + 1 by omega, show i + 1 + d - (i + 1) = d by omega, List.range'_succ]
theorem spec_sum_from (t : ByteArray) (ht : t.size ≤ 1000000000000) (d : Nat) : ∀ (k i : Nat) (n : Int), i ≤ t.size → t.size - i = d → d < k →
    spec_l02Sum.l0 k t n i = some ((List.range' i (t.size - i)).foldl (sumStep t) n) := by
  induction d with
  | zero =>
    intro k i n hi hd hk
    obtain ⟨k, rfl⟩ : ∃ m, k = m + 1 := ⟨k - 1, by omega⟩
    simp only [spec_l02Sum.l0]
    rw [if_neg (by omega), hd]; rfl
  | succ d ih =>
    intro k i n hi hd hk
    obtain ⟨k, rfl⟩ : ∃ m, k = m + 1 := ⟨k - 1, by omega⟩
    simp only [spec_l02Sum.l0]
    rw [if_pos (by omega), if_pos (by omega), range_split i t.size (by omega)]
    have e : wrap64 ((i : Int) + 1) = ((i + 1 : Nat) : Int) := by rw [w64 (by omega) (by omega)]; rfl
    have := ih k (i + 1) (sumStep t n i) (by omega) (by omega) (by omega)
    rw [List.foldl_cons, ← this]
    simp only [sumStep, e]
theorem spec_sum_ev (t : ByteArray) (ht : t.size ≤ 1000000000000) : Ev (fun k => spec_l02Sum.f k t) (sumP t) :=
  ⟨t.size + 1, fun k hk => by have := spec_sum_from t ht t.size k 0 0 (by omega) (by omega) (by omega); simpa [spec_l02Sum.f, sumP, List.range_eq_range'] using this⟩
theorem impl_sum_from (t : ByteArray) (ht : t.size ≤ 1000000000000) (d : Nat) : ∀ (k i : Nat) (n : Int), i ≤ t.size → t.size - i = d → d < k →
    impl_sumOf.l0 k t n (t.size : Int) i = some ((List.range' i (t.size - i)).foldl (sumStep t) n) := by
  induction d with
  | zero =>
    intro k i n hi hd hk
    obtain ⟨k, rfl⟩ : ∃ m, k = m + 1 := ⟨k - 1, by omega⟩
    simp only [impl_sumOf.l0]
    rw [if_neg (by omega), hd]; rfl
  | succ d ih =>
    intro k i n hi hd hk
    obtain ⟨k, rfl⟩ : ∃ m, k = m + 1 := ⟨k - 1, by omega⟩
    simp only [impl_sumOf.l0]
    rw [if_pos (by omega), if_pos (by omega), if_pos (by omega), range_split i t.size (by omega)]
    have e : wrap64 ((i : Int) + 1) = ((i + 1 : Nat) : Int) := by rw [w64 (by omega) (by omega)]; rfl
    have := ih k (i + 1) (sumStep t n i) (by omega) (by omega) (by omega)
    rw [List.foldl_cons, ← this]
    simp only [sumStep, e]
theorem impl_sum_ev (t : ByteArray) (ht : t.size ≤ 1000000000000) : Ev (fun k => impl_sumOf.f k t) (sumP t) :=
  ⟨t.size + 1, fun k hk => by have := impl_sum_from t ht t.size k 0 0 (by omega) (by omega) (by omega); simpa [impl_sumOf.f, sumP, List.range_eq_range'] using this⟩
/-- A record. -/
def headP (kind : Int) (l : List Int) : ByteArray := strOfNums [kind % 256, (l.length : Int) % 256]
def sealP (kind : Int) (l : List Int) : ByteArray := headP kind l ++ strOfNums [sumP (headP kind l ++ strOfNums (packP l)) % 256, 0] ++ strOfNums (packP l)
theorem headP_size (kind : Int) (l : List Int) : (headP kind l).size = 2 := by simp [headP, strOfNums_size]
theorem sealP_size (kind : Int) (l : List Int) : (sealP kind l).size = 4 + 4 * l.length := by simp [sealP, headP_size, strOfNums_size, packP_length]
theorem spec_seal_ev (kind : Int) (l : List Int) (hl : l.length ≤ 1000000000) : Ev (fun k => spec_l02Seal.f k kind l) (sealP kind l) := by
  have hp : (strOfNums (packP l)).size = 4 * l.length := by rw [strOfNums_size, packP_length]
  have hh := headP_size kind l
  unfold spec_l02Seal.f
  refine ev_bind (spec_pack_ev l hl) ?_
  simp only [Option.bind_some]
  refine ev_pos (by rw [strOfNums_size, hp]; simp; omega) ?_
  refine ev_bind (spec_sum_ev _ (by rw [ba_size_append, strOfNums_size, hp]; simp; omega)) ?_
  refine ev_pos (by simp [strOfNums_size]) ?_
  refine ev_pos (by rw [ba_size_append, hp]; simp [strOfNums_size]; omega) ?_
  exact ev_some _
theorem impl_seal_ev (kind : Int) (l : List Int) (hl : l.length ≤ 1000000000) : Ev (fun k => impl_seal.f k kind l) (sealP kind l) := by
  have hp : (strOfNums (packP l)).size = 4 * l.length := by rw [strOfNums_size, packP_length]
  have hh := headP_size kind l
  unfold impl_seal.f
  simp only [Option.bind_some]
  refine ev_bind (impl_pack_ev l hl) ?_
  refine ev_pos (by rw [strOfNums_size, hp]; simp; omega) ?_
  refine ev_bind (impl_sum_ev _ (by rw [ba_size_append, strOfNums_size, hp]; simp; omega)) ?_
  refine ev_pos (by simp [strOfNums_size]) ?_
  refine ev_pos (by rw [ba_size_append, hp]; simp [strOfNums_size]; omega) ?_
  exact ev_some _
/-! ### Open -/
theorem bt_nn (t : ByteArray) (i : Int) : 0 ≤ bt t i := by unfold bt; split <;> omega
theorem bt_lt (t : ByteArray) (i : Int) : bt t i < 256 := by
  unfold bt; split
  · have := (t[i.toNat]).toNat_lt; omega
  · omega
theorem wraps_i64 (n : Int) (h0 : 0 ≤ n) (h1 : n < 2 ^ 63) : IntKind.i64.wrap n = n := by rw [IntKind.wrap_i64]; omega
theorem or64 (i : Nat) {x y : Int} (hx₀ : 0 ≤ x) (hx : x % 2 ^ i = 0) (hx₁ : x < 2 ^ 63) (h₀ : 0 ≤ y) (h₁ : y < 2 ^ i) (hy : y < 2 ^ 63) : Go.bits .or .i64 x y = x + y :=
  bits_join .i64 63 (by decide) wraps_i64 i x y hx₀ hx hx₁ h₀ h₁ hy
theorem or64' (i : Nat) {x y : Int} (hx₀ : 0 ≤ x) (hx : x % 2 ^ i = 0) (hx₁ : x < 2 ^ 63) (h₀ : 0 ≤ y) (h₁ : y < 2 ^ i) (hy : y < 2 ^ 63) : Go.bits .or .i64 y x = y + x := by
  obtain ⟨a, rfl⟩ := Int.eq_ofNat_of_zero_le hx₀
  obtain ⟨b, rfl⟩ := Int.eq_ofNat_of_zero_le h₀
  have ha : a < 2 ^ 63 := by exact_mod_cast hx₁
  have hb : b < 2 ^ 63 := by exact_mod_cast hy
  have h := or64 i (x := (a : Int)) (y := (b : Int)) hx₀ hx hx₁ h₀ h₁ hy
  rw [(bits_nat .i64 63 (by decide) wraps_i64 a b ha hb).2] at h
  rw [(bits_nat .i64 63 (by decide) wraps_i64 b a hb ha).2, Nat.or_comm, h]; omega
def numAt (t : ByteArray) (i : Nat) : Int := bt t (i : Int) + 256 * bt t ((i + 1 : Nat) : Int) + 65536 * bt t ((i + 2 : Nat) : Int) + 16777216 * bt t ((i + 3 : Nat) : Int)
def numsP (t : ByteArray) : List Int := (List.range (t.size / 4)).map (fun j => numAt t (4 * j))
theorem numsP_length (t : ByteArray) : (numsP t).length = t.size / 4 := by simp [numsP]
theorem numsP_take (t : ByteArray) (j : Nat) (h : j < t.size / 4) : (numsP t).take (j + 1) = (numsP t).take j ++ [numAt t (4 * j)] := by
  rw [take_next _ j (by rw [numsP_length]; exact h)]; simp [numsP]
def intsOK (l : List Int) : Bool := l.all (fun n => inB n 0 2147483647) && decide ((l.length : Int) ≤ 16)
theorem mul_wrap {a b c : Int} (h0 : 0 ≤ a) (h1 : a < c) (hb : 0 < b) (h : c * b ≤ 9223372036854775807) : wrap64 (a * b) = a * b := by
  have h2 : a * b ≤ c * b := Int.mul_le_mul_of_nonneg_right (by omega) (by omega)
  have h3 : 0 ≤ a * b := Int.mul_nonneg h0 (by omega)
  exact w64 (by omega) (by omega)
theorem four_up {a b c d : Int} (a0 : 0 ≤ a) (a1 : a < 256) (b0 : 0 ≤ b) (b1 : b < 256) (c0 : 0 ≤ c) (c1 : c < 256) (d0 : 0 ≤ d) (d1 : d < 256) :
    Go.bits .or .i64 (wrap64 (Go.bits .or .i64 (wrap64 (Go.bits .or .i64 (wrap64 (Go.bits .or .i64 (wrap64 (0 * 256)) (wrap64 d) * 256)) (wrap64 c) * 256)) (wrap64 b) * 256)) (wrap64 a) = a + 256 * b + 65536 * c + 16777216 * d := by
  rw [w64 (n := a) (by omega) (by omega), w64 (n := b) (by omega) (by omega), w64 (n := c) (by omega) (by omega), w64 (n := d) (by omega) (by omega)]
  rw [w64 (n := 0 * 256) (by omega) (by omega), or64 8 (x := 0 * 256) (by omega) (by omega) (by omega) d0 (by omega) (by omega)]
  obtain ⟨u, hu⟩ : ∃ u, u = 0 * 256 + d := ⟨_, rfl⟩
  rw [← hu, w64 (n := u * 256) (by omega) (by omega), or64 8 (x := u * 256) (by omega) (by omega) (by omega) c0 (by omega) (by omega)]
  obtain ⟨v, hv⟩ : ∃ v, v = u * 256 + c := ⟨_, rfl⟩
  rw [← hv, w64 (n := v * 256) (by omega) (by omega), or64 8 (x := v * 256) (by omega) (by omega) (by omega) b0 (by omega) (by omega)]
  obtain ⟨x, hx⟩ : ∃ x, x = v * 256 + b := ⟨_, rfl⟩
  rw [← hx, w64 (n := x * 256) (by omega) (by omega), or64 8 (x := x * 256) (by omega) (by omega) (by omega) a0 (by omega) (by omega)]
  omega
theorem four_down {a b c d : Int} (a0 : 0 ≤ a) (a1 : a < 256) (b0 : 0 ≤ b) (b1 : b < 256) (c0 : 0 ≤ c) (c1 : c < 256) (d0 : 0 ≤ d) (d1 : d < 256) :
    Go.bits .or .i64 (Go.bits .or .i64 (Go.bits .or .i64 (wrap64 a) (wrap64 (wrap64 b * 256))) (wrap64 (wrap64 c * 65536))) (wrap64 (wrap64 d * 16777216)) = a + 256 * b + 65536 * c + 16777216 * d := by
  rw [w64 (n := a) (by omega) (by omega), w64 (n := b) (by omega) (by omega), w64 (n := c) (by omega) (by omega), w64 (n := d) (by omega) (by omega)]
  rw [w64 (n := b * 256) (by omega) (by omega), w64 (n := c * 65536) (by omega) (by omega), w64 (n := d * 16777216) (by omega) (by omega)]
  rw [or64' 8 (x := b * 256) (by omega) (by omega) (by omega) a0 (by omega) (by omega)]
  obtain ⟨u, hu⟩ : ∃ u, u = a + b * 256 := ⟨_, rfl⟩
  rw [← hu, or64' 16 (x := c * 65536) (by omega) (by omega) (by omega) (y := u) (by omega) (by omega) (by omega)]
  obtain ⟨v, hv⟩ : ∃ v, v = u + c * 65536 := ⟨_, rfl⟩
  rw [← hv, or64' 24 (x := d * 16777216) (by omega) (by omega) (by omega) (y := v) (by omega) (by omega) (by omega)]
  omega
theorem up_to (i : Nat) (h : i < 1000000000000) (c : Nat) (hc : c ≤ 10) : wrap64 ((i : Int) + (c : Int)) = ((i + c : Nat) : Int) := by rw [w64 (by omega) (by omega)]; omega
def recNums (t : ByteArray) : List Int := numsP (t.extract 4 t.size)
def bodyOK (t : ByteArray) (kind : Int) : Bool := decide ((t.extract 4 t.size).size % 4 = 0 ∧ intsOK (recNums t) = true ∧ sealP kind (recNums t) = t)
theorem bodyOK_iff {t : ByteArray} {kind : Int} : bodyOK t kind = true ↔ (t.extract 4 t.size).size % 4 = 0 ∧ intsOK (recNums t) = true ∧ sealP kind (recNums t) = t := by simp only [bodyOK, decide_eq_true_eq]
def recOK (t : ByteArray) (kind : Int) : Bool := decide (4 ≤ t.size) && (bt t 0 == kind && (inB kind 1 9 && bodyOK t kind))
theorem recOK_iff {t : ByteArray} {kind : Int} : recOK t kind = true ↔ 4 ≤ t.size ∧ bt t 0 = kind ∧ inB kind 1 9 = true ∧ (t.extract 4 t.size).size % 4 = 0 ∧ intsOK (recNums t) = true ∧ sealP kind (recNums t) = t := by
  simp only [recOK, Bool.and_eq_true, decide_eq_true_eq, beq_iff_eq, bodyOK_iff]
theorem recOK_no {t : ByteArray} {kind : Int} (h : ¬ (4 ≤ t.size ∧ bt t 0 = kind ∧ inB kind 1 9 = true ∧ (t.extract 4 t.size).size % 4 = 0 ∧ intsOK (recNums t) = true ∧ sealP kind (recNums t) = t)) : recOK t kind = false := by
  cases hr : recOK t kind with
  | false => rfl
  | true => exact absurd (recOK_iff.1 hr) h
theorem ext_size (t : ByteArray) : (t.extract 4 t.size).size = t.size - 4 := by simp
theorem bt0 (t : ByteArray) : wrap64 (bt t 0) = bt t 0 := by have := bt_nn t 0; have := bt_lt t 0; exact w64 (by omega) (by omega)
/-! ### OpenI -/
theorem isNumber_eq (n : Int) : impl_isNumber.f n = some (inB n 0 2147483647) := by simp only [impl_isNumber.f, within_eq, Option.bind_some]
theorem all_number (l : List Int) : all107_impl_isNumber.f l () = some (l.all (fun n => inB n 0 2147483647)) := by
  unfold all107_impl_isNumber.f; exact allO_some _ _ (fun x _ => isNumber_eq x)
theorem impl_areInts_eq (l : List Int) : impl_areInts.f l = some (intsOK l) := by
  unfold impl_areInts.f intsOK
  by_cases h : (l.length : Int) ≤ 16
  · rw [if_pos h, all_number]; simp [h]
  · rw [if_neg h]; simp [h]
theorem intsOK_take (l : List Int) : intsOK (l.take 17) = intsOK l := by
  by_cases h : l.length ≤ 16
  · rw [List.take_of_length_le (by omega)]
  · have h1 : intsOK l = false := by simp [intsOK]; intro _; omega
    have h2 : intsOK (l.take 17) = false := by simp [intsOK]; intro _; omega
    rw [h1, h2]
theorem impl_unpack_end (t : ByteArray) (l : List Int) : (if ((t.size : Int) % 4) = 0 then ((impl_areInts.f l).bind fun t529 => (some (l, t529))) else (some (l, false))) = some (l, decide (t.size % 4 = 0) && intsOK l) := by
  by_cases h : t.size % 4 = 0
  · rw [if_pos (by omega), impl_areInts_eq]; simp [h]
  · rw [if_neg (by omega)]; simp [h]
theorem impl_unpack_from (t : ByteArray) (ht : t.size ≤ 1000000000) (d : Nat) : ∀ (k j : Nat), j ≤ 17 → j ≤ t.size / 4 → 17 - j = d → d < k →
    impl_unpack.l0 k t ((numsP t).take j) ((4 * j : Nat) : Int) = some ((numsP t).take 17, decide (t.size % 4 = 0) && intsOK ((numsP t).take 17)) := by
  induction d with
  | zero =>
    intro k j hj hj2 hd hk
    obtain ⟨k, rfl⟩ : ∃ m, k = m + 1 := ⟨k - 1, by omega⟩
    obtain rfl : j = 17 := by omega
    simp only [impl_unpack.l0]
    by_cases h : wrap64 (((4 * 17 : Nat) : Int) + 4) ≤ (t.size : Int)
    · rw [if_pos h, if_neg (by omega)]; exact impl_unpack_end t _
    · rw [if_neg h]; exact impl_unpack_end t _
  | succ d ih =>
    intro k j hj hj2 hd hk
    obtain ⟨k, rfl⟩ : ∃ m, k = m + 1 := ⟨k - 1, by omega⟩
    have hi : 4 * j < 1000000000000 := by omega
    have hlen : ((numsP t).take j).length ≤ t.size / 4 := by rw [List.length_take, numsP_length]; omega
    have e4 : wrap64 (((4 * j : Nat) : Int) + 4) = ((4 * j + 4 : Nat) : Int) := up_to _ hi 4 (by omega)
    have e3 : wrap64 (((4 * j : Nat) : Int) + 3) = ((4 * j + 3 : Nat) : Int) := up_to _ hi 3 (by omega)
    have e2 : wrap64 (((4 * j : Nat) : Int) + 2) = ((4 * j + 2 : Nat) : Int) := up_to _ hi 2 (by omega)
    have e1 : wrap64 (((4 * j : Nat) : Int) + 1) = ((4 * j + 1 : Nat) : Int) := up_to _ hi 1 (by omega)
    simp only [impl_unpack.l0]
    rw [e4, e3, e2, e1]
    by_cases h : 4 * j + 4 ≤ t.size
    · rw [if_pos (by omega), if_pos (by omega), if_pos (by omega), if_pos (by omega), if_pos (by omega), if_pos (by omega), if_pos (by omega), if_pos (by omega), if_pos (by omega), if_pos (by omega), if_pos (by omega)]
      rw [four_down (bt_nn _ _) (bt_lt _ _) (bt_nn _ _) (bt_lt _ _) (bt_nn _ _) (bt_lt _ _) (bt_nn _ _) (bt_lt _ _)]
      have := ih k (j + 1) (by omega) (by omega) (by omega) (by omega)
      rw [numsP_take t j (by omega)] at this
      exact this
    · rw [if_neg (by omega)]
      have e : (numsP t).take j = (numsP t).take 17 := by
        rw [List.take_of_length_le (by rw [numsP_length]; omega), List.take_of_length_le (by rw [numsP_length]; omega)]
      rw [e]; exact impl_unpack_end t _
theorem impl_unpack_ev (t : ByteArray) (ht : t.size ≤ 1000000000) : Ev (fun k => impl_unpack.f k t) ((numsP t).take 17, decide (t.size % 4 = 0) && intsOK (numsP t)) :=
  ⟨18, fun k hk => by have := impl_unpack_from t ht 17 k 0 (by omega) (by omega) (by omega) (by omega); rw [intsOK_take] at this; simpa [impl_unpack.f] using this⟩
def openL (t : ByteArray) : List Int := if t.size < 4 ∨ t.size > 80 ∨ inB (bt t 0) 1 9 = false then [] else (recNums t).take 17
theorem recOK_openL {t : ByteArray} {kind : Int} (h : recOK t kind = true) : openL t = recNums t := by
  obtain ⟨h1, h2, h3, h4, h5, h6⟩ := recOK_iff.1 h
  have hl : (recNums t).length ≤ 16 := by
    simp only [intsOK, Bool.and_eq_true, decide_eq_true_eq] at h5
    omega
  have hs : t.size ≤ 80 := by
    unfold recNums at hl; rw [numsP_length] at hl; rw [ext_size] at hl h4; omega
  unfold openL
  rw [if_neg (by rw [h2]; simp [h3]; omega), List.take_of_length_le (by omega)]
theorem recOK_long {t : ByteArray} {kind : Int} (h : t.size > 80) : recOK t kind = false := by
  refine recOK_no (fun hr => ?_)
  obtain ⟨h1, h2, h3, h4, h5, h6⟩ := hr
  simp only [intsOK, Bool.and_eq_true, decide_eq_true_eq] at h5
  have := h5.2
  unfold recNums at this
  rw [numsP_length] at this; rw [ext_size] at this h4; omega
theorem impl_open_ev (t : ByteArray) (kind : Int) (ht : t.size ≤ 1000000000) : Ev (fun k => impl_open.f k t kind) (openL t, recOK t kind) := by
  unfold impl_open.f impl_opened.f
  have hbad : ∀ (g : Nat → Option (Int × List Int × Bool)), openL t = [] → recOK t kind = false → Ev g (0, [], false) → Ev (fun k => (g k).bind fun bt537 => (if bt537.2.2 = true then (some (bt537.2.1, (bt537.1 == kind))) else (some (bt537.2.1, false)))) (openL t, recOK t kind) := by
    intro g h1 h2 hg
    rw [h1, h2]
    exact ev_bind hg (ev_neg (by simp) (ev_some _))
  by_cases h1 : t.size < 4
  · refine hbad _ (by simp [openL, h1]) (recOK_no (by omega)) (ev_pos (by omega) (Ev.step (f := fun _ => some (0, [], false)) (fun k => by simp [impl_opened.j0]) (ev_some _)))
  · by_cases h2 : t.size > 80
    · refine hbad _ (by simp [openL, h2]) (recOK_long h2) (ev_neg (by omega) (ev_pos (by omega) (Ev.step (f := fun _ => some (0, [], false)) (fun k => by simp [impl_opened.j0]) (ev_some _))))
    · by_cases h3 : inB (bt t 0) 1 9 = true
      · have hL : openL t = (recNums t).take 17 := by unfold openL; rw [if_neg (by simp [h3]; omega)]
        have hO : Ev (fun k => if (t.size : Int) < 4 then impl_opened.j0 k t true else (if (t.size : Int) > 80 then impl_opened.j0 k t true else (if 0 < (t.size : Int) then ((impl_isKind.f (wrap64 (bt t 0))).bind fun t531 => (impl_opened.j0 k t (!t531))) else none))) (bt t 0, openL t, bodyOK t (bt t 0)) := by
          refine ev_neg (by omega) (ev_neg (by omega) (ev_pos (by omega) ?_))
          rw [bt0]
          simp only [impl_isKind.f, within_eq, Option.bind_some, h3, Bool.not_true]
          refine Ev.step (f := fun k => (impl_unpack.f k (t.extract 4 t.size)).bind fun bt532 => (if bt532.2 = true then ((impl_seal.f k (bt t 0) bt532.1).bind fun t536 => (some (bt t 0, bt532.1, (t536.toList == t.toList)))) else (some (bt t 0, bt532.1, false)))) (fun k => ?_) ?_
          · simp only [impl_opened.j0, Bool.false_eq_true, if_false, bt0]; rw [if_pos (by omega)]
            congr 1; funext b; rw [if_pos (by omega)]
          · refine ev_bind (impl_unpack_ev _ (by rw [ext_size]; omega)) ?_
            show Ev (fun n => if (decide ((t.extract 4 t.size).size % 4 = 0) && intsOK (recNums t)) = true then ((impl_seal.f n (bt t 0) ((recNums t).take 17)).bind fun t536 => (some (bt t 0, (recNums t).take 17, (t536.toList == t.toList)))) else some (bt t 0, (recNums t).take 17, false)) _
            rw [hL]
            by_cases h4 : (t.extract 4 t.size).size % 4 = 0 ∧ intsOK (recNums t) = true
            · have hl : (recNums t).length ≤ 16 := by
                have := h4.2
                simp only [intsOK, Bool.and_eq_true, decide_eq_true_eq] at this
                omega
              have ht17 : (recNums t).take 17 = recNums t := List.take_of_length_le (by omega)
              refine ev_pos (by simp only [h4.1, h4.2, decide_true, Bool.and_self]) ?_
              rw [ht17]
              refine ev_bind (impl_seal_ev (bt t 0) _ (by omega)) ?_
              have e : (((sealP (bt t 0) (recNums t)).toList == t.toList) : Bool) = bodyOK t (bt t 0) := by
                rw [Bool.eq_iff_iff, bodyOK_iff]; simp only [beq_iff_eq, toList_inj]
                exact ⟨fun h => ⟨h4.1, h4.2, h⟩, fun h => h.2.2⟩
              rw [e]
              exact ev_some _
            · refine ev_neg (by simp only [Bool.and_eq_true, decide_eq_true_eq]; exact h4) ?_
              have : bodyOK t (bt t 0) = false := by
                cases hb : bodyOK t (bt t 0) with
                | false => rfl
                | true => have := bodyOK_iff.1 hb; exact absurd ⟨this.1, this.2.1⟩ h4
              rw [this]
              exact ev_some _
        refine ev_bind hO ?_
        show Ev (fun n => if bodyOK t (bt t 0) = true then some (openL t, bt t 0 == kind) else some (openL t, false)) _
        by_cases h5 : bodyOK t (bt t 0) = true
        · refine ev_pos h5 ?_
          by_cases h6 : bt t 0 = kind
          · have hr : recOK t kind = true := recOK_iff.2 ⟨by omega, h6, by rw [← h6]; exact h3, by rw [← h6]; exact bodyOK_iff.1 h5⟩
            rw [hr]
            simp only [h6, beq_self_eq_true]
            exact ev_some _
          · rw [recOK_no (fun h => h6 h.2.1)]
            have : (bt t 0 == kind) = false := by simp [h6]
            rw [this]
            exact ev_some _
        · refine ev_neg h5 ?_
          rw [recOK_no (fun h => h5 (bodyOK_iff.2 (by have := h.2.2.2; rw [← h.2.1] at this; exact this)))]
          exact ev_some _
      · have h3' : inB (bt t 0) 1 9 = false := by simpa using h3
        refine hbad _ (by simp [openL, h3']) (recOK_no (fun h => h3 (by have := h.2.2.1; rw [← h.2.1] at this; exact this))) (ev_neg (by omega) (ev_neg (by omega) (ev_pos (by omega) ?_)))
        rw [bt0]
        simp only [impl_isKind.f, within_eq, Option.bind_some, h3', Bool.not_false]
        exact Ev.step (f := fun _ => some (0, [], false)) (fun k => by simp [impl_opened.j0]) (ev_some _)
/-! ### First -/
theorem first1 (b : Bool) (c : Int) : impl_first.f [Any.b b, Any.n c] = some (if b = true then c else 0) := by
  unfold impl_first.f; cases b <;> simp [firstO]
theorem first2 (b b' : Bool) (c c' : Int) : impl_first.f [Any.b b, Any.n c, Any.b b', Any.n c'] = some (if b = true then c else if b' = true then c' else 0) := by
  unfold impl_first.f; cases b <;> cases b' <;> simp [firstO]
theorem first3 (b b' b'' : Bool) (c c' c'' : Int) : impl_first.f [Any.b b, Any.n c, Any.b b', Any.n c', Any.b b'', Any.n c''] = some (if b = true then c else if b' = true then c' else if b'' = true then c'' else 0) := by
  unfold impl_first.f; cases b <;> cases b' <;> cases b'' <;> simp [firstO]
theorem first4 (b b' b'' b3 : Bool) (c c' c'' c3 : Int) : impl_first.f [Any.b b, Any.n c, Any.b b', Any.n c', Any.b b'', Any.n c'', Any.b b3, Any.n c3] = some (if b = true then c else if b' = true then c' else if b'' = true then c'' else if b3 = true then c3 else 0) := by
  unfold impl_first.f; cases b <;> cases b' <;> cases b'' <;> cases b3 <;> simp [firstO]
theorem isLongText_eq (t : ByteArray) : impl_isLongText.f t = some (decide ((t.size : Int) > 65536)) := by unfold impl_isLongText.f; rfl
/-! ### Trip -/
theorem packP_get? (l : List Int) : ∀ j c, c < 4 → (packP l)[4 * j + c]? = (l[j]?).bind (fun x => (quad x)[c]?) := by
  induction l with
  | nil => intro j c _; simp [packP]
  | cons x xs ih =>
    intro j c hc
    have e : packP (x :: xs) = quad x ++ packP xs := rfl
    have hq : (quad x).length = 4 := rfl
    rw [e]
    cases j with
    | zero => rw [List.getElem?_append_left (by rw [hq]; omega)]; simp
    | succ j =>
      rw [List.getElem?_append_right (by rw [hq]; omega), hq, show 4 * (j + 1) + c - 4 = 4 * j + c by omega, ih j c hc]
      simp
theorem quad_range (n : Int) : ∀ y ∈ quad n, 0 ≤ y ∧ y < 256 := by
  intro y hy
  simp only [quad, List.mem_cons, List.not_mem_nil, or_false] at hy
  rcases hy with rfl | rfl | rfl | rfl <;> omega
theorem packP_range (l : List Int) : ∀ y ∈ packP l, 0 ≤ y ∧ y < 256 := by
  intro y hy
  simp only [packP, List.mem_flatMap] at hy
  obtain ⟨x, _, hx⟩ := hy
  exact quad_range x y hx
theorem bt_str (l : List Int) (i : Nat) (y : Int) (h : l[i]? = some y) (h0 : 0 ≤ y) (h1 : y < 256) : bt (strOfNums l) (i : Int) = y := by
  obtain ⟨hi, rfl⟩ := List.getElem?_eq_some_iff.1 h
  have hs : ((i : Int)).toNat < (strOfNums l).size := by rw [strOfNums_size]; simpa using hi
  unfold bt
  rw [dif_pos hs]
  have : ((strOfNums l)[((i : Int)).toNat]'hs) = UInt8.ofNat (l[i]).toNat := by
    show (List.map _ l).toArray[((i : Int)).toNat] = _
    simp
  rw [this]
  simp only [UInt8.toNat_ofNat']
  omega
theorem numAt_pack (l : List Int) (j : Nat) (hj : j < l.length) (h0 : 0 ≤ l[j]) (h1 : l[j] < 4294967296) : numAt (strOfNums (packP l)) (4 * j) = l[j] := by
  have g : ∀ c, c < 4 → (packP l)[4 * j + c]? = (quad l[j])[c]? := by
    intro c hc; rw [packP_get? l j c hc, List.getElem?_eq_getElem hj]; rfl
  have b : ∀ c y, c < 4 → (quad l[j])[c]? = some y → bt (strOfNums (packP l)) ((4 * j + c : Nat) : Int) = y := by
    intro c y hc hy
    have hr := quad_range l[j] y (List.mem_of_getElem? hy)
    exact bt_str _ _ _ ((g c hc).trans hy) hr.1 hr.2
  unfold numAt
  have b0 := b 0 _ (by omega) (show (quad l[j])[0]? = some (l[j] % 256) from rfl)
  have b1 := b 1 _ (by omega) (show (quad l[j])[1]? = some (l[j] / 256 % 256) from rfl)
  have b2 := b 2 _ (by omega) (show (quad l[j])[2]? = some (l[j] / 65536 % 256) from rfl)
  have b3 := b 3 _ (by omega) (show (quad l[j])[3]? = some (l[j] / 16777216 % 256) from rfl)
  rw [Nat.add_zero] at b0
  rw [b0, b1, b2, b3]
  omega
theorem numsP_pack (l : List Int) (h : ∀ x ∈ l, 0 ≤ x ∧ x < 4294967296) : numsP (strOfNums (packP l)) = l := by
  have hs : (strOfNums (packP l)).size / 4 = l.length := by rw [strOfNums_size, packP_length]; omega
  refine List.ext_getElem (by rw [numsP_length, hs]) (fun i h1 h2 => ?_)
  simp only [numsP, List.getElem_map, List.getElem_range]
  exact numAt_pack l i h2 (h _ (List.getElem_mem h2)).1 (h _ (List.getElem_mem h2)).2
theorem recNums_seal (kind : Int) (l : List Int) (h : ∀ x ∈ l, 0 ≤ x ∧ x < 4294967296) : recNums (sealP kind l) = l := by
  have e : (sealP kind l).extract 4 (sealP kind l).size = strOfNums (packP l) := by
    unfold sealP
    rw [ByteArray.extract_append_eq_right]
    · simp [headP_size, strOfNums_size]
    · simp
  unfold recNums; rw [e]; exact numsP_pack l h
theorem bt_app (a b : ByteArray) (i : Nat) (h : i < a.size) : bt (a ++ b) (i : Int) = bt a (i : Int) := by
  have h1 : ((i : Int)).toNat < (a ++ b).size := by rw [ba_size_append]; omega
  have h2 : ((i : Int)).toNat < a.size := by omega
  unfold bt
  rw [dif_pos h1, dif_pos h2, ByteArray.getElem_append_left h2]
theorem bt_take (t : ByteArray) (n i : Nat) (h : i < n) (hn : n ≤ t.size) : bt (t.extract 0 n) (i : Int) = bt t (i : Int) := by
  have h1 : ((i : Int)).toNat < (t.extract 0 n).size := by rw [ByteArray.size_extract]; omega
  have h2 : ((i : Int)).toNat < t.size := by omega
  unfold bt
  rw [dif_pos h1, dif_pos h2, ByteArray.getElem_extract]
  simp only [Nat.zero_add]
theorem bt_head0 (kind : Int) (l : List Int) (h0 : 0 ≤ kind) (h1 : kind < 256) : bt (sealP kind l) 0 = kind := by
  have : bt (sealP kind l) ((0 : Nat) : Int) = bt (headP kind l) ((0 : Nat) : Int) := by
    unfold sealP; rw [bt_app _ _ 0 (by simp [headP_size, strOfNums_size]), bt_app _ _ 0 (by simp [headP_size])]
  rw [show (0 : Int) = ((0 : Nat) : Int) from rfl, this]
  unfold headP
  rw [bt_str _ 0 (kind % 256) rfl (by omega) (by omega)]; omega
theorem bt_head1 (kind : Int) (l : List Int) : bt (sealP kind l) 1 = (l.length : Int) % 256 := by
  have : bt (sealP kind l) ((1 : Nat) : Int) = bt (headP kind l) ((1 : Nat) : Int) := by
    unfold sealP; rw [bt_app _ _ 1 (by simp [headP_size, strOfNums_size]), bt_app _ _ 1 (by simp [headP_size])]
  rw [show (1 : Int) = ((1 : Nat) : Int) from rfl, this]
  unfold headP
  exact bt_str _ 1 _ rfl (by omega) (by omega)
theorem intsOK_of (l : List Int) (hl : l.length ≤ 16) (h : ∀ x ∈ l, 0 ≤ x ∧ x ≤ 2147483647) : intsOK l = true := by
  unfold intsOK
  rw [Bool.and_eq_true, List.all_eq_true]
  exact ⟨fun x hx => inB_iff.2 (h x hx), decide_eq_true (by omega)⟩
theorem recOK_seal (kind : Int) (l : List Int) (hk : inB kind 1 9 = true) (hl : l.length ≤ 16) (h : ∀ x ∈ l, 0 ≤ x ∧ x ≤ 2147483647) : recOK (sealP kind l) kind = true := by
  have hr := recNums_seal kind l (fun x hx => ⟨(h x hx).1, by have := (h x hx).2; omega⟩)
  have hk' := inB_iff.1 hk
  refine recOK_iff.2 ⟨by rw [sealP_size]; omega, bt_head0 kind l (by omega) (by omega), hk, ?_, by rw [hr]; exact intsOK_of l hl h, by rw [hr]⟩
  rw [ext_size, sealP_size]; omega
theorem recOK_cut (kind : Int) (l : List Int) (n : Nat) (hl : l.length ≤ 16) (hn : n < (sealP kind l).size) (kind' : Int) : recOK ((sealP kind l).extract 0 n) kind' = false := by
  refine recOK_no (fun hc => ?_)
  obtain ⟨h4, _, _, _, _, hs⟩ := hc
  have hz : ((sealP kind l).extract 0 n).size = n := by rw [ByteArray.size_extract]; omega
  rw [hz] at h4
  have h1 := bt_take (sealP kind l) n 1 (by omega) (by omega)
  have e1 : bt (sealP kind l) ((1 : Nat) : Int) = (l.length : Int) % 256 := bt_head1 kind l
  rw [e1] at h1
  have e2 := congrArg ByteArray.size hs
  rw [hz, sealP_size] at e2
  rw [sealP_size] at hn
  have e3 : bt (sealP kind' (recNums ((sealP kind l).extract 0 n))) ((1 : Nat) : Int) = _ := bt_head1 _ _
  rw [hs, h1] at e3
  omega
/-! ### RefsD -/
def dv (n : Int) : Int := wrap64 (Int.tdiv n 16)
def six (n : Int) : List Int := [Int.tmod n 16, Int.tmod (dv n) 16, Int.tmod (dv (dv n)) 16, Int.tmod (dv (dv (dv n))) 16, Int.tmod (dv (dv (dv (dv n)))) 16, Int.tmod (dv (dv (dv (dv (dv n))))) 16]
def rest6 (n : Int) : Int := dv (dv (dv (dv (dv (dv n)))))
def fits (n : Int) : Bool := !decide (rest6 n > 0)
def refsP (l : List Int) : List Int × Bool := if l.all fits = true then (l.flatMap six, true) else ([], false)
theorem sx_len (l : List Int) : (l.flatMap six).length = 6 * l.length := by
  induction l with
  | nil => rfl
  | cons x xs ih => simp only [List.flatMap_cons, List.length_append, ih, List.length_cons]; simp [six]; omega
theorem wlit (i : Int) (h0 : 0 ≤ i) (h : i < 100) : wrap64 (i + 1) = i + 1 := by rw [w64 (by omega) (by omega)]
theorem impl_six (l out : List Int) (m i : Int) (n : Int) (h : out.length + 6 < 17592186044416) (k : Nat) (hk : 7 ≤ k) :
    impl_refsOf.l1 k out n l m i 0 = if rest6 n > 0 then some ([], false) else impl_refsOf.l0 (k - 7) (out ++ six n) l m (wrap64 (i + 1)) := by
  obtain ⟨k, rfl⟩ : ∃ m, k = m + 7 := ⟨k - 7, by omega⟩
  simp only [impl_refsOf.l1, wlit 0 (by omega) (by omega), wlit (0 + 1) (by omega) (by omega), wlit (0 + 1 + 1) (by omega) (by omega), wlit (0 + 1 + 1 + 1) (by omega) (by omega), wlit (0 + 1 + 1 + 1 + 1) (by omega) (by omega), wlit (0 + 1 + 1 + 1 + 1 + 1) (by omega) (by omega), List.length_append, List.length_cons, List.length_nil]
  rw [if_pos (by omega), if_pos (by omega), if_pos (by omega), if_pos (by omega), if_pos (by omega), if_pos (by omega), if_pos (by omega), if_pos (by omega), if_pos (by omega), if_pos (by omega), if_pos (by omega), if_pos (by omega), if_neg (by omega)]
  simp only [List.append_assoc, List.cons_append, List.nil_append]
  rfl
theorem impl_refs_from (l : List Int) (hl : l.length ≤ 1000000) (d : Nat) : ∀ (i : Nat), i ≤ l.length → l.length - i = d → (l.take i).all fits = true →
    Ev (fun k => impl_refsOf.l0 k ((l.take i).flatMap six) l (l.length : Int) (i : Int)) (refsP l) := by
  induction d with
  | zero =>
    intro i hi hd ha
    have e : l.take i = l := List.take_of_length_le (by omega)
    rw [e] at ha ⊢
    refine Ev.step (f := fun _ => some (l.flatMap six, true)) (fun k => ?_) ?_
    · simp only [impl_refsOf.l0]; rw [if_neg (by omega)]
    · unfold refsP; rw [if_pos ha]; exact ev_some _
  | succ d ih =>
    intro i hi hd ha
    have hlt : i < l.length := by omega
    have hs := sx_len (l.take i)
    have hti : (l.take i).length = i := by rw [List.length_take]; omega
    have hk : ∀ k, 8 ≤ k → impl_refsOf.l0 k ((l.take i).flatMap six) l (l.length : Int) (i : Int) = if rest6 l[i] > 0 then some ([], false) else impl_refsOf.l0 (k - 8) ((l.take (i + 1)).flatMap six) l (l.length : Int) ((i + 1 : Nat) : Int) := by
      intro k hk
      obtain ⟨k, rfl⟩ : ∃ m, k = m + 1 := ⟨k - 1, by omega⟩
      simp only [impl_refsOf.l0]
      rw [if_pos (by omega), if_pos (by omega), if_pos (by omega), impl_six _ _ _ _ _ (by omega) _ (by omega), rdn l i hlt, wnext i (by omega), List.take_succ_eq_append_getElem hlt, List.flatMap_append]
      simp
    by_cases hf : rest6 l[i] > 0
    · have : refsP l = ([], false) := by
        unfold refsP; rw [if_neg]; intro h
        have := List.all_eq_true.1 h l[i] (List.getElem_mem hlt)
        simp [fits] at this; omega
      rw [this]
      exact ⟨8, fun k h8 => by show impl_refsOf.l0 k _ _ _ _ = _; rw [hk k h8, if_pos hf]⟩
    · obtain ⟨K, hK⟩ := ih (i + 1) (by omega) (by omega) (by rw [List.take_succ_eq_append_getElem hlt, List.all_append, ha]; simp [fits]; omega)
      refine ⟨K + 8, fun k h8 => ?_⟩
      show impl_refsOf.l0 k _ _ _ _ = _
      rw [hk k (by omega), if_neg hf]; exact hK (k - 8) (by omega)
def refsAt (t : ByteArray) : List Int × Bool := if recOK t 2 = true ∧ (recNums t).length = 4 then refsP (recNums t) else ([], false)
theorem impl_refsOf_ev (t : ByteArray) (ht : t.size ≤ 1000000000) : Ev (fun k => impl_refsOf.f k t) (refsAt t) := by
  unfold impl_refsOf.f refsAt
  refine ev_bind (impl_open_ev t 2 ht) ?_
  by_cases h1 : recOK t 2 = true
  · simp only [h1, if_true, recOK_openL h1]
    by_cases h2 : (recNums t).length = 4
    · have e : (((recNums t).length : Int) != 4) = false := by simp [h2]
      rw [if_pos ⟨trivial, h2⟩]
      simp only [e]
      refine Ev.step (f := fun k => impl_refsOf.l0 k ([] : List Int) (recNums t) ((recNums t).length : Int) 0) (fun k => by simp only [impl_refsOf.j0, Bool.false_eq_true, if_false]) ?_
      have := impl_refs_from (recNums t) (by omega) 4 0 (by omega) (by omega) (by simp)
      simpa using this
    · have e : (((recNums t).length : Int) != 4) = true := by simp; omega
      rw [if_neg (fun h => h2 h.2)]
      simp only [e]
      exact Ev.step (f := fun _ => some ([], false)) (fun k => by simp [impl_refsOf.j0]) (ev_some _)
  · have h1' : recOK t 2 = false := by simpa using h1
    rw [if_neg (fun h => h1 h.1)]
    simp only [h1', Bool.false_eq_true, if_false]
    exact Ev.step (f := fun _ => some ([], false)) (fun k => by simp [impl_refsOf.j0]) (ev_some _)
theorem refsAt_len (t : ByteArray) : (refsAt t).1.length ≤ 24 := by
  unfold refsAt refsP
  split
  · rename_i h
    split
    · show ((recNums t).flatMap six).length ≤ 24; rw [sx_len]; omega
    · simp
  · simp
/-! ### RefsE -/
theorem refs_in {l : List Int} (h : refsOK l = true) : ∀ x ∈ l, 0 ≤ x ∧ x ≤ 15 := by
  unfold refsOK at h; rw [Bool.and_eq_true, List.all_eq_true] at h
  intro x hx
  have := h.1 x hx
  unfold inB at this
  simp only [Bool.and_eq_true, decide_eq_true_eq] at this
  exact this
theorem refs_of {l : List Int} (h : l.length = 24) (hx : ∀ x ∈ l, 0 ≤ x ∧ x ≤ 15) : refsOK l = true := by
  unfold refsOK; rw [Bool.and_eq_true, List.all_eq_true, beq_iff_eq]
  refine ⟨fun x hm => ?_, by omega⟩
  have := hx x hm
  unfold inB
  simp only [Bool.and_eq_true, decide_eq_true_eq]
  exact this
def stN (s v : Int) : Int := wrap64 (wrap64 (16 * s) + v)
def st6 (a b c d e f : Int) : Int := stN (stN (stN (stN (stN (stN 0 f) e) d) c) b) a
theorem stN_eq {s v : Int} (h0 : 0 ≤ s) (h1 : s ≤ 1000000000) (v0 : 0 ≤ v) (v1 : v ≤ 15) : stN s v = v + 16 * s := by
  unfold stN
  rw [w64 (n := 16 * s) (by omega) (by omega), w64 (by omega) (by omega)]; omega
theorem dv_of {q r : Int} (q0 : 0 ≤ q) (q1 : q ≤ 1000000000) (r0 : 0 ≤ r) (r1 : r ≤ 15) : dv (r + 16 * q) = q ∧ Int.tmod (r + 16 * q) 16 = r := by
  unfold dv
  rw [Int.tdiv_eq_ediv_of_nonneg (by omega), Int.tmod_eq_emod_of_nonneg (by omega)]
  rw [w64 (by omega) (by omega)]
  constructor <;> omega
theorem st6_eq {a b c d e f : Int} (ha : 0 ≤ a ∧ a ≤ 15) (hb : 0 ≤ b ∧ b ≤ 15) (hc : 0 ≤ c ∧ c ≤ 15) (hd : 0 ≤ d ∧ d ≤ 15) (he : 0 ≤ e ∧ e ≤ 15) (hf : 0 ≤ f ∧ f ≤ 15) :
    (0 ≤ st6 a b c d e f ∧ st6 a b c d e f ≤ 2147483647) ∧ fits (st6 a b c d e f) = true ∧ six (st6 a b c d e f) = [a, b, c, d, e, f] := by
  unfold st6
  rw [stN_eq (s := 0) (by omega) (by omega) hf.1 hf.2]
  rw [stN_eq (v := e) (by omega) (by omega) he.1 he.2, stN_eq (v := d) (by omega) (by omega) hd.1 hd.2, stN_eq (v := c) (by omega) (by omega) hc.1 hc.2, stN_eq (v := b) (by omega) (by omega) hb.1 hb.2, stN_eq (v := a) (by omega) (by omega) ha.1 ha.2]
  have f1 := dv_of (q := 0) (r := f) (by omega) (by omega) hf.1 hf.2
  have f2 := dv_of (q := f + 16 * 0) (r := e) (by omega) (by omega) he.1 he.2
  have f3 := dv_of (q := e + 16 * (f + 16 * 0)) (r := d) (by omega) (by omega) hd.1 hd.2
  have f4 := dv_of (q := d + 16 * (e + 16 * (f + 16 * 0))) (r := c) (by omega) (by omega) hc.1 hc.2
  have f5 := dv_of (q := c + 16 * (d + 16 * (e + 16 * (f + 16 * 0)))) (r := b) (by omega) (by omega) hb.1 hb.2
  have f6 := dv_of (q := b + 16 * (c + 16 * (d + 16 * (e + 16 * (f + 16 * 0))))) (r := a) (by omega) (by omega) ha.1 ha.2
  refine ⟨by omega, ?_, ?_⟩
  · unfold fits rest6
    rw [f6.1, f5.1, f4.1, f3.1, f2.1, f1.1]; rfl
  · unfold six
    rw [f6.1, f5.1, f4.1, f3.1, f2.1, f6.2, f5.2, f4.2, f3.2, f2.2, f1.2]
theorem list24 {l : List Int} (h : l.length = 24) : ∃ x0 x1 x2 x3 x4 x5 x6 x7 x8 x9 x10 x11 x12 x13 x14 x15 x16 x17 x18 x19 x20 x21 x22 x23 : Int, l = [x0, x1, x2, x3, x4, x5, x6, x7, x8, x9, x10, x11, x12, x13, x14, x15, x16, x17, x18, x19, x20, x21, x22, x23] := by
  match l, h with
  | [x0, x1, x2, x3, x4, x5, x6, x7, x8, x9, x10, x11, x12, x13, x14, x15, x16, x17, x18, x19, x20, x21, x22, x23], _ => exact ⟨_, _, _, _, _, _, _, _, _, _, _, _, _, _, _, _, _, _, _, _, _, _, _, _, rfl⟩
theorem pack_lit (x0 x1 x2 x3 x4 x5 x6 x7 x8 x9 x10 x11 x12 x13 x14 x15 x16 x17 x18 x19 x20 x21 x22 x23 : Int) : impl_refsText_pack [x0, x1, x2, x3, x4, x5, x6, x7, x8, x9, x10, x11, x12, x13, x14, x15, x16, x17, x18, x19, x20, x21, x22, x23] = [(st6 x0 x1 x2 x3 x4 x5), (st6 x6 x7 x8 x9 x10 x11), (st6 x12 x13 x14 x15 x16 x17), (st6 x18 x19 x20 x21 x22 x23)] := by kernel_rfl
theorem enc_lit (k : Nat) (x0 x1 x2 x3 x4 x5 x6 x7 x8 x9 x10 x11 x12 x13 x14 x15 x16 x17 x18 x19 x20 x21 x22 x23 : Int) : spec_l08Encode.f (k + 33) [x0, x1, x2, x3, x4, x5, x6, x7, x8, x9, x10, x11, x12, x13, x14, x15, x16, x17, x18, x19, x20, x21, x22, x23] = (spec_l02Seal.f k 2 [(st6 x0 x1 x2 x3 x4 x5), (st6 x6 x7 x8 x9 x10 x11), (st6 x12 x13 x14 x15 x16 x17), (st6 x18 x19 x20 x21 x22 x23)]).bind fun t => some t := by kernel_rfl
def four (l : List Int) : List Int := impl_refsText_pack l
theorem refs_text {l : List Int} (h : refsOK l = true) : Ev (fun k => impl_refsText.f k l) (sealP 2 (four l)) ∧ Ev (fun k => spec_l08Encode.f k l) (sealP 2 (four l)) ∧ refsAt (sealP 2 (four l)) = (l, true) ∧ (sealP 2 (four l)).size = 20 := by
  have hl := refs_len h
  have hin := refs_in h
  have h4 : (four l).length = 4 := rfl
  have hz : (sealP 2 (four l)).size = 20 := by rw [sealP_size, h4]
  obtain ⟨x0, x1, x2, x3, x4, x5, x6, x7, x8, x9, x10, x11, x12, x13, x14, x15, x16, x17, x18, x19, x20, x21, x22, x23, rfl⟩ := list24 hl
  have m0 : 0 ≤ x0 ∧ x0 ≤ 15 := hin x0 (by simp)
  have m1 : 0 ≤ x1 ∧ x1 ≤ 15 := hin x1 (by simp)
  have m2 : 0 ≤ x2 ∧ x2 ≤ 15 := hin x2 (by simp)
  have m3 : 0 ≤ x3 ∧ x3 ≤ 15 := hin x3 (by simp)
  have m4 : 0 ≤ x4 ∧ x4 ≤ 15 := hin x4 (by simp)
  have m5 : 0 ≤ x5 ∧ x5 ≤ 15 := hin x5 (by simp)
  have m6 : 0 ≤ x6 ∧ x6 ≤ 15 := hin x6 (by simp)
  have m7 : 0 ≤ x7 ∧ x7 ≤ 15 := hin x7 (by simp)
  have m8 : 0 ≤ x8 ∧ x8 ≤ 15 := hin x8 (by simp)
  have m9 : 0 ≤ x9 ∧ x9 ≤ 15 := hin x9 (by simp)
  have m10 : 0 ≤ x10 ∧ x10 ≤ 15 := hin x10 (by simp)
  have m11 : 0 ≤ x11 ∧ x11 ≤ 15 := hin x11 (by simp)
  have m12 : 0 ≤ x12 ∧ x12 ≤ 15 := hin x12 (by simp)
  have m13 : 0 ≤ x13 ∧ x13 ≤ 15 := hin x13 (by simp)
  have m14 : 0 ≤ x14 ∧ x14 ≤ 15 := hin x14 (by simp)
  have m15 : 0 ≤ x15 ∧ x15 ≤ 15 := hin x15 (by simp)
  have m16 : 0 ≤ x16 ∧ x16 ≤ 15 := hin x16 (by simp)
  have m17 : 0 ≤ x17 ∧ x17 ≤ 15 := hin x17 (by simp)
  have m18 : 0 ≤ x18 ∧ x18 ≤ 15 := hin x18 (by simp)
  have m19 : 0 ≤ x19 ∧ x19 ≤ 15 := hin x19 (by simp)
  have m20 : 0 ≤ x20 ∧ x20 ≤ 15 := hin x20 (by simp)
  have m21 : 0 ≤ x21 ∧ x21 ≤ 15 := hin x21 (by simp)
  have m22 : 0 ≤ x22 ∧ x22 ≤ 15 := hin x22 (by simp)
  have m23 : 0 ≤ x23 ∧ x23 ≤ 15 := hin x23 (by simp)
  have g0 := st6_eq m0 m1 m2 m3 m4 m5
  have g1 := st6_eq m6 m7 m8 m9 m10 m11
  have g2 := st6_eq m12 m13 m14 m15 m16 m17
  have g3 := st6_eq m18 m19 m20 m21 m22 m23
  have e4 : four [x0, x1, x2, x3, x4, x5, x6, x7, x8, x9, x10, x11, x12, x13, x14, x15, x16, x17, x18, x19, x20, x21, x22, x23] = [(st6 x0 x1 x2 x3 x4 x5), (st6 x6 x7 x8 x9 x10 x11), (st6 x12 x13 x14 x15 x16 x17), (st6 x18 x19 x20 x21 x22 x23)] := pack_lit x0 x1 x2 x3 x4 x5 x6 x7 x8 x9 x10 x11 x12 x13 x14 x15 x16 x17 x18 x19 x20 x21 x22 x23
  have hr : ∀ x ∈ [(st6 x0 x1 x2 x3 x4 x5), (st6 x6 x7 x8 x9 x10 x11), (st6 x12 x13 x14 x15 x16 x17), (st6 x18 x19 x20 x21 x22 x23)], 0 ≤ x ∧ x ≤ 2147483647 := by
    intro x hx
    simp only [List.mem_cons, List.not_mem_nil, or_false] at hx
    rcases hx with rfl | rfl | rfl | rfl
    · exact g0.1
    · exact g1.1
    · exact g2.1
    · exact g3.1
  refine ⟨?_, ?_, ?_, hz⟩
  · unfold impl_refsText.f
    exact ev_pos (by simp) (impl_seal_ev 2 _ (show 4 ≤ 1000000000 by omega))
  · rw [e4]
    obtain ⟨K, hK⟩ := spec_seal_ev 2 [(st6 x0 x1 x2 x3 x4 x5), (st6 x6 x7 x8 x9 x10 x11), (st6 x12 x13 x14 x15 x16 x17), (st6 x18 x19 x20 x21 x22 x23)] (show 4 ≤ 1000000000 by omega)
    refine ⟨K + 33, fun k hk => ?_⟩
    obtain ⟨m, rfl⟩ : ∃ m, k = m + 33 := ⟨k - 33, by omega⟩
    show spec_l08Encode.f (m + 33) _ = _
    rw [enc_lit, show spec_l02Seal.f m 2 _ = _ from hK m (by omega)]; rfl
  · unfold refsAt
    rw [e4, recNums_seal 2 _ (fun x hx => ⟨(hr x hx).1, by have := (hr x hx).2; omega⟩), recOK_seal 2 _ rfl (by simp) hr, if_pos ⟨rfl, rfl⟩]
    unfold refsP
    rw [if_pos (by simp only [List.all_cons, List.all_nil, g0.2.1, g1.2.1, g2.2.1, g3.2.1, Bool.and_self])]
    simp only [List.flatMap_cons, List.flatMap_nil, g0.2.2, g1.2.2, g2.2.2, g3.2.2, List.cons_append, List.nil_append]
/-! ### Src -/
def srcOK (at_ seed : Int) (n : Nat) : Prop := 0 ≤ at_ ∧ at_ ≤ (n : Int) ∧ 0 ≤ seed ∧ seed < 2147483648
theorem rd_byte (l : List Int) (h : ∀ x ∈ l, 0 ≤ x ∧ x ≤ 255) (i : Int) : 0 ≤ rd l i ∧ rd l i ≤ 255 := by
  unfold rd
  by_cases hi : i.toNat < l.length
  · have : l.getD i.toNat 0 = l[i.toNat] := by simp [hi]
    rw [this]; exact h _ (List.getElem_mem hi)
  · have : l.getD i.toNat 0 = 0 := by simp [hi]
    rw [this]; omega
theorem byte_ok (l : List Int) (h : ∀ x ∈ l, 0 ≤ x ∧ x ≤ 255) (at_ seed : Int) (n : Nat) (hs : srcOK at_ seed n) (hn : n ≤ 1000000000000) :
    ∃ r a s, spec_l00Src_byte.f l at_ seed = some (r, a, s) ∧ 0 ≤ r ∧ r ≤ 255 ∧ srcOK a s (n + 1) := by
  obtain ⟨h0, h1, h2, h3⟩ := hs
  unfold spec_l00Src_byte.f
  have e1 : wrap64 (at_ + 1) = at_ + 1 := w64 (by omega) (by omega)
  have e2 : wrap64 (at_ + 1 - 1) = at_ := by rw [w64 (by omega) (by omega)]; omega
  rw [e1, e2]
  by_cases c1 : at_ + 1 ≤ (l.length : Int)
  · rw [if_pos c1, if_pos h0, if_pos (by omega)]
    have hb := rd_byte l h at_
    generalize rd l at_ = v at hb ⊢
    have e3 : wrap64 v = v := w64 (by omega) (by omega)
    have e4 : wrap64 (seed * 31) = seed * 31 := w64 (by omega) (by omega)
    rw [e3, e4]
    have e5 : wrap64 (seed * 31 + v) = seed * 31 + v := w64 (by omega) (by omega)
    rw [e5]
    have e6 : wrap64 (seed * 31 + v + 7) = seed * 31 + v + 7 := w64 (by omega) (by omega)
    rw [e6]
    refine ⟨_, _, _, rfl, hb.1, hb.2, by omega, by omega, ?_, ?_⟩
    · rw [Int.tmod_eq_emod_of_nonneg (by omega)]; omega
    · rw [Int.tmod_eq_emod_of_nonneg (by omega)]; omega
  · rw [if_neg c1]
    by_cases c2 : at_ + 1 > 3000
    · rw [if_pos c2]; exact ⟨_, _, _, rfl, by omega, by omega, by omega, by omega, h2, h3⟩
    · rw [if_neg c2]
      have e4 : wrap64 (seed * 1103515245) = seed * 1103515245 := w64 (by omega) (by omega)
      rw [e4]
      have e6 : wrap64 (seed * 1103515245 + 12345) = seed * 1103515245 + 12345 := w64 (by omega) (by omega)
      rw [e6, Int.tmod_eq_emod_of_nonneg (by omega : 0 ≤ seed * 1103515245 + 12345)]
      have hq0 : 0 ≤ (seed * 1103515245 + 12345) % 2147483648 := by omega
      have hq1 : (seed * 1103515245 + 12345) % 2147483648 < 2147483648 := by omega
      generalize (seed * 1103515245 + 12345) % 2147483648 = q at hq0 hq1 ⊢
      rw [Int.tdiv_eq_ediv_of_nonneg hq0]
      have e7 : wrap64 (q / 65536) = q / 65536 := w64 (by omega) (by omega)
      rw [e7, Int.tmod_eq_emod_of_nonneg (by omega)]
      exact ⟨_, _, _, rfl, by omega, by omega, by omega, by omega, hq0, hq1⟩
theorem srcOK_mono {a s : Int} {n m : Nat} (h : srcOK a s n) (hm : n ≤ m) : srcOK a s m := ⟨h.1, by have := h.2.1; omega, h.2.2.1, h.2.2.2⟩
theorem tmod_range {x n : Int} (h0 : 0 ≤ x) (hn : 0 < n) : 0 ≤ Int.tmod x n ∧ Int.tmod x n < n := by
  rw [Int.tmod_eq_emod_of_nonneg h0]; exact ⟨Int.emod_nonneg _ (by omega), Int.emod_lt_of_pos _ hn⟩
theorem next_ok (l : List Int) (h : ∀ x ∈ l, 0 ≤ x ∧ x ≤ 255) (at_ seed : Int) (n : Nat) (hs : srcOK at_ seed n) (hn : n ≤ 100000000000) (m : Int) :
    ∃ r a s, spec_l00Src_next.f l at_ seed m = some (r, a, s) ∧ 0 ≤ r ∧ (m ≤ 1 → r = 0) ∧ (1 ≤ m → r < m) ∧ srcOK a s (n + 3) := by
  unfold spec_l00Src_next.f
  by_cases c1 : m ≤ 1
  · rw [if_pos c1]; exact ⟨_, _, _, rfl, by omega, fun _ => rfl, fun _ => by omega, srcOK_mono hs (by omega)⟩
  · rw [if_neg c1]
    obtain ⟨r, a, s, e, r0, r1, ho⟩ := byte_ok l h at_ seed n hs (by omega)
    by_cases c2 : m ≤ 256
    · rw [if_pos c2, e, Option.bind_some, if_neg (by omega)]
      have := tmod_range r0 (show 0 < m by omega)
      exact ⟨_, _, _, rfl, this.1, fun h => absurd h c1, fun _ => this.2, srcOK_mono ho (by omega)⟩
    · rw [if_neg c2, e, Option.bind_some]
      obtain ⟨r', a', s', e', r0', r1', ho'⟩ := byte_ok l h a s (n + 1) ho (by omega)
      rw [e', Option.bind_some]
      obtain ⟨r'', a'', s'', e'', r0'', r1'', ho''⟩ := byte_ok l h a' s' (n + 2) ho' (by omega)
      rw [e'', Option.bind_some, if_neg (by omega)]
      dsimp only
      have x1 : wrap64 (r * 65536) = r * 65536 := w64 (by omega) (by omega)
      have x2 : wrap64 (r' * 256) = r' * 256 := w64 (by omega) (by omega)
      rw [x1, x2]
      have x3 : wrap64 (r * 65536 + r' * 256) = r * 65536 + r' * 256 := w64 (by omega) (by omega)
      rw [x3]
      have x4 : wrap64 (r * 65536 + r' * 256 + r'') = r * 65536 + r' * 256 + r'' := w64 (by omega) (by omega)
      rw [x4]
      have := tmod_range (show 0 ≤ r * 65536 + r' * 256 + r'' by omega) (show 0 < m by omega)
      exact ⟨_, _, _, rfl, this.1, fun h => absurd h c1, fun _ => this.2, ho''⟩
theorem source_ok (l : List Int) : srcOK 0 ((l.length : Int) % 1000) 0 := ⟨by omega, by omega, by omega, by omega⟩
theorem bytes_of {l : List Int} (h : ∀ x ∈ l, (Lit.int .u8 x).wf = true) : ∀ x ∈ l, 0 ≤ x ∧ x ≤ 255 := by
  intro x hx
  have := h x hx
  simp [Lit.wf, IntKind.min, IntKind.max, IntKind.signed, IntKind.bits] at this
  omega
/-! ### At -/
theorem at_ok (l : List Int) (h : ∀ x ∈ l, 0 ≤ x ∧ x ≤ 255) (i : Int) (hi0 : 0 ≤ i) (hi : i ≤ 1000000) (n : Int) : ∃ r, laws_at.f l i n = some r ∧ 0 ≤ r ∧ (n ≤ 1 → r = 0) ∧ (1 ≤ n → r < n) := by
  unfold laws_at.f
  by_cases c1 : n ≤ 1
  · rw [if_pos c1]; exact ⟨0, rfl, by omega, fun _ => rfl, fun _ => by omega⟩
  · rw [if_neg c1]
    by_cases c2 : (l.length : Int) = 0
    · rw [if_pos c2, if_neg (by omega)]
      have x1 : wrap64 (i * 7) = i * 7 := w64 (by omega) (by omega)
      rw [x1]
      have := tmod_range (show 0 ≤ i * 7 by omega) (show 0 < n by omega)
      exact ⟨_, rfl, this.1, fun h => absurd h c1, fun _ => this.2⟩
    · rw [if_neg c2]
      have x1 : wrap64 (i + 1) = i + 1 := w64 (by omega) (by omega)
      rw [x1]
      have m1 := tmod_range hi0 (show 0 < (l.length : Int) by omega)
      have m2 := tmod_range (show 0 ≤ i + 1 by omega) (show 0 < (l.length : Int) by omega)
      rw [if_pos m1.1, if_pos m1.2, if_pos m2.1, if_pos m2.2, if_neg (by omega)]
      have b1 := rd_byte l h (Int.tmod i (l.length : Int))
      have b2 := rd_byte l h (Int.tmod (i + 1) (l.length : Int))
      generalize rd l (Int.tmod i (l.length : Int)) = u at b1 ⊢
      generalize rd l (Int.tmod (i + 1) (l.length : Int)) = v at b2 ⊢
      have d0 : 0 ≤ Int.tdiv i (l.length : Int) := by rw [Int.tdiv_eq_ediv_of_nonneg hi0]; exact Int.ediv_nonneg hi0 (by omega)
      have d1 : Int.tdiv i (l.length : Int) ≤ i := by rw [Int.tdiv_eq_ediv_of_nonneg hi0]; exact Int.ediv_le_self _ hi0
      generalize Int.tdiv i (l.length : Int) = q at d0 d1 ⊢
      have y1 : wrap64 u = u := w64 (by omega) (by omega)
      have y2 : wrap64 v = v := w64 (by omega) (by omega)
      have y3 : wrap64 q = q := w64 (by omega) (by omega)
      have y4 : wrap64 (u * 31) = u * 31 := w64 (by omega) (by omega)
      rw [y1, y2, y3, y4]
      have y5 : wrap64 (u * 31 + v) = u * 31 + v := w64 (by omega) (by omega)
      rw [y5]
      have y6 : wrap64 (u * 31 + v + q) = u * 31 + v + q := w64 (by omega) (by omega)
      rw [y6]
      have := tmod_range (show 0 ≤ u * 31 + v + q by omega) (show 0 < n by omega)
      exact ⟨_, rfl, this.1, fun h => absurd h c1, fun _ => this.2⟩
end Go.Proofs.Ytajflpcihblkfaa.Q
