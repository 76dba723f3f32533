/- Plain laws of the codec: both packs are one, both sums are one, both seals are one. -/
import Derived.Test.YtofobhhbhicfaaaQ5
import Derived.Test.YtofobhhbhicfaaaQ6
import Derived.Test.YtofobhhbhicfaaaUBase
import Derived.Test.YtofobhhbhicfaaaExt
namespace Go.Proofs.Ytofobhhbhicfaaa.Q
open Go.RowKit Go.Proofs.Ytofobhhbhicfaaa.Ext Go.Proofs.YtofobhhbhicfaaaW.PrintWords Go.Proofs.YtofobhhbhicfaaaW.PrintLast Go.Proofs.YtofobhhbhicfaaaW.PrintMore
set_option linter.unusedVariables false
set_option linter.unusedSimpArgs false
/-- The bytes of a number. -/
def quad (n : Int) : List Int := [n % 256, n / 256 % 256, n / 65536 % 256, n / 16777216 % 256]
def packP (l : List Int) : List Int := l.flatMap quad
theorem packP_length (l : List Int) : (packP l).length = 4 * l.length := by
  induction l with
  | nil => rfl
  | cons x xs ih => simp only [packP, List.flatMap_cons, List.length_append] at ih ⊢; rw [ih]; simp [quad]; omega
theorem packP_snoc (l : List Int) (x : Int) : packP (l ++ [x]) = packP l ++ quad x := by simp [packP]
theorem rd_eq (l : List Int) (i : Nat) (h : i < l.length) : rd l (i : Int) = l[i] := by simp [rd, h]
theorem take_next {α : Type} (l : List α) (i : Nat) (h : i < l.length) : l.take (i + 1) = l.take i ++ [l[i]] := by
  rw [List.take_succ_eq_append_getElem h]
theorem spec_pack_in (l out : List Int) (i : Nat) (n : Int) (h : out.length + 4 < 140737488355328) (k : Nat) (hk : 5 ≤ k) :
    spec_l02Pack.l1 k l out i n 0 = spec_l02Pack.l0 (k - 5) l (out ++ quad n) (wrap64 ((i : Int) + 1)) := by
  obtain ⟨k, rfl⟩ : ∃ m, k = m + 5 := ⟨k - 5, by omega⟩
  have e1 : wrap64 (0 + 1) = 1 := by rw [w64 (by omega) (by omega)]; omega
  have e2 : wrap64 (1 + 1) = 2 := by rw [w64 (by omega) (by omega)]; omega
  have e3 : wrap64 (2 + 1) = 3 := by rw [w64 (by omega) (by omega)]; omega
  have e4 : wrap64 (3 + 1) = 4 := by rw [w64 (by omega) (by omega)]; omega
  simp only [spec_l02Pack.l1, e1, e2, e3, e4, List.length_append, List.length_cons, List.length_nil]
  rw [if_pos (by omega), if_pos (by omega), if_pos (by omega), if_pos (by omega), if_pos (by omega), if_pos (by omega), if_pos (by omega), if_pos (by omega), if_neg (by omega)]
  simp only [quad, Nat.add_sub_cancel, List.append_assoc, List.cons_append, List.nil_append]
  rw [Int.ediv_ediv_of_nonneg (by omega), Int.ediv_ediv_of_nonneg (by omega)]
  rfl
theorem spec_pack_from (l : List Int) (hl : l.length ≤ 1000000000) (d : Nat) : ∀ (k i : Nat), i ≤ l.length → l.length - i = d → 6 * d < k →
    spec_l02Pack.l0 k l (packP (l.take i)) i = some (strOfNums (packP l)) := by
  induction d with
  | zero =>
    intro k i hi hd hk
    obtain ⟨k, rfl⟩ : ∃ m, k = m + 1 := ⟨k - 1, by omega⟩
    simp only [spec_l02Pack.l0]
    rw [if_neg (by omega), List.take_of_length_le (by omega)]
  | succ d ih =>
    intro k i hi hd hk
    obtain ⟨k, rfl⟩ : ∃ m, k = m + 1 := ⟨k - 1, by omega⟩
    have hlt : i < l.length := by omega
    have hp := packP_length (l.take i)
    have hl2 : (l.take i).length ≤ i := List.length_take_le _ _
    simp only [spec_l02Pack.l0]
    rw [if_pos (by omega), if_pos (by omega), spec_pack_in _ _ _ _ (by omega) _ (by omega), rd_eq l i hlt, ← packP_snoc, ← take_next l i hlt, w64 (by omega) (by omega)]
    exact ih (k - 5) (i + 1) (by omega) (by omega) (by omega)
theorem spec_pack_ev (l : List Int) (hl : l.length ≤ 1000000000) : Ev (fun k => spec_l02Pack.f k l) (strOfNums (packP l)) :=
  ⟨6 * l.length + 1, fun k hk => by have := spec_pack_from l hl l.length k 0 (by omega) (by omega) (by omega); simpa [spec_l02Pack.f, packP] using this⟩
theorem impl_pack_from (l : List Int) (hl : l.length ≤ 1000000000) (d : Nat) : ∀ (k i : Nat), i ≤ l.length → l.length - i = d → d < k →
    impl_pack.l0 k (packP (l.take i)) l (l.length : Int) i = some (strOfNums (packP l)) := by
  induction d with
  | zero =>
    intro k i hi hd hk
    obtain ⟨k, rfl⟩ : ∃ m, k = m + 1 := ⟨k - 1, by omega⟩
    simp only [impl_pack.l0]
    rw [if_neg (by omega), List.take_of_length_le (by omega)]
  | succ d ih =>
    intro k i hi hd hk
    obtain ⟨k, rfl⟩ : ∃ m, k = m + 1 := ⟨k - 1, by omega⟩
    have hlt : i < l.length := by omega
    have hp := packP_length (l.take i)
    have hl2 : (l.take i).length ≤ i := List.length_take_le _ _
    simp only [impl_pack.l0]
    rw [if_pos (by omega), if_pos (by omega), if_pos (by omega)]
    simp only [Option.bind_some, List.length_cons, List.length_nil]
    rw [if_pos (by omega), rd_eq l i hlt]
    have : packP (l.take i) ++ [l[i] % 256, l[i] / 256 % 256, l[i] / 65536 % 256, l[i] / 16777216 % 256] = packP (l.take (i + 1)) := by
      rw [take_next l i hlt, packP_snoc]; rfl
    rw [this, w64 (by omega) (by omega)]
    exact ih k (i + 1) (by omega) (by omega) (by omega)
theorem impl_pack_ev (l : List Int) (hl : l.length ≤ 1000000000) : Ev (fun k => impl_pack.f k l) (strOfNums (packP l)) :=
  ⟨l.length + 1, fun k hk => by have := impl_pack_from l hl l.length k 0 (by omega) (by omega) (by omega); simpa [impl_pack.f, packP] using this⟩
/-- One step of the sum. -/
def sumStep (t : ByteArray) (n : Int) (i : Nat) : Int := Int.tmod (wrap64 (n + (wrap64 ((wrap64 ((i : Int) + 1)) * (wrap64 ((wrap64 (bt t i)) + 1)))))) 251
def sumP (t : ByteArray) : Int := (List.range t.size).foldl (sumStep t) 0
theorem range_split (i n : Nat) (h : i < n) : List.range' i (n - i) = i :: List.range' (i + 1) (n - (i + 1)) := by
  obtain ⟨d, rfl⟩ : ∃ d, n = i + 1 + d := ⟨n - (i + 1), by omega⟩
  rw [show i + 1 + d - i = d + 1 by omega, show i + 1 + d - (i + 1) = d by omega, List.range'_succ]
theorem spec_sum_from (t : ByteArray) (ht : t.size ≤ 1000000000000) (d : Nat) : ∀ (k i : Nat) (n : Int), i ≤ t.size → t.size - i = d → d < k →
    spec_l02Sum.l0 k t n i = some ((List.range' i (t.size - i)).foldl (sumStep t) n) := by
  induction d with
  | zero =>
    intro k i n hi hd hk
    obtain ⟨k, rfl⟩ : ∃ m, k = m + 1 := ⟨k - 1, by omega⟩
    simp only [spec_l02Sum.l0]
    rw [if_neg (by omega), hd]; rfl
  | succ d ih =>
    intro k i n hi hd hk
    obtain ⟨k, rfl⟩ : ∃ m, k = m + 1 := ⟨k - 1, by omega⟩
    simp only [spec_l02Sum.l0]
    rw [if_pos (by omega), if_pos (by omega), range_split i t.size (by omega)]
    have e : wrap64 ((i : Int) + 1) = ((i + 1 : Nat) : Int) := by rw [w64 (by omega) (by omega)]; rfl
    have := ih k (i + 1) (sumStep t n i) (by omega) (by omega) (by omega)
    rw [List.foldl_cons, ← this]
    simp only [sumStep, e]
theorem spec_sum_ev (t : ByteArray) (ht : t.size ≤ 1000000000000) : Ev (fun k => spec_l02Sum.f k t) (sumP t) :=
  ⟨t.size + 1, fun k hk => by have := spec_sum_from t ht t.size k 0 0 (by omega) (by omega) (by omega); simpa [spec_l02Sum.f, sumP, List.range_eq_range'] using this⟩
theorem impl_sum_from (t : ByteArray) (ht : t.size ≤ 1000000000000) (d : Nat) : ∀ (k i : Nat) (n : Int), i ≤ t.size → t.size - i = d → d < k →
    impl_sumOf.l0 k t n (t.size : Int) i = some ((List.range' i (t.size - i)).foldl (sumStep t) n) := by
  induction d with
  | zero =>
    intro k i n hi hd hk
    obtain ⟨k, rfl⟩ : ∃ m, k = m + 1 := ⟨k - 1, by omega⟩
    simp only [impl_sumOf.l0]
    rw [if_neg (by omega), hd]; rfl
  | succ d ih =>
    intro k i n hi hd hk
    obtain ⟨k, rfl⟩ : ∃ m, k = m + 1 := ⟨k - 1, by omega⟩
    simp only [impl_sumOf.l0]
    rw [if_pos (by omega), if_pos (by omega), if_pos (by omega), range_split i t.size (by omega)]
    have e : wrap64 ((i : Int) + 1) = ((i + 1 : Nat) : Int) := by rw [w64 (by omega) (by omega)]; rfl
    have := ih k (i + 1) (sumStep t n i) (by omega) (by omega) (by omega)
    rw [List.foldl_cons, ← this]
    simp only [sumStep, e]
theorem impl_sum_ev (t : ByteArray) (ht : t.size ≤ 1000000000000) : Ev (fun k => impl_sumOf.f k t) (sumP t) :=
  ⟨t.size + 1, fun k hk => by have := impl_sum_from t ht t.size k 0 0 (by omega) (by omega) (by omega); simpa [impl_sumOf.f, sumP, List.range_eq_range'] using this⟩
/-- A record. -/
def headP (kind : Int) (l : List Int) : ByteArray := strOfNums [kind % 256, (l.length : Int) % 256]
def sealP (kind : Int) (l : List Int) : ByteArray := headP kind l ++ strOfNums [sumP (headP kind l ++ strOfNums (packP l)) % 256, 0] ++ strOfNums (packP l)
theorem headP_size (kind : Int) (l : List Int) : (headP kind l).size = 2 := by simp [headP, strOfNums_size]
theorem sealP_size (kind : Int) (l : List Int) : (sealP kind l).size = 4 + 4 * l.length := by simp [sealP, headP_size, strOfNums_size, packP_length]
theorem spec_seal_ev (kind : Int) (l : List Int) (hl : l.length ≤ 1000000000) : Ev (fun k => spec_l02Seal.f k kind l) (sealP kind l) := by
  have hp : (strOfNums (packP l)).size = 4 * l.length := by rw [strOfNums_size, packP_length]
  have hh := headP_size kind l
  unfold spec_l02Seal.f
  refine ev_bind (spec_pack_ev l hl) ?_
  simp only [Option.bind_some]
  refine ev_pos (by rw [strOfNums_size, hp]; simp; omega) ?_
  refine ev_bind (spec_sum_ev _ (by rw [ba_size_append, strOfNums_size, hp]; simp; omega)) ?_
  refine ev_pos (by simp [strOfNums_size]) ?_
  refine ev_pos (by rw [ba_size_append, hp]; simp [strOfNums_size]; omega) ?_
  exact ev_some _
theorem impl_seal_ev (kind : Int) (l : List Int) (hl : l.length ≤ 1000000000) : Ev (fun k => impl_seal.f k kind l) (sealP kind l) := by
  have hp : (strOfNums (packP l)).size = 4 * l.length := by rw [strOfNums_size, packP_length]
  have hh := headP_size kind l
  unfold impl_seal.f
  simp only [Option.bind_some]
  refine ev_bind (impl_pack_ev l hl) ?_
  refine ev_pos (by rw [strOfNums_size, hp]; simp; omega) ?_
  refine ev_bind (impl_sum_ev _ (by rw [ba_size_append, strOfNums_size, hp]; simp; omega)) ?_
  refine ev_pos (by simp [strOfNums_size]) ?_
  refine ev_pos (by rw [ba_size_append, hp]; simp [strOfNums_size]; omega) ?_
  exact ev_some _

end Go.Proofs.Ytofobhhbhicfaaa.Q
