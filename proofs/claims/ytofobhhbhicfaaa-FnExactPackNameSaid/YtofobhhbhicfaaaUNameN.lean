/- Plain laws: numbers of snapshots' names. -/
import Derived.Test.YtofobhhbhicfaaaQ4
import Derived.Test.YtofobhhbhicfaaaQ5
import Derived.Test.YtofobhhbhicfaaaUBase
import Derived.Test.YtofobhhbhicfaaaUIn
import Derived.Test.YtofobhhbhicfaaaUName
import Derived.Test.YtofobhhbhicfaaaExt
namespace Go.Proofs.Ytofobhhbhicfaaa.Q
open Go.RowKit Go.Proofs.Ytofobhhbhicfaaa.Ext Go.Proofs.YtofobhhbhicfaaaW.PrintWords Go.Proofs.YtofobhhbhicfaaaW.PrintLast Go.Proofs.YtofobhhbhicfaaaW.PrintMore
set_option linter.unusedVariables false
set_option linter.unusedSimpArgs false
def nameStep (t : ByteArray) (n : Int) (i : Nat) : Int := wrap64 ((wrap64 ((wrap64 (27 * n)) + (((bt t (i : Int)) - 97) % 256))) + 1)
def nameNum (t : ByteArray) : Int := (List.range t.size).foldl (nameStep t) 0
theorem spec_num_from (t : ByteArray) (ht : t.size ≤ 1000000000000) (d : Nat) : ∀ (k i : Nat) (n : Int), i ≤ t.size → t.size - i = d → d < k →
    spec_l11Name.l0 k t n i = some ((List.range' i (t.size - i)).foldl (nameStep t) n) := by
  induction d with
  | zero =>
    intro k i n hi hd hk
    obtain ⟨k, rfl⟩ : ∃ m, k = m + 1 := ⟨k - 1, by omega⟩
    simp only [spec_l11Name.l0]
    rw [if_neg (by omega), hd]; rfl
  | succ d ih =>
    intro k i n hi hd hk
    obtain ⟨k, rfl⟩ : ∃ m, k = m + 1 := ⟨k - 1, by omega⟩
    simp only [spec_l11Name.l0]
    rw [if_pos (by omega), if_pos (by omega), range_cut i t.size (by omega), List.foldl_cons, wn i (by omega)]
    exact ih k (i + 1) _ (by omega) (by omega) (by omega)
theorem spec_num_ev (t : ByteArray) (ht : t.size ≤ 1000000000000) : Ev (fun k => spec_l11Name.f k t) (nameNum t) :=
  ⟨t.size + 1, fun k hk => by have := spec_num_from t ht t.size k 0 0 (by omega) (by omega) (by omega); simpa [spec_l11Name.f, nameNum, List.range_eq_range'] using this⟩
theorem impl_num_from (t : ByteArray) (ht : t.size ≤ 1000000000000) (d : Nat) : ∀ (k i : Nat) (n : Int), i ≤ t.size → t.size - i = d → d < k →
    impl_packName.l0 k t n (t.size : Int) i = some ((List.range' i (t.size - i)).foldl (nameStep t) n) := by
  induction d with
  | zero =>
    intro k i n hi hd hk
    obtain ⟨k, rfl⟩ : ∃ m, k = m + 1 := ⟨k - 1, by omega⟩
    simp only [impl_packName.l0]
    rw [if_neg (by omega), hd]; rfl
  | succ d ih =>
    intro k i n hi hd hk
    obtain ⟨k, rfl⟩ : ∃ m, k = m + 1 := ⟨k - 1, by omega⟩
    simp only [impl_packName.l0]
    rw [if_pos (by omega), if_pos (by omega), if_pos (by omega), range_cut i t.size (by omega), List.foldl_cons, wn i (by omega)]
    exact ih k (i + 1) _ (by omega) (by omega) (by omega)
theorem impl_num_ev (t : ByteArray) (ht : t.size ≤ 1000000000000) : Ev (fun k => impl_packName.f k t) (nameNum t) :=
  ⟨t.size + 1, fun k hk => by have := impl_num_from t ht t.size k 0 0 (by omega) (by omega) (by omega); simpa [impl_packName.f, nameNum, List.range_eq_range'] using this⟩

end Go.Proofs.Ytofobhhbhicfaaa.Q
