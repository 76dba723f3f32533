/- Plain laws: snapshots' names; their numbers. -/
import Derived.Test.YtofobhhbhicfaaaQ4
import Derived.Test.YtofobhhbhicfaaaQ5
import Derived.Test.YtofobhhbhicfaaaUBase
import Derived.Test.YtofobhhbhicfaaaUIn
import Derived.Test.YtofobhhbhicfaaaExt
namespace Go.Proofs.Ytofobhhbhicfaaa.Q
open Go.RowKit Go.Proofs.Ytofobhhbhicfaaa.Ext Go.Proofs.YtofobhhbhicfaaaW.PrintWords Go.Proofs.YtofobhhbhicfaaaW.PrintLast Go.Proofs.YtofobhhbhicfaaaW.PrintMore
set_option linter.unusedVariables false
set_option linter.unusedSimpArgs false
def low (t : ByteArray) (i : Nat) : Bool := inB (bt t (i : Int)) 97 122
def nameOK (t : ByteArray) : Bool := (List.range t.size).all (low t) && inB (t.size : Int) 1 6
theorem wn (i : Nat) (h : i < 1000000000000000000) : wrap64 ((i : Int) + 1) = ((i + 1 : Nat) : Int) := by rw [w64 (by omega) (by omega)]; omega
theorem range_cut (i n : Nat) (h : i < n) : List.range' i (n - i) = i :: List.range' (i + 1) (n - (i + 1)) := by
  obtain ⟨d, rfl⟩ : ∃ d, n = i + 1 + d := ⟨n - (i + 1), by omega⟩
  rw [show i + 1 + d - i = d + 1 by omega, show i + 1 + d - (i + 1) = d by omega, List.range'_succ]
theorem spec_name_from (t : ByteArray) (ht : t.size ≤ 1000000000000) (d : Nat) : ∀ (k i : Nat), i ≤ t.size → t.size - i = d → d < k →
    spec_l10Name.l0 k t i = some ((List.range' i (t.size - i)).all (low t) && inB (t.size : Int) 1 6) := by
  induction d with
  | zero =>
    intro k i hi hd hk
    obtain ⟨k, rfl⟩ : ∃ m, k = m + 1 := ⟨k - 1, by omega⟩
    simp only [spec_l10Name.l0, l01In_eq, Option.bind_some]
    rw [if_neg (by omega), hd]; rfl
  | succ d ih =>
    intro k i hi hd hk
    obtain ⟨k, rfl⟩ : ∃ m, k = m + 1 := ⟨k - 1, by omega⟩
    simp only [spec_l10Name.l0]
    rw [if_pos (by omega), if_pos (by omega), range_cut i t.size (by omega), List.all_cons, wn i (by omega)]
    have := ih k (i + 1) (by omega) (by omega) (by omega)
    by_cases h1 : bt t (i : Int) < 97
    · have e : low t i = false := by unfold low; rw [inB_no]; omega
      rw [if_pos h1, e]; rfl
    · by_cases h2 : bt t (i : Int) > 122
      · have e : low t i = false := by unfold low; rw [inB_no]; omega
        rw [if_neg h1, if_pos h2, e]; rfl
      · have e : low t i = true := by unfold low; rw [inB_iff]; omega
        rw [if_neg h1, if_neg h2, e, Bool.true_and]; exact this
theorem spec_name_ev (t : ByteArray) (ht : t.size ≤ 1000000000000) : Ev (fun k => spec_l10Name.f k t) (nameOK t) :=
  ⟨t.size + 1, fun k hk => by have := spec_name_from t ht t.size k 0 (by omega) (by omega) (by omega); simpa [spec_l10Name.f, nameOK, List.range_eq_range'] using this⟩
theorem impl_name_from (t : ByteArray) (ht : t.size ≤ 1000000000000) (d : Nat) : ∀ (k i : Nat), i ≤ t.size → t.size - i = d → d < k →
    impl_snapNameOK.l0 k t (t.size : Int) i = some ((List.range' i (t.size - i)).all (low t) && inB (t.size : Int) 1 6) := by
  induction d with
  | zero =>
    intro k i hi hd hk
    obtain ⟨k, rfl⟩ : ∃ m, k = m + 1 := ⟨k - 1, by omega⟩
    simp only [impl_snapNameOK.l0, within_eq, Option.bind_some]
    rw [if_neg (by omega), hd]; rfl
  | succ d ih =>
    intro k i hi hd hk
    obtain ⟨k, rfl⟩ : ∃ m, k = m + 1 := ⟨k - 1, by omega⟩
    simp only [impl_snapNameOK.l0]
    rw [if_pos (by omega), if_pos (by omega), if_pos (by omega), range_cut i t.size (by omega), List.all_cons, wn i (by omega)]
    have := ih k (i + 1) (by omega) (by omega) (by omega)
    by_cases h1 : bt t (i : Int) < 97
    · have e : low t i = false := by unfold low; rw [inB_no]; omega
      rw [if_pos h1, e]; rfl
    · by_cases h2 : bt t (i : Int) > 122
      · have e : low t i = false := by unfold low; rw [inB_no]; omega
        rw [if_neg h1, if_pos h2, e]; rfl
      · have e : low t i = true := by unfold low; rw [inB_iff]; omega
        rw [if_neg h1, if_neg h2, e, Bool.true_and]; exact this
theorem impl_name_ev (t : ByteArray) (ht : t.size ≤ 1000000000000) : Ev (fun k => impl_snapNameOK.f k t) (nameOK t) :=
  ⟨t.size + 1, fun k hk => by have := impl_name_from t ht t.size k 0 (by omega) (by omega) (by omega); simpa [impl_snapNameOK.f, nameOK, List.range_eq_range'] using this⟩

end Go.Proofs.Ytofobhhbhicfaaa.Q
