/- What laws.FnUpdates reaches, part 5: the functions as Lean functions, the proofs that the program's functions answer so, and plain laws about them. -/
import Derived.Test.YtajflpcihblkfaaKFnUpdates1
import Derived.Test.YtajflpcihblkfaaKFnUpdates2
import Derived.Test.YtajflpcihblkfaaKFnUpdates4
namespace Go.Proofs.Ytajflpcihblkfaa.Q
open Go.RowKit Go.Proofs.Ytajflpcihblkfaa.Ext Go.Proofs.YtajflpcihblkfaaW.PrintWords Go.Proofs.YtajflpcihblkfaaW.PrintLast Go.Proofs.YtajflpcihblkfaaW.PrintMore
attribute [local go_sem] max2_int min2_int max_two min_two max_three min_three max_four min_four   -- for this text's walks alone
set_option linter.unusedVariables false
set_option linter.unusedSimpArgs false

set_option linter.unusedVariables false
set_option linter.unusedSimpArgs false
/-! ### At -/
theorem at_ok (l : List Int) (h : ∀ x ∈ l, 0 ≤ x ∧ x ≤ 255) (i : Int) (hi0 : 0 ≤ i) (hi : i ≤ 1000000) (n : Int) : ∃ r, laws_at.f l i n = some r ∧ 0 ≤ r ∧ (n ≤ 1 → r = 0) ∧ (1 ≤ n → r < n) := by
  unfold laws_at.f
  by_cases c1 : n ≤ 1
  · rw [if_pos c1]; exact ⟨0, rfl, by omega, fun _ => rfl, fun _ => by omega⟩
  · rw [if_neg c1]
    by_cases c2 : (l.length : Int) = 0
    · rw [if_pos c2, if_neg (by omega)]
      have x1 : wrap64 (i * 7) = i * 7 := w64 (by omega) (by omega)
      rw [x1]
      have := tmod_range (show 0 ≤ i * 7 by omega) (show 0 < n by omega)
      exact ⟨_, rfl, this.1, fun h => absurd h c1, fun _ => this.2⟩
    · rw [if_neg c2]
      have x1 : wrap64 (i + 1) = i + 1 := w64 (by omega) (by omega)
      rw [x1]
      have m1 := tmod_range hi0 (show 0 < (l.length : Int) by omega)
      have m2 := tmod_range (show 0 ≤ i + 1 by omega) (show 0 < (l.length : Int) by omega)
      rw [if_pos m1.1, if_pos m1.2, if_pos m2.1, if_pos m2.2, if_neg (by omega)]
      have b1 := rd_byte l h (Int.tmod i (l.length : Int))
      have b2 := rd_byte l h (Int.tmod (i + 1) (l.length : Int))
      generalize rd l (Int.tmod i (l.length : Int)) = u at b1 ⊢
      generalize rd l (Int.tmod (i + 1) (l.length : Int)) = v at b2 ⊢
      have d0 : 0 ≤ Int.tdiv i (l.length : Int) := by rw [Int.tdiv_eq_ediv_of_nonneg hi0]; exact Int.ediv_nonneg hi0 (by omega)
      have d1 : Int.tdiv i (l.length : Int) ≤ i := by rw [Int.tdiv_eq_ediv_of_nonneg hi0]; exact Int.ediv_le_self _ hi0
      generalize Int.tdiv i (l.length : Int) = q at d0 d1 ⊢
      have y1 : wrap64 u = u := w64 (by omega) (by omega)
      have y2 : wrap64 v = v := w64 (by omega) (by omega)
      have y3 : wrap64 q = q := w64 (by omega) (by omega)
      have y4 : wrap64 (u * 31) = u * 31 := w64 (by omega) (by omega)
      rw [y1, y2, y3, y4]
      have y5 : wrap64 (u * 31 + v) = u * 31 + v := w64 (by omega) (by omega)
      rw [y5]
      have y6 : wrap64 (u * 31 + v + q) = u * 31 + v + q := w64 (by omega) (by omega)
      rw [y6]
      have := tmod_range (show 0 ≤ u * 31 + v + q by omega) (show 0 < n by omega)
      exact ⟨_, rfl, this.1, fun h => absurd h c1, fun _ => this.2⟩
/-! ### MarkT -/
theorem ev_down {α : Type} {g : Nat → Nat → Option α} {r : α} (n : Nat) (hend : Ev (fun k => g k n) r) (hstep : ∀ i, i < n → Ev (fun k => g k (i + 1)) r → Ev (fun k => g k i) r) : Ev (fun k => g k 0) r := by
  have : ∀ d i, i ≤ n → n - i = d → Ev (fun k => g k i) r := by
    intro d
    induction d with
    | zero => intro i hi hd; have e : i = n := by omega
              rw [e]; exact hend
    | succ d ih => intro i hi hd; exact hstep i (by omega) (ih (i + 1) (by omega) (by omega))
  exact this n 0 (by omega) (by omega)
/-! ### PUpdate -/
theorem rdE_Update (l : List S28) (i : Nat) (h : i < l.length) : rd_T28 l (i : Int) = l[i] := by simp [rd_T28, h]
theorem rdset_Update (l : List S28) (i : Nat) (v : S28) (h : i < l.length) : rd_T28 (l.set i v) (i : Int) = v := by simp [rd_T28, h]
end Go.Proofs.Ytajflpcihblkfaa.Q
