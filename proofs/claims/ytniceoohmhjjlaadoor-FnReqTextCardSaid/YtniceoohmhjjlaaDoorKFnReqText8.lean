/- What laws.FnReqText reaches, part 8: the functions as Lean functions, the proofs that the program's functions answer so, and plain laws about them. -/
import Derived.Test.YtniceoohmhjjlaaDoorKFnReqText1
import Derived.Test.YtniceoohmhjjlaaDoorKFnReqText2
import Derived.Test.YtniceoohmhjjlaaDoorKFnReqText3
import Derived.Test.YtniceoohmhjjlaaDoorKFnReqText4
import Derived.Test.YtniceoohmhjjlaaDoorKFnReqText5
import Derived.Test.YtniceoohmhjjlaaDoorKFnReqText6
import Derived.Test.YtniceoohmhjjlaaDoorKFnReqText7
namespace Go.Proofs.YtniceoohmhjjlaaDoor.Q
open Go.RowKit Go.Proofs.YtniceoohmhjjlaaDoor.Ext Go.Proofs.YtniceoohmhjjlaaDoorW.PrintWords Go.Proofs.YtniceoohmhjjlaaDoorW.PrintLast Go.Proofs.YtniceoohmhjjlaaDoorW.PrintMore
attribute [local go_sem] max2_int min2_int max_two min_two max_three min_three max_four min_four   -- for this text's walks alone
set_option linter.unusedVariables false
set_option linter.unusedSimpArgs false

set_option linter.unusedVariables false
set_option linter.unusedSimpArgs false
/-! ### Nums -/
/-- What digits spell. -/
def dv : Nat → List UInt8 → Option Nat
  | acc, [] => some acc
  | acc, c :: r => if 48 ≤ c.toNat ∧ c.toNat ≤ 57 then dv (acc * 10 + (c.toNat - 48)) r else none
theorem dv_app : ∀ (l r : List UInt8) (acc : Nat), dv acc (l ++ r) = (dv acc l).bind fun a => dv a r := by
  intro l
  induction l with
  | nil => intro r acc; rfl
  | cons c l ih =>
    intro r acc
    simp only [List.cons_append, dv]
    by_cases h : 48 ≤ c.toNat ∧ c.toNat ≤ 57
    · rw [if_pos h, if_pos h, ih]
    · rw [if_neg h, if_neg h]; rfl
theorem dv_le : ∀ (l : List UInt8) (acc u : Nat), dv acc l = some u → acc ≤ u := by
  intro l
  induction l with
  | nil => intro acc u h; simp only [dv, Option.some.injEq] at h; omega
  | cons c l ih =>
    intro acc u h
    simp only [dv] at h
    by_cases c1 : 48 ≤ c.toNat ∧ c.toNat ≤ 57
    · rw [if_pos c1] at h; have := ih _ _ h; omega
    · rw [if_neg c1] at h; cases h
theorem dig_toNat {d : Nat} (h : d < 10) : (UInt8.ofNat (48 + d)).toNat = 48 + d := by
  rw [UInt8.toNat_ofNat']; omega
theorem dv_one {d acc : Nat} (h : d < 10) : dv acc [UInt8.ofNat (48 + d)] = some (acc * 10 + d) := by
  simp only [dv, dig_toNat h]
  rw [if_pos (by omega)]
  congr 1; omega
theorem dv_dec : ∀ (n u : Nat), u ≤ n → dv 0 (Lib.decDigits u) = some u := by
  intro n
  induction n with
  | zero => intro u h; rw [Lib.decDigits_one (by omega), dv_one (by omega)]; congr 1; omega
  | succ n ih =>
    intro u h
    by_cases c : u < 10
    · rw [Lib.decDigits_one c, dv_one c]; congr 1; omega
    · rw [Lib.decDigits, dif_neg c, dv_app, ih (u / 10) (by omega), Option.bind_some, dv_one (by omega)]
      congr 1; omega
theorem dec_ne : ∀ u, Lib.decDigits u ≠ [] := by
  intro u
  rw [Lib.decDigits]
  split <;> simp
theorem dec_len : ∀ (k u : Nat), u < 10 ^ (k + 1) → (Lib.decDigits u).length ≤ k + 1 := by
  intro k
  induction k with
  | zero => intro u h; rw [Lib.decDigits_one (by omega)]; simp
  | succ k ih =>
    intro u h
    by_cases c : u < 10
    · rw [Lib.decDigits_one c]; simp
    · rw [Lib.decDigits, dif_neg c, List.length_append, List.length_singleton]
      have := ih (u / 10) (by rw [Nat.pow_succ] at h; omega)
      omega
theorem dv_digit : ∀ (l : List UInt8) (acc u : Nat), dv acc l = some u → ∀ c ∈ l, 48 ≤ c.toNat ∧ c.toNat ≤ 57 := by
  intro l
  induction l with
  | nil => intro _ _ _ c hc; cases hc
  | cons a l ih =>
    intro acc u h c hc
    simp only [dv] at h
    by_cases c1 : 48 ≤ a.toNat ∧ a.toNat ≤ 57
    · rw [if_pos c1] at h
      rcases List.mem_cons.1 hc with rfl | hc
      · exact c1
      · exact ih _ _ h c hc
    · rw [if_neg c1] at h; cases h
/-- A first digit that is no 0 spells no 0; and there is one numeral alone. -/
theorem dec_dv : ∀ (n : Nat) (l : List UInt8) (v : Nat), l.length ≤ n → l ≠ [] → dv 0 l = some v → (l.head? = some 48 → l.length ≤ 1) → l = Lib.decDigits v ∧ (l.head? ≠ some 48 → 1 ≤ v) := by
  intro n
  induction n with
  | zero => intro l v h hl; exact absurd (List.length_eq_zero_iff.1 (by omega)) hl
  | succ n ih =>
    intro l v hn hl hv hh
    have e := List.dropLast_concat_getLast hl
    obtain ⟨r, c, rfl⟩ : ∃ r c, l = r ++ [c] := ⟨_, _, e.symm⟩
    rw [dv_app] at hv
    obtain ⟨q, hq, hv⟩ := Option.bind_eq_some_iff.1 hv
    simp only [dv] at hv
    by_cases c1 : 48 ≤ c.toNat ∧ c.toNat ≤ 57
    · rw [if_pos c1] at hv
      have hv := Option.some.inj hv
      have ec : c = UInt8.ofNat (48 + (c.toNat - 48)) := by
        rw [show 48 + (c.toNat - 48) = c.toNat by omega]; simp
      by_cases hr : r = []
      · subst hr
        simp only [dv, Option.some.injEq] at hq
        refine ⟨?_, ?_⟩
        · rw [Lib.decDigits_one (by omega), List.nil_append]
          have : v = c.toNat - 48 := by omega
          rw [this, ← ec]
        · intro h
          simp only [List.nil_append, List.head?_cons] at h
          have : c.toNat ≠ 48 := fun e => h (congrArg some (UInt8.toNat_inj.1 (by rw [e]; rfl)))
          omega
      · have hhd : (r ++ [c]).head? = r.head? := by cases r with | nil => exact absurd rfl hr | cons a r => rfl
        have hlen : 1 ≤ r.length := by cases r with | nil => exact absurd rfl hr | cons a r => simp
        have hno : r.head? ≠ some 48 := by
          intro h
          have := hh (by rw [hhd, h])
          rw [List.length_append, List.length_singleton] at this
          omega
        obtain ⟨i1, i2⟩ := ih r q (by rw [List.length_append, List.length_singleton] at hn; omega) hr hq (fun h => absurd h hno)
        have hq1 := i2 hno
        refine ⟨?_, fun _ => by omega⟩
        rw [Lib.decDigits, dif_neg (by omega), show v / 10 = q by omega, ← i1, show v % 10 = c.toNat - 48 by omega, ← ec]
    · rw [if_neg c1] at hv; cases hv
theorem dec_head {u : Nat} (h : 1 ≤ u) : (Lib.decDigits u).head? ≠ some 48 := by
  intro e
  by_cases c : (Lib.decDigits u).length ≤ 1
  · obtain ⟨a, ha⟩ : ∃ a, Lib.decDigits u = [a] := by
      cases hd : Lib.decDigits u with
      | nil => exact absurd hd (dec_ne u)
      | cons a r =>
        rw [hd, List.length_cons] at c
        have : r = [] := List.length_eq_zero_iff.1 (by omega)
        exact ⟨a, by rw [this]⟩
    have h2 := dv_dec u u (Nat.le_refl _)
    rw [ha] at e h2
    simp only [List.head?_cons, Option.some.injEq] at e
    subst e
    have : dv 0 [(48 : UInt8)] = some 0 := rfl
    rw [this] at h2
    have := Option.some.inj h2
    omega
  · by_cases d : u < 10
    · rw [Lib.decDigits_one d] at c; simp at c
    · have key : ∀ (n u : Nat), u ≤ n → 1 ≤ u → (Lib.decDigits u).head? ≠ some 48 := by
        intro n
        induction n with
        | zero => intro u h1 h2; omega
        | succ n ih =>
          intro u h1 h2 e
          by_cases d : u < 10
          · rw [Lib.decDigits_one d, List.head?_cons] at e
            have := congrArg UInt8.toNat (Option.some.inj e)
            rw [dig_toNat d] at this
            have e48 : (48 : UInt8).toNat = 48 := rfl
            omega
          · rw [Lib.decDigits, dif_neg d] at e
            have hd : (Lib.decDigits (u / 10) ++ [UInt8.ofNat (48 + u % 10)]).head? = (Lib.decDigits (u / 10)).head? := by
              cases hx : Lib.decDigits (u / 10) with
              | nil => exact absurd hx (dec_ne _)
              | cons a r => rfl
            rw [hd] at e
            exact ih (u / 10) (by omega) (by omega) e
      exact key u u (Nat.le_refl _) h e
theorem parse_dv : ∀ (l : List UInt8) (acc u : Nat), dv acc l = some u → u < 1844674407370955162 → Lib.parseUint10 acc l = .ok u := by
  intro l
  induction l with
  | nil => intro acc u h _; simp only [dv, Option.some.injEq] at h; rw [h]; rfl
  | cons c l ih =>
    intro acc u h hu
    simp only [dv] at h
    by_cases c1 : 48 ≤ c.toNat ∧ c.toNat ≤ 57
    · rw [if_pos c1] at h
      have hle := dv_le _ _ _ h
      simp only [Lib.parseUint10]
      rw [if_pos c1, if_neg (by omega), if_neg (by omega)]
      exact ih _ _ h hu
    · rw [if_neg c1] at h; cases h
theorem atoi_dec {u : Nat} (h : u ≤ 2147483647) : Lib.atoiAll (Lib.decDigits u) = .ok (u : Int) := by
  have hv := dv_dec u u (Nat.le_refl _)
  cases hd : Lib.decDigits u with
  | nil => exact absurd hd (dec_ne u)
  | cons c r =>
    rw [hd] at hv
    have hc := dv_digit _ _ _ hv c (by simp)
    rw [Lib.atoiAll_plain c r (by omega) (by omega)]
    unfold Lib.parseMag
    rw [if_neg (by simp), parse_dv _ _ _ hv (by omega)]
    simp only [Lib.signless]
    rw [if_neg (by omega)]
def isN (s : ByteArray) (v : Int) : Prop := 0 ≤ v ∧ v ≤ 2147483647 ∧ s = dgs v
theorem isN_data {s : ByteArray} {v : Int} (h : isN s v) : s.data.toList = Lib.decDigits v.toNat := by
  rw [h.2.2]
  unfold dgs Lib.itoa
  have := h.1
  rw [if_neg (by omega)]
theorem isN_of {s : ByteArray} {u : Nat} (hu : u ≤ 2147483647) (h : s.data.toList = Lib.decDigits u) : isN s (u : Int) := by
  refine ⟨by omega, by omega, ?_⟩
  unfold dgs Lib.itoa
  rw [if_neg (by omega), show ((u : Int)).toNat = u by omega, ← h]
theorem readNumber_eq (s : ByteArray) (hs : s.size ≤ 1000000) : ∃ v b, impl_readNumber.f s = some (v, b) ∧ (b = true → isN s v) ∧ ∀ n, isN s n → b = true := by
  unfold impl_readNumber.f
  rw [if_pos hs]
  have hn : ∀ n, isN s n → Lib.atoiAll s.data.toList = .ok n := by
    intro n h
    rw [isN_data h]
    have := h.1; have := h.2.1
    rw [atoi_dec (by omega), show ((n.toNat : Int)) = n by omega]
  cases he : Lib.atoiAll s.data.toList with
  | ok v =>
    simp only [impl_isNumber.f, within_eq, Option.bind_some]
    cases hb : inB v 0 2147483647 with
    | true =>
      have hb' := inB_iff.1 hb
      rw [if_pos rfl, itoa_eq (by omega) (by omega), Option.bind_some]
      refine ⟨_, _, rfl, ?_, ?_⟩
      · intro h
        exact ⟨hb'.1, hb'.2, (toList_inj.1 (beq_iff_eq.1 h)).symm⟩
      · intro n h
        have e := hn n h
        rw [he] at e
        have e := Lib.NumEnd.ok.inj e
        rw [e, ← h.2.2]; simp
    | false =>
      rw [if_neg (by decide)]
      refine ⟨_, _, rfl, (by intro h; cases h), ?_⟩
      intro n h
      have e := hn n h
      rw [he] at e
      have e := Lib.NumEnd.ok.inj e
      have h1 := h.1; have h2 := h.2.1
      rw [e] at hb
      exact absurd ⟨h1, h2⟩ (inB_no.1 hb)
  | range =>
    refine ⟨_, _, rfl, (by intro h; cases h), ?_⟩
    intro n h; have e := hn n h; rw [he] at e; cases e
  | _ =>
    refine ⟨_, _, rfl, (by intro h; cases h), ?_⟩
    intro n h; have e := hn n h; rw [he] at e; cases e
def numR (x4 : Int) : Option Nat → Int × Bool | some u => (wrap64 (x4 * (u : Int)), true) | none => (0, false)
theorem numLoop (s : ByteArray) (x4 : Int) (hs : s.size ≤ 18) : ∀ (d i acc : Nat), s.size - i = d → i ≤ s.size → acc < 10 ^ i → Ev (fun k => spec_l00Number.l0 k s x4 (acc : Int) (i : Int)) (numR x4 (dv acc (s.data.toList.drop i))) := by
  have hz : s.data.toList.length = s.size := by rw [Array.length_toList]; rfl
  intro d
  induction d with
  | zero =>
    intro i acc hd hi ha
    rw [show s.data.toList.drop i = [] from List.drop_of_length_le (by omega)]
    refine Ev.succ ?_
    simp only [spec_l00Number.l0]
    exact ev_neg (by omega) (ev_some _)
  | succ d ih =>
    intro i acc hd hi ha
    have hlt : i < s.data.toList.length := by omega
    have hp : 10 ^ i ≤ 10 ^ 17 := Nat.pow_le_pow_right (by decide) (by omega)
    have hp2 : (10 : Nat) ^ 17 = 100000000000000000 := by decide
    rw [List.drop_eq_getElem_cons hlt]
    refine Ev.succ ?_
    simp only [spec_l00Number.l0]
    refine ev_pos (by omega) (ev_pos (by omega) ?_)
    rw [wnext i (by omega), bt_is s i hlt]
    have hc := UInt8.toNat_lt (s.data.toList[i])
    simp only [dv]
    by_cases c1 : ((s.data.toList[i].toNat : Nat) : Int) < 48
    · rw [if_neg (by omega)]; exact ev_pos c1 (ev_some _)
    · refine ev_neg c1 ?_
      by_cases c2 : ((s.data.toList[i].toNat : Nat) : Int) > 57
      · rw [if_neg (by omega)]; exact ev_pos c2 (ev_some _)
      · refine ev_neg c2 ?_
        rw [if_pos (by omega), w64 (n := (acc : Int) * 10) (by omega) (by omega), w64 (n := ((s.data.toList[i].toNat : Nat) : Int)) (by omega) (by omega), w64 (n := (acc : Int) * 10 + ((s.data.toList[i].toNat : Nat) : Int)) (by omega) (by omega), w64 (by omega) (by omega)]
        have e : (acc : Int) * 10 + ((s.data.toList[i].toNat : Nat) : Int) - 48 = ((acc * 10 + (s.data.toList[i].toNat - 48) : Nat) : Int) := by omega
        rw [e]
        exact ih (i + 1) _ (by omega) (by omega) (by rw [Nat.pow_succ]; omega)
def numE (s : ByteArray) (x4 : Int) : Int × Bool := if s.data.toList = [] ∨ 18 < s.size ∨ (s.data.toList.head? = some 48 ∧ (1 < s.size ∨ x4 < 0)) then (0, false) else numR x4 (dv 0 s.data.toList)
theorem numJ1 (s : ByteArray) (x4 : Int) : Ev (fun k => spec_l00Number.j1 k s x4) (numE s x4) := by
  unfold numE
  have hz : s.data.toList.length = s.size := by rw [Array.length_toList]; rfl
  have bad : Ev (fun k => spec_l00Number.j2 k s x4 true) (0, false) := Ev.succ (by simp only [spec_l00Number.j2]; exact ev_pos (by trivial) (ev_some _))
  have good : s.size ≤ 18 → Ev (fun k => spec_l00Number.j2 k s x4 false) (numR x4 (dv 0 s.data.toList)) := fun h => Ev.succ (by simp only [spec_l00Number.j2]; exact ev_neg (by decide) (by simpa using numLoop s x4 h s.size 0 0 (by omega) (by omega) (by simp)))
  refine Ev.succ ?_
  simp only [spec_l00Number.j1]
  by_cases c1 : s.data.toList = []
  · rw [if_pos (.inl c1)]
    rw [c1, List.length_nil] at hz
    exact ev_pos (by omega) bad
  · have hne : s.size ≠ 0 := fun e => c1 (List.length_eq_zero_iff.1 (by omega))
    refine ev_neg (by omega) ?_
    by_cases c2 : 18 < s.size
    · rw [if_pos (.inr (.inl c2))]; exact ev_pos (by omega) bad
    · refine ev_neg (by omega) (ev_pos (by omega) ?_)
      have hb := bt_is s 0 (by omega)
      rw [show ((0 : Nat) : Int) = 0 from rfl] at hb
      have hh : s.data.toList.head? = some 48 ↔ bt s 0 = 48 := by
        rw [hb, List.head?_eq_getElem?, List.getElem?_eq_getElem (by omega), Option.some.injEq]
        constructor
        · intro e; rw [e]; rfl
        · intro e; apply UInt8.toNat_inj.1; have e48 : (48 : UInt8).toNat = 48 := rfl; omega
      by_cases c3 : bt s 0 = 48
      · refine ev_pos c3 ?_
        by_cases c4 : 1 < s.size
        · rw [if_pos (.inr (.inr ⟨hh.2 c3, .inl c4⟩))]; exact ev_pos (by omega) bad
        · refine ev_neg (by omega) ?_
          by_cases c5 : x4 < 0
          · rw [if_pos (.inr (.inr ⟨hh.2 c3, .inr c5⟩)), decide_eq_true c5]; exact bad
          · rw [if_neg (by rintro (h | h | ⟨_, h | h⟩) <;> first | exact c1 h | omega), decide_eq_false c5]; exact good (by omega)
      · rw [if_neg (by rintro (h | h | ⟨h, _⟩); exact c1 h; omega; exact c3 (hh.1 h))]
        exact ev_neg c3 (good (by omega))
theorem number_ev (s : ByteArray) (hs : s.size ≤ 1000000) : ∃ v b, Ev (fun k => spec_l00Number.f k s) (v, b) ∧ (b = true → 0 ≤ v → v ≤ 2147483647 → isN s v) ∧ ∀ n, isN s n → b = true ∧ v = n := by
  have hz : s.data.toList.length = s.size := by rw [Array.length_toList]; rfl
  have facts : ∀ n, isN s n → s.data.toList ≠ [] ∧ s.size ≤ 18 ∧ (s.data.toList.head? = some 48 → n = 0 ∧ s.size ≤ 1) ∧ dv 0 s.data.toList = some n.toNat := by
    intro n h
    have hd := isN_data h
    have h1 := h.1; have h2 := h.2.1
    have hl := dec_len 9 n.toNat (by have : (10 : Nat) ^ (9 + 1) = 10000000000 := by decide
                                     omega)
    refine ⟨by rw [hd]; exact dec_ne _, by rw [← hz, hd]; omega, ?_, by rw [hd]; exact dv_dec _ _ (Nat.le_refl _)⟩
    intro hh
    by_cases c : n = 0
    · refine ⟨c, ?_⟩
      rw [← hz, hd, c, show ((0 : Int)).toNat = 0 from rfl, Lib.decDigits_one (by omega)]; simp
    · rw [hd] at hh; exact absurd hh (dec_head (by omega))
  unfold spec_l00Number.f
  by_cases c0 : s.size = 0
  · refine ⟨0, false, ?_, (by intro h; cases h), ?_⟩
    · refine ev_neg (by omega) (Ev.succ ?_)
      simp only [spec_l00Number.j0]
      refine ev_neg (by decide) ?_
      have h := numJ1 s 1
      unfold numE at h
      rw [if_pos (.inl (List.length_eq_zero_iff.1 (by omega)))] at h
      exact h
    · intro n h
      exact absurd (List.length_eq_zero_iff.1 (by omega)) (facts n h).1
  · have hb := bt_is s 0 (by omega)
    rw [show ((0 : Nat) : Int) = 0 from rfl] at hb
    by_cases c1 : bt s 0 = 45
    · have hsz : (s.extract 1 s.size).size = s.size - 1 := by simp
      have htl : (s.extract 1 s.size).data.toList = s.data.toList.drop 1 := by
        rw [ext_cur, data_mkB, List.take_of_length_le (by rw [List.length_drop]; omega)]
      have key := numJ1 (s.extract 1 s.size) (-1)
      have none' : ∀ n, ¬ isN s n := by
        intro n h
        have hv := (facts n h).2.2.2
        have := dv_digit _ _ _ hv (s.data.toList[0]) (List.getElem_mem _)
        omega
      have hgo : ∀ r, Ev (fun k => spec_l00Number.j1 k (s.extract 1 s.size) (-1)) r → Ev (fun k => if (s.size : Int) > 0 then (if 0 < (s.size : Int) then (spec_l00Number.j0 k s 1 ((bt s 0) == 45)) else (none)) else (spec_l00Number.j0 k s 1 false)) r := by
        intro r h
        refine ev_pos (by omega) (ev_pos (by omega) (Ev.succ ?_))
        simp only [spec_l00Number.j0]
        exact ev_pos (by simp [c1]) (ev_pos (by omega) h)
      refine ⟨(numE (s.extract 1 s.size) (-1)).1, (numE (s.extract 1 s.size) (-1)).2, hgo _ key, ?_, fun n h => absurd h (none' n)⟩
      unfold numE
      split
      · intro h; cases h
      · rename_i hno
        intro hb1 hv0 hv1
        exfalso
        apply hno
        by_cases d1 : (s.extract 1 s.size).data.toList = []
        · exact .inl d1
        · by_cases d2 : 18 < (s.extract 1 s.size).size
          · exact .inr (.inl d2)
          · by_cases d3 : (s.extract 1 s.size).data.toList.head? = some 48
            · exact .inr (.inr ⟨d3, .inr (by decide)⟩)
            · cases hd : dv 0 (s.extract 1 s.size).data.toList with
              | none => rw [hd] at hb1; cases hb1
              | some u =>
                rw [hd] at hv0
                have h2 := (dec_dv _ _ u (Nat.le_refl _) d1 hd (fun h => absurd h d3)).2 d3
                have hlen : (s.extract 1 s.size).data.toList.length ≤ 18 := by rw [Array.length_toList]; exact Nat.not_lt.1 d2
                have hub : ∀ (l : List UInt8) (acc u : Nat), dv acc l = some u → u < (acc + 1) * 10 ^ l.length := by
                  intro l
                  induction l with
                  | nil => intro acc u h; simp only [dv, Option.some.injEq] at h; simp; omega
                  | cons c l ih =>
                    intro acc u h
                    simp only [dv] at h
                    by_cases e1 : 48 ≤ c.toNat ∧ c.toNat ≤ 57
                    · rw [if_pos e1] at h
                      have h3 := ih _ _ h
                      rw [List.length_cons, Nat.pow_succ]
                      refine Nat.lt_of_lt_of_le h3 ?_
                      rw [Nat.mul_comm (10 ^ l.length) 10, ← Nat.mul_assoc]
                      exact Nat.mul_le_mul_right _ (by omega)
                    · rw [if_neg e1] at h; cases h
                have h3 := hub _ _ _ hd
                have h4 : 10 ^ (s.extract 1 s.size).data.toList.length ≤ 10 ^ 18 := Nat.pow_le_pow_right (by decide) hlen
                have h5 : (10 : Nat) ^ 18 = 1000000000000000000 := by decide
                simp only [numR] at hv0
                rw [w64 (by omega) (by omega)] at hv0
                omega
    · have key := numJ1 s 1
      have hgo : ∀ r, Ev (fun k => spec_l00Number.j1 k s 1) r → Ev (fun k => if (s.size : Int) > 0 then (if 0 < (s.size : Int) then (spec_l00Number.j0 k s 1 ((bt s 0) == 45)) else (none)) else (spec_l00Number.j0 k s 1 false)) r := by
        intro r h
        refine ev_pos (by omega) (ev_pos (by omega) (Ev.succ ?_))
        simp only [spec_l00Number.j0]
        exact ev_neg (by simp [c1]) h
      refine ⟨(numE s 1).1, (numE s 1).2, hgo _ key, ?_, ?_⟩
      · unfold numE; split
        · intro h; cases h
        · rename_i hno
          intro hb1 hv0 hv1
          cases hd : dv 0 s.data.toList with
          | none => rw [hd] at hb1; cases hb1
          | some u =>
            rw [hd] at hv0 hv1
            simp only [numR, Int.one_mul] at hv0 hv1 ⊢
            have h2 := (dec_dv _ _ u (Nat.le_refl _) (fun h => hno (.inl h)) hd (fun h => by rw [hz]; exact Nat.not_lt.1 (fun h2 => hno (.inr (.inr ⟨h, .inl h2⟩))))).1
            have hlen : s.data.toList.length ≤ 18 := by rw [hz]; exact Nat.not_lt.1 (fun h => hno (.inr (.inl h)))
            have hub : ∀ (l : List UInt8) (acc u : Nat), dv acc l = some u → u < (acc + 1) * 10 ^ l.length := by
              intro l
              induction l with
              | nil => intro acc u h; simp only [dv, Option.some.injEq] at h; simp; omega
              | cons c l ih =>
                intro acc u h
                simp only [dv] at h
                by_cases e1 : 48 ≤ c.toNat ∧ c.toNat ≤ 57
                · rw [if_pos e1] at h
                  have h3 := ih _ _ h
                  rw [List.length_cons, Nat.pow_succ]
                  refine Nat.lt_of_lt_of_le h3 ?_
                  rw [Nat.mul_comm (10 ^ l.length) 10, ← Nat.mul_assoc]
                  exact Nat.mul_le_mul_right _ (by omega)
                · rw [if_neg e1] at h; cases h
            have h3 := hub _ _ _ hd
            have h4 : 10 ^ s.data.toList.length ≤ 10 ^ 18 := Nat.pow_le_pow_right (by decide) hlen
            have h5 : (10 : Nat) ^ 18 = 1000000000000000000 := by decide
            rw [w64 (by omega) (by omega)] at hv0 hv1 ⊢
            exact isN_of (by omega) h2
      · intro n h
        obtain ⟨f1, f2, f3, f4⟩ := facts n h
        have hcond : ¬ (s.data.toList = [] ∨ 18 < s.size ∨ (s.data.toList.head? = some 48 ∧ (1 < s.size ∨ (1 : Int) < 0))) := by
          rintro (h1 | h1 | ⟨h1, h2 | h2⟩)
          · exact f1 h1
          · omega
          · have := (f3 h1).2; omega
          · omega
        unfold numE
        rw [if_neg hcond, f4]
        have h1 := h.1; have h2 := h.2.1
        simp only [numR, Int.one_mul]
        rw [show ((n.toNat : Int)) = n by omega, w64 (by omega) (by omega)]
        exact ⟨trivial, rfl⟩
/-! ### ReqRd -/
def e0 : ByteArray := (⟨#[]⟩ : ByteArray)
def isQ (W : List ByteArray) (a b c : Int) (s : ByteArray) : Prop :=
  ((a = 1 ∨ a = 3 ∨ a = 4) ∧ c = 0 ∧ s = e0 ∧ ∃ x, W = [wd a, x] ∧ isN x b) ∨
  (a = 2 ∧ s = e0 ∧ ∃ x y, W = [wd a, x, y] ∧ isN x b ∧ isN y c) ∨
  ((a = 5 ∨ a = 6 ∨ a = 7) ∧ b = 0 ∧ c = 0 ∧ W = [wd a, s] ∧ nmOK s = true) ∨
  (a = 8 ∧ b = 0 ∧ c = 0 ∧ s = e0 ∧ W = [wd a])
theorem isQ_head {W : List ByteArray} {a b c : Int} {s : ByteArray} (h : isQ W a b c s) : 1 ≤ a ∧ a ≤ 8 ∧ ∃ r, W = wd a :: r := by
  rcases h with ⟨h, _, _, x, e, _⟩ | ⟨h, _, x, y, e, _⟩ | ⟨h, _, _, e, _⟩ | ⟨h, _, _, _, e⟩
  · exact ⟨by omega, by omega, _, e⟩
  · exact ⟨by omega, by omega, _, e⟩
  · exact ⟨by omega, by omega, _, e⟩
  · exact ⟨by omega, by omega, _, e⟩
theorem isN_inj {x : ByteArray} {m n : Int} (h : isN x m) (g : isN x n) : m = n := by
  have h1 := dv_dec m.toNat m.toNat (Nat.le_refl _)
  have h2 := dv_dec n.toNat n.toNat (Nat.le_refl _)
  rw [← isN_data h] at h1
  rw [← isN_data g] at h2
  rw [h1] at h2
  have := Option.some.inj h2
  have := h.1; have := g.1
  omega
theorem wds_nodup : (wds.map (·.data.toList)).Nodup := by decide
theorem wd_inj {i j : Nat} (hi : i ≤ 8) (hj : j ≤ 8) (h : wd (i : Int) = wd (j : Int)) : i = j := by
  have hl : (wds.map (·.data.toList)).length = 9 := rfl
  have e : ∀ i : Nat, i ≤ 8 → (wds.map (·.data.toList))[i]? = some (wd (i : Int)).data.toList := by
    intro i hi
    have : i = 0 ∨ i = 1 ∨ i = 2 ∨ i = 3 ∨ i = 4 ∨ i = 5 ∨ i = 6 ∨ i = 7 ∨ i = 8 := by omega
    rcases this with rfl | rfl | rfl | rfl | rfl | rfl | rfl | rfl | rfl <;> rfl
  have h1 := e i hi
  have h2 := e j hj
  rw [h, ← h2] at h1
  exact (List.getElem?_inj (by omega) wds_nodup).1 h1
theorem kind_ex (w : ByteArray) : ∃ kd : Nat, kd ≤ 8 ∧ ∀ i : Nat, 1 ≤ i → i ≤ 8 → (wd (i : Int) = w ↔ i = kd) := by
  by_cases h : ∃ k : Nat, 1 ≤ k ∧ k ≤ 8 ∧ wd (k : Int) = w
  · obtain ⟨k, h1, h2, h3⟩ := h
    exact ⟨k, h2, fun i hi1 hi2 => ⟨fun e => wd_inj hi2 h2 (by rw [e, h3]), fun e => by rw [e, h3]⟩⟩
  · exact ⟨0, by omega, fun i hi1 hi2 => ⟨fun e => absurd ⟨i, hi1, hi2, e⟩ h, fun e => by omega⟩⟩
theorem jn_ge : ∀ (r : List ByteArray) (w : ByteArray), w.size + r.length ≤ (jn w r).size := by
  intro r
  induction r with
  | nil => intro w; simp [jn]
  | cons x r ih =>
    intro w
    have h := ih (w ++ (bl ++ x))
    rw [ba_size_append, ba_size_append, bl_size] at h
    rw [jn_cons, List.length_cons]
    omega
theorem said_ss (w : ByteArray) (r : List ByteArray) (v : Value) (hw : w.size ≤ 65536) (hl : r.length ≤ 1000000) (hr : ∀ x ∈ r, x.size ≤ 65536) : impl_said.f [Any.ss v (w :: r)] = some (jn w r) := by
  unfold impl_said.f
  have hfm : [Any.ss v (w :: r)].flatMap anyW = w :: r := by simp [anyW]
  rw [go_eq [Any.ss v (w :: r)] [] (by intro y hy; rw [List.mem_singleton.1 hy]; trivial) (by rw [hfm, List.length_cons, List.length_nil]; omega), Option.bind_some, hfm, List.nil_append]
  have h1 := jn_size 65536 r w hr
  have h2 : r.length * (65536 + 1) ≤ 1000000 * (65536 + 1) := Nat.mul_le_mul_right _ hl
  exact Join_jn _ _ (by omega) (by omega)
theorem told_ev {a b c : Int} {s : ByteArray} (hs : s.size ≤ 1000000000) : Ev (fun k => impl_Req_isTold.f k a b c s) (told a b c s) := by
  have hn := impl_Name_ev s hs
  unfold impl_Req_isTold.f told
  simp only [impl_isNumber.f, within_eq, Option.bind_some]
  cases hb : inB b 0 2147483647
  · exact ev_neg (by decide) (ev_some _)
  · refine ev_pos rfl ?_
    cases hc : inB c 0 2147483647
    · exact ev_neg (by decide) (ev_some _)
    · refine ev_pos rfl ?_
      cases h5 : inB a 5 7
      · exact ev_neg (by decide) (ev_some _)
      · exact ev_pos rfl (ev_bind hn (ev_some _))
def fin (w : ByteArray) (r : List ByteArray) (a b c : Int) (s : ByteArray) : Bool := okQ a b c s && (told a b c s && ((txt a b c s).toList == (jn w r).toList))
theorem j3_ev (w : ByteArray) (r : List ByteArray) (a b c : Int) (s : ByteArray) (hw : w.size ≤ 65536) (hl : r.length ≤ 1000000) (hr : ∀ x ∈ r, x.size ≤ 65536) (hs : s.size ≤ 65536) : Ev (fun k => impl_reqOf.j3 k (w :: r) true true a b c s) (a, b, c, s, fin w r a b c s) := by
  refine Ev.succ ?_
  simp only [impl_reqOf.j3]
  refine ev_pos (by trivial) (ev_pos (by trivial) (ev_bind (ok_ev a b c s).2 ?_))
  unfold fin
  cases hk : okQ a b c s
  · exact ev_neg (by decide) (ev_some _)
  · obtain ⟨h0, h1, hs'⟩ := okQ_facts hk
    refine ev_pos rfl (ev_bind (told_ev (by omega)) ?_)
    cases ht : told a b c s
    · exact ev_neg (by decide) (ev_some _)
    · obtain ⟨t1, t2, t3, t4⟩ := told_facts ht
      refine ev_pos rfl (ev_bind (impl_txt h0 h1 t1 t2 t3 t4 hs') (ev_bind (ev_of_eq fun _ => said_ss w r _ hw hl hr) ?_))
      exact ev_some _
theorem j3_no (W : List ByteArray) (x8 x9 : Bool) (a b c : Int) (s : ByteArray) (h : x8 = false ∨ x9 = false) : Ev (fun k => impl_reqOf.j3 k W x8 x9 a b c s) (a, b, c, s, false) := by
  refine Ev.succ ?_
  simp only [impl_reqOf.j3]
  rcases h with rfl | rfl
  · exact ev_neg (by decide) (ev_some _)
  · cases x8
    · exact ev_neg (by decide) (ev_some _)
    · exact ev_pos (by trivial) (ev_neg (by decide) (ev_some _))
/-- What is asked of both readers. -/
def reads (W : List ByteArray) (r : Int × Int × Int × ByteArray × Bool) : Prop := (r.2.2.2.2 = true → isQ W r.1 r.2.1 r.2.2.1 r.2.2.2.1) ∧ ∀ a b c s, isQ W a b c s → r = (a, b, c, s, true)
theorem reads_no {W : List ByteArray} (h : ∀ a b c s, ¬ isQ W a b c s) (a b c : Int) (s : ByteArray) : reads W (a, b, c, s, false) := ⟨(by intro h; cases h), fun a b c s g => absurd g (h a b c s)⟩
theorem reads_yes {W : List ByteArray} {a b c : Int} {s : ByteArray} (h : isQ W a b c s) (hu : ∀ a' b' c' s', isQ W a' b' c' s' → a' = a ∧ b' = b ∧ c' = c ∧ s' = s) : reads W (a, b, c, s, true) := ⟨fun _ => h, fun a' b' c' s' g => by obtain ⟨rfl, rfl, rfl, rfl⟩ := hu a' b' c' s' g; rfl⟩
theorem isQ_uniq {W : List ByteArray} {a b c a' b' c' : Int} {s s' : ByteArray} (h : isQ W a b c s) (g : isQ W a' b' c' s') : a' = a ∧ b' = b ∧ c' = c ∧ s' = s := by
  obtain ⟨h1, h2, r, hr⟩ := isQ_head h
  obtain ⟨g1, g2, q, hq⟩ := isQ_head g
  have ea : a' = a := by
    rw [hr] at hq
    injection hq with e1 e2
    have := wd_inj (i := a.toNat) (j := a'.toNat) (by omega) (by omega) (by rw [show ((a.toNat : Nat) : Int) = a by omega, show ((a'.toNat : Nat) : Int) = a' by omega]; exact e1)
    omega
  subst ea
  refine ⟨rfl, ?_⟩
  rcases h with ⟨h, hc, hs, x, e, n⟩ | ⟨h, hs, x, y, e, n, m⟩ | ⟨h, hb, hc, e, _⟩ | ⟨h, hb, hc, hs, e⟩ <;>
    rcases g with ⟨g, gc, gs, x', e', n'⟩ | ⟨g, gs, x', y', e', n', m'⟩ | ⟨g, gb, gc, e', _⟩ | ⟨g, gb, gc, gs, e'⟩ <;> first
    | (exfalso; omega)
    | (rw [e] at e'; injection e' with _ e'; injection e' with e' _; subst e'; exact ⟨isN_inj n' n, by omega, by rw [gs, hs]⟩)
    | (rw [e] at e'; injection e' with _ e'; injection e' with e' e2; injection e2 with e2 _; subst e'; subst e2; exact ⟨isN_inj n' n, isN_inj m' m, by rw [gs, hs]⟩)
    | (rw [e] at e'; injection e' with _ e'; injection e' with e' _; exact ⟨by omega, by omega, e'.symm⟩)
    | exact ⟨by omega, by omega, by rw [gs, hs]⟩
/-- By the kind of the first word. -/
theorem isQ_kind {w : ByteArray} {r : List ByteArray} {kd : Nat} (hk : ∀ i : Nat, 1 ≤ i → i ≤ 8 → (wd (i : Int) = w ↔ i = kd)) {a b c : Int} {s : ByteArray} (h : isQ (w :: r) a b c s) : a = (kd : Int) ∧ 1 ≤ kd := by
  obtain ⟨h1, h2, q, e⟩ := isQ_head h
  injection e with e1 e2
  have := (hk a.toNat (by omega) (by omega)).1 (by rw [show ((a.toNat : Nat) : Int) = a by omega]; exact e1.symm)
  omega
theorem fin_true {w : ByteArray} {r : List ByteArray} {a b c : Int} {s : ByteArray} (h : fin w r a b c s = true) : okQ a b c s = true ∧ told a b c s = true ∧ txt a b c s = jn w r := by
  unfold fin at h
  simp only [Bool.and_eq_true, beq_iff_eq] at h
  exact ⟨h.1, h.2.1, toList_inj.1 h.2.2⟩
theorem fin_of {w : ByteArray} {r : List ByteArray} {a b c : Int} {s : ByteArray} (h1 : okQ a b c s = true) (h2 : told a b c s = true) (h3 : txt a b c s = jn w r) : fin w r a b c s = true := by
  unfold fin
  rw [h1, h2, h3]; simp
theorem e0_nil : (e0.toList == ([] : List UInt8)) = true := by rw [ByteArray.toList_eq]; rfl
theorem okQ_num {a b c : Int} (h : a = 1 ∨ a = 2 ∨ a = 3 ∨ a = 4) (hc : a ≠ 2 → c = 0) : okQ a b c e0 = true := by
  have z : e0.size = 0 := rfl
  unfold okQ okE
  rw [e0_nil, z]
  rcases h with rfl | rfl | rfl | rfl <;> first
    | (have := hc (by decide); subst this; rfl)
    | rfl
theorem told_num {a b c : Int} (h : a = 1 ∨ a = 2 ∨ a = 3 ∨ a = 4 ∨ a = 8) (hb : 0 ≤ b ∧ b ≤ 2147483647) (hc : 0 ≤ c ∧ c ≤ 2147483647) : told a b c e0 = true := by
  unfold told
  rw [inB_iff.2 hb, inB_iff.2 hc, if_neg (by rw [inB_iff]; omega)]; rfl
theorem txt_one {a b : Int} (h : a = 1 ∨ a = 3 ∨ a = 4) (c : Int) (s : ByteArray) : txt a b c s = (wd a ++ bl) ++ dgs b := by unfold txt; rw [if_pos h]
theorem txt_two {a b c : Int} (h : a = 2) (s : ByteArray) : txt a b c s = (((wd a ++ bl) ++ dgs b) ++ bl) ++ dgs c := by unfold txt; rw [if_neg (by omega), if_pos h]
theorem txt_name {a b c : Int} (h : a = 5 ∨ a = 6 ∨ a = 7) (s : ByteArray) : txt a b c s = (wd a ++ bl) ++ s := by unfold txt; rw [if_neg (by omega), if_neg (by omega), if_neg (by omega)]
theorem txt_list {a b c : Int} (h : a = 8) (s : ByteArray) : txt a b c s = wd a := by unfold txt; rw [if_neg (by omega), if_neg (by omega), if_pos h]
theorem isQ_len {W : List ByteArray} {a b c : Int} {s : ByteArray} (h : isQ W a b c s) : (a = 1 ∨ a = 3 ∨ a = 4 → W.length = 2) ∧ (a = 2 → W.length = 3) ∧ (a = 5 ∨ a = 6 ∨ a = 7 → W.length = 2) ∧ (a = 8 → W.length = 1) := by
  rcases h with ⟨h, _, _, x, e, _⟩ | ⟨h, _, x, y, e, _⟩ | ⟨h, _, _, e, _⟩ | ⟨h, _, _, _, e⟩ <;>
    (rw [e]; refine ⟨fun h => ?_, fun h => ?_, fun h => ?_, fun h => ?_⟩ <;> first | rfl | (exfalso; omega))
theorem impl_hit (w : ByteArray) (r : List ByteArray) (kd : Nat) (h1 : 1 ≤ kd) (h8 : kd ≤ 8) (hk : ∀ i : Nat, 1 ≤ i → i ≤ 8 → (wd (i : Int) = w ↔ i = kd)) (hw : w.size ≤ 65536) (hl : r.length ≤ 1000000) (hr : ∀ x ∈ r, x.size ≤ 65536) :
    ∃ res, Ev (fun k => impl_reqOf.j1 k (w :: r) (kd : Int) wds 9 (kd : Int) false) res ∧ reads (w :: r) res := by
  have ew : wd (kd : Int) = w := (hk kd h1 h8).2 rfl
  have z0 : e0.size = 0 := rfl
  have num : (kd : Int) ≤ 4 → ∀ res, Ev (fun k => impl_reqOf.j2 k (w :: r) (kd : Int) r true true (decide ((r.length : Int) > 0)) (kd : Int) 0 0 (⟨#[]⟩ : ByteArray)) res → Ev (fun k => impl_reqOf.j1 k (w :: r) (kd : Int) wds 9 (kd : Int) false) res := by
    intro h res g
    refine Ev.succ ?_
    simp only [impl_reqOf.j1, List.tail_cons]
    exact ev_neg (by decide) (ev_pos (by rw [List.length_cons]; omega) (ev_pos h g))
  have oth : ¬ (kd : Int) ≤ 4 → ∀ res, Ev (fun k => impl_reqOf.j2 k (w :: r) (kd : Int) r true true false (kd : Int) 0 0 (⟨#[]⟩ : ByteArray)) res → Ev (fun k => impl_reqOf.j1 k (w :: r) (kd : Int) wds 9 (kd : Int) false) res := by
    intro h res g
    refine Ev.succ ?_
    simp only [impl_reqOf.j1, List.tail_cons]
    exact ev_neg (by decide) (ev_pos (by rw [List.length_cons]; omega) (ev_neg h g))
  have dsz : ∀ b : Int, 1 ≤ (dgs b).size ∨ True := fun _ => .inr trivial
  by_cases c4 : (kd : Int) ≤ 4
  · -- numbers
    have ha4 : (kd : Int) = 1 ∨ (kd : Int) = 2 ∨ (kd : Int) = 3 ∨ (kd : Int) = 4 := by omega
    cases r with
    | nil =>
      have hgo := j3_ev w [] (kd : Int) 0 0 e0 hw (by simp) (by simp) (by omega)
      have hf : fin w [] (kd : Int) 0 0 e0 = false := by
        cases h : fin w [] (kd : Int) 0 0 e0 with
        | false => rfl
        | true =>
          exfalso
          obtain ⟨_, _, ht⟩ := fin_true h
          have hz := congrArg ByteArray.size ht
          rw [show jn w [] = w from rfl] at hz
          by_cases c2 : (kd : Int) = 2
          · rw [txt_two c2, ba_size_append, ba_size_append, ba_size_append, ba_size_append, bl_size, ew] at hz; omega
          · rw [txt_one (by omega), ba_size_append, ba_size_append, bl_size, ew] at hz; omega
      rw [hf] at hgo
      refine ⟨_, num c4 _ (Ev.succ ?_), reads_no (fun a b c s g => ?_) (kd : Int) 0 0 e0⟩
      · simp only [impl_reqOf.j2, List.length_nil]
        exact ev_neg (by decide) (ev_neg (by omega) (ev_neg (by decide) hgo))
      · have hq := isQ_len g
        have := (isQ_kind hk g).1
        simp only [List.length_cons, List.length_nil] at hq
        omega
    | cons x rest =>
      have hx := hr x (by simp)
      have hrest : ∀ y ∈ rest, y.size ≤ 65536 := fun y hy => hr y (by simp [hy])
      obtain ⟨v, b, hv, hb1, hb2⟩ := readNumber_eq x (by omega)
      rw [List.length_cons] at hl
      have hone : (kd : Int) ≠ 2 → ∃ res, Ev (fun k => impl_reqOf.j3 k (w :: x :: rest) b true (kd : Int) v 0 e0) res ∧ reads (w :: x :: rest) res := by
        intro c2
        have hg : ∀ a b' c s, isQ (w :: x :: rest) a b' c s → rest = [] ∧ isN x b' := by
          intro a b' c s g
          have hkk := (isQ_kind hk g).1
          rcases g with ⟨_, _, _, x', e, n⟩ | ⟨h, _⟩ | ⟨h, _⟩ | ⟨h, _⟩
          · injection e with _ e; injection e with e1 e2; subst e1; exact ⟨e2, n⟩
          · omega
          · omega
          · omega
        cases b with
        | false =>
          refine ⟨_, j3_no _ _ _ _ _ _ _ (.inl rfl), reads_no (fun a b' c s g => ?_) _ _ _ _⟩
          have := hb2 _ (hg a b' c s g).2
          cases this
        | true =>
          have hn := hb1 rfl
          have hgo := j3_ev w (x :: rest) (kd : Int) v 0 e0 hw (by rw [List.length_cons]; omega) hr (by omega)
          refine ⟨_, hgo, ?_⟩
          have htx : txt (kd : Int) v 0 e0 = w ++ (bl ++ x) := by rw [txt_one (by omega), ew, hn.2.2, ba_assoc]
          cases hf : fin w (x :: rest) (kd : Int) v 0 e0 with
          | false =>
            refine reads_no (fun a b' c s g => ?_) _ _ _ _
            have hre := (hg a b' c s g).1
            subst hre
            rw [fin_of (okQ_num ha4 (fun _ => rfl)) (told_num (by omega) ⟨hn.1, hn.2.1⟩ (by omega)) (show txt (kd : Int) v 0 e0 = jn w [x] from htx)] at hf
            cases hf
          | true =>
            obtain ⟨_, _, ht⟩ := fin_true hf
            rw [htx, jn_cons] at ht
            have hz := congrArg ByteArray.size ht
            have hj := jn_ge rest (w ++ (bl ++ x))
            have hre : rest = [] := List.length_eq_zero_iff.1 (by omega)
            subst hre
            have hq : isQ [w, x] (kd : Int) v 0 e0 := .inl ⟨by omega, rfl, rfl, x, by rw [ew], hn⟩
            exact reads_yes hq (fun a' b' c' s' g => isQ_uniq hq g)
      by_cases c2 : (kd : Int) = 2
      · cases rest with
        | nil =>
          have hno : ∀ a b' c s, ¬ isQ [w, x] a b' c s := by
            intro a b' c s g
            have hq := isQ_len g
            have := (isQ_kind hk g).1
            simp only [List.length_cons, List.length_nil] at hq
            omega
          have hj3 : Ev (fun k => impl_reqOf.j3 k [w, x] b true (kd : Int) v 0 e0) ((kd : Int), v, 0, e0, false) := by
            cases b with
            | false => exact j3_no _ _ _ _ _ _ _ (.inl rfl)
            | true =>
              have hn := hb1 rfl
              have hgo := j3_ev w [x] (kd : Int) v 0 e0 hw (by simp) hr (by omega)
              cases hf : fin w [x] (kd : Int) v 0 e0 with
              | false => rw [hf] at hgo; exact hgo
              | true =>
                exfalso
                obtain ⟨_, _, ht⟩ := fin_true hf
                have hz := congrArg ByteArray.size ht
                rw [show jn w [x] = w ++ (bl ++ x) from rfl, txt_two c2, hn.2.2, ba_size_append, ba_size_append, ba_size_append, ba_size_append, ba_size_append, ba_size_append, bl_size, ew] at hz
                omega
          refine ⟨_, num c4 _ (Ev.succ ?_), reads_no hno (kd : Int) v 0 e0⟩
          simp only [impl_reqOf.j2, List.length_cons, List.length_nil]
          exact ev_pos (decide_eq_true (by omega)) (ev_pos (by omega) (ev_bind (ev_of_eq fun _ => hv) (ev_pos c2 (ev_neg (by omega) hj3))))
        | cons y rest =>
          have hy := hr y (by simp)
          obtain ⟨v2, b2, hv2, hc1, hc2⟩ := readNumber_eq y (by omega)
          have hg : ∀ a b' c s, isQ (w :: x :: y :: rest) a b' c s → rest = [] ∧ isN x b' ∧ isN y c := by
            intro a b' c s g
            have hkk := (isQ_kind hk g).1
            rcases g with ⟨h, _⟩ | ⟨_, _, x', y', e, n, m⟩ | ⟨h, _⟩ | ⟨h, _⟩
            · omega
            · injection e with _ e; injection e with e1 e; injection e with e2 e3; subst e1; subst e2; exact ⟨e3, n, m⟩
            · omega
            · omega
          have hj3 : ∃ res, Ev (fun k => impl_reqOf.j3 k (w :: x :: y :: rest) b b2 (kd : Int) v v2 e0) res ∧ reads (w :: x :: y :: rest) res := by
            by_cases cb : b = false ∨ b2 = false
            · refine ⟨_, j3_no _ _ _ _ _ _ _ cb, reads_no (fun a b' c s g => ?_) _ _ _ _⟩
              obtain ⟨_, g1, g2⟩ := hg a b' c s g
              have := hb2 _ g1
              have := hc2 _ g2
              rcases cb with h | h <;> simp_all
            · have eb : b = true := by cases b with | false => exact absurd (.inl rfl) cb | true => rfl
              have eb2 : b2 = true := by cases b2 with | false => exact absurd (.inr rfl) cb | true => rfl
              subst eb; subst eb2
              have hn := hb1 rfl
              have hm := hc1 rfl
              have hgo := j3_ev w (x :: y :: rest) (kd : Int) v v2 e0 hw (by rw [List.length_cons]; omega) hr (by omega)
              refine ⟨_, hgo, ?_⟩
              have htx : txt (kd : Int) v v2 e0 = (w ++ (bl ++ x)) ++ (bl ++ y) := by rw [txt_two c2, ew, hn.2.2, hm.2.2]; simp only [ba_assoc]
              cases hf : fin w (x :: y :: rest) (kd : Int) v v2 e0 with
              | false =>
                refine reads_no (fun a b' c s g => ?_) _ _ _ _
                have hre := (hg a b' c s g).1
                subst hre
                rw [fin_of (okQ_num ha4 (fun h => absurd c2 h)) (told_num (by omega) ⟨hn.1, hn.2.1⟩ ⟨hm.1, hm.2.1⟩) (show txt (kd : Int) v v2 e0 = jn w [x, y] from htx)] at hf
                cases hf
              | true =>
                obtain ⟨_, _, ht⟩ := fin_true hf
                rw [htx, jn_cons, jn_cons] at ht
                have hz := congrArg ByteArray.size ht
                have hj := jn_ge rest ((w ++ (bl ++ x)) ++ (bl ++ y))
                have hre : rest = [] := List.length_eq_zero_iff.1 (by omega)
                subst hre
                have hq : isQ [w, x, y] (kd : Int) v v2 e0 := .inr (.inl ⟨c2, rfl, x, y, by rw [ew], hn, hm⟩)
                exact reads_yes hq (fun a' b' c' s' g => isQ_uniq hq g)
          obtain ⟨res, h3, hR⟩ := hj3
          refine ⟨res, num c4 _ (Ev.succ ?_), hR⟩
          simp only [impl_reqOf.j2, List.length_cons]
          exact ev_pos (decide_eq_true (by omega)) (ev_pos (by omega) (ev_bind (ev_of_eq fun _ => hv) (ev_pos c2 (ev_pos (by omega) (ev_pos (by omega) (ev_bind (ev_of_eq fun _ => hv2) h3))))))
      · obtain ⟨res, h3, hR⟩ := hone c2
        refine ⟨res, num c4 _ (Ev.succ ?_), hR⟩
        simp only [impl_reqOf.j2, List.length_cons]
        exact ev_pos (decide_eq_true (by omega)) (ev_pos (by omega) (ev_bind (ev_of_eq fun _ => hv) (ev_neg c2 h3)))
  · by_cases c8 : (kd : Int) = 8
    · have hgo := j3_ev w r (kd : Int) 0 0 e0 hw hl hr (by omega)
      have htx : txt (kd : Int) 0 0 e0 = w := by rw [txt_list c8, ew]
      have hok : okQ (kd : Int) 0 0 e0 = true := by rw [c8]; unfold okQ okE; rw [e0_nil, z0]; rfl
      have hto : told (kd : Int) 0 0 e0 = true := told_num (by omega) (by omega) (by omega)
      refine ⟨((kd : Int), 0, 0, e0, fin w r (kd : Int) 0 0 e0), oth c4 _ (Ev.succ ?_), ?_⟩
      · simp only [impl_reqOf.j2]
        exact ev_neg (by decide) (ev_pos c8 hgo)
      · cases hf : fin w r (kd : Int) 0 0 e0 with
        | false =>
          refine reads_no (fun a b' c s g => ?_) _ _ _ _
          have hq := isQ_len g
          have := (isQ_kind hk g).1
          rw [List.length_cons] at hq
          have hre : r = [] := List.length_eq_zero_iff.1 (by omega)
          subst hre
          rw [fin_of hok hto (show txt (kd : Int) 0 0 e0 = jn w [] from htx)] at hf
          cases hf
        | true =>
          obtain ⟨_, _, ht⟩ := fin_true hf
          rw [htx] at ht
          have hz := congrArg ByteArray.size ht
          have hj := jn_ge r w
          have hre : r = [] := List.length_eq_zero_iff.1 (by omega)
          subst hre
          have hq : isQ [w] (kd : Int) 0 0 e0 := .inr (.inr (.inr ⟨c8, rfl, rfl, rfl, by rw [ew]⟩))
          exact reads_yes hq (fun a' b' c' s' g => isQ_uniq hq g)
    · have h57 : (kd : Int) = 5 ∨ (kd : Int) = 6 ∨ (kd : Int) = 7 := by omega
      cases r with
      | nil =>
        have hgo := j3_ev w [] (kd : Int) 0 0 e0 hw (by simp) (by simp) (by omega)
        have hf : fin w [] (kd : Int) 0 0 e0 = false := by
          cases h : fin w [] (kd : Int) 0 0 e0 with
          | false => rfl
          | true =>
            exfalso
            obtain ⟨_, ht, _⟩ := fin_true h
            unfold told at ht
            rw [if_pos (by rw [inB_iff]; omega)] at ht
            have : nmOK e0 = false := by decide
            rw [this] at ht
            simp at ht
        rw [hf] at hgo
        refine ⟨_, oth c4 _ (Ev.succ ?_), reads_no (fun a b c s g => ?_) (kd : Int) 0 0 e0⟩
        · simp only [impl_reqOf.j2, List.length_nil]
          exact ev_neg (by decide) (ev_neg c8 (ev_neg (by decide) hgo))
        · have hq := isQ_len g
          have := (isQ_kind hk g).1
          simp only [List.length_cons, List.length_nil] at hq
          omega
      | cons x rest =>
        have hx := hr x (by simp)
        have hgo := j3_ev w (x :: rest) (kd : Int) 0 0 x hw hl hr hx
        have htx : txt (kd : Int) 0 0 x = w ++ (bl ++ x) := by rw [txt_name h57, ew, ba_assoc]
        have hok : okQ (kd : Int) 0 0 x = true := by
          unfold okQ okE
          rw [inB_iff.2 (by omega), decide_eq_false (show ¬ (x.size : Int) > 65536 by omega), if_neg (by omega), if_neg (by omega), if_neg (by omega)]; rfl
        have hto : told (kd : Int) 0 0 x = nmOK x := by
          unfold told
          rw [if_pos (by rw [inB_iff]; omega)]; rfl
        refine ⟨((kd : Int), 0, 0, x, fin w (x :: rest) (kd : Int) 0 0 x), oth c4 _ (Ev.succ ?_), ?_⟩
        · simp only [impl_reqOf.j2, List.length_cons]
          exact ev_neg (by decide) (ev_neg c8 (ev_pos (by omega) (ev_pos (by omega) hgo)))
        · cases hf : fin w (x :: rest) (kd : Int) 0 0 x with
          | false =>
            refine reads_no (fun a b' c s g => ?_) _ _ _ _
            have hkk := (isQ_kind hk g).1
            rcases g with ⟨h, _⟩ | ⟨h, _⟩ | ⟨_, _, _, e, nm⟩ | ⟨h, _⟩
            · omega
            · omega
            · injection e with _ e; injection e with e1 e2; subst e1; subst e2
              rw [fin_of hok (by rw [hto, nm]) (show txt (kd : Int) 0 0 x = jn w [x] from htx)] at hf
              cases hf
            · omega
          | true =>
            obtain ⟨_, hto2, ht⟩ := fin_true hf
            rw [htx, jn_cons] at ht
            have hz := congrArg ByteArray.size ht
            have hj := jn_ge rest (w ++ (bl ++ x))
            have hre : rest = [] := List.length_eq_zero_iff.1 (by omega)
            subst hre
            have hq : isQ [w, x] (kd : Int) 0 0 x := .inr (.inr (.inl ⟨h57, rfl, rfl, by rw [ew], by rw [← hto, hto2]⟩))
            exact reads_yes hq (fun a' b' c' s' g => isQ_uniq hq g)
theorem kind_no {w : ByteArray} {r : List ByteArray} (hk : ∀ i : Nat, 1 ≤ i → i ≤ 8 → (wd (i : Int) = w ↔ i = 0)) : ∀ a b c s, ¬ isQ (w :: r) a b c s := by
  intro a b c s g
  have := isQ_kind hk g
  omega
theorem impl_reads (W : List ByteArray) (hW : ∀ x ∈ W, x.size ≤ 65536) (hl : W.length ≤ 1000000) : ∃ res, Ev (fun k => impl_reqOf.f k W) res ∧ reads W res := by
  cases W with
  | nil =>
    refine ⟨(0, 0, 0, e0, false), ?_, reads_no (fun a b c s g => ?_) 0 0 0 e0⟩
    · unfold impl_reqOf.f
      exact ev_pos (by rfl) (ev_some _)
    · obtain ⟨_, _, r, e⟩ := isQ_head g; cases e
  | cons w r =>
    rw [List.length_cons] at hl
    obtain ⟨kd, h8, hk⟩ := kind_ex w
    have hlen : (wds.length : Int) = 9 := rfl
    have hr0 : ∀ i : Nat, rdOf ByteArray.empty wds (i : Int) = wd (i : Int) := fun _ => rfl
    have hw0 : rdOf ByteArray.empty (w :: r) 0 = w := rfl
    have enter : ∀ res, Ev (fun k => impl_reqOf.l0 k (w :: r) wds 9 ((0 : Nat) : Int)) res → Ev (fun k => impl_reqOf.f k (w :: r)) res := by
      intro res h
      unfold impl_reqOf.f
      refine ev_neg (by rw [List.length_cons]; omega) (ev_bind (ev_of_eq fun _ => (rfl : impl_reqWords.f = some wds)) ?_)
      exact h
    have step : ∀ (i : Nat) res, i < 9 → (i ≠ 0 → wd (i : Int) ≠ w) → Ev (fun k => impl_reqOf.l0 k (w :: r) wds 9 ((i + 1 : Nat) : Int)) res → Ev (fun k => impl_reqOf.l0 k (w :: r) wds 9 (i : Int)) res := by
      intro i res hi hne h
      have hj : Ev (fun k => impl_reqOf.j1 k (w :: r) (i : Int) wds 9 (i : Int) true) res := by
        refine Ev.succ ?_
        simp only [impl_reqOf.j1]
        rw [wnext i (by omega)]
        exact ev_pos (by trivial) h
      refine Ev.succ ?_
      simp only [impl_reqOf.l0, hr0, hw0]
      refine ev_pos (by omega) (ev_pos (by omega) (ev_pos (by omega) ?_))
      by_cases c : i = 0
      · exact ev_pos (by omega) hj
      · have e : ((wd (i : Int)).toList != w.toList) = true := by
          rw [bne_iff_ne]; exact fun e => hne c (toList_inj.1 e)
        rw [e]
        exact ev_neg (by omega) (ev_pos (by rw [List.length_cons]; omega) hj)
    by_cases c0 : kd = 0
    · subst c0
      refine ⟨(0, 0, 0, e0, false), enter _ ?_, reads_no (kind_no hk) 0 0 0 e0⟩
      have key : ∀ d i : Nat, 9 - i = d → i ≤ 9 → Ev (fun k => impl_reqOf.l0 k (w :: r) wds 9 (i : Int)) (0, 0, 0, e0, false) := by
        intro d
        induction d with
        | zero =>
          intro i hd hi
          refine Ev.succ ?_
          simp only [impl_reqOf.l0]
          exact ev_neg (by omega) (ev_some _)
        | succ d ih =>
          intro i hd hi
          exact step i _ (by omega) (fun hi0 e => by have := (hk i (by omega) (by omega)).1 e; omega) (ih (i + 1) (by omega) (by omega))
      exact key 9 0 (by omega) (by omega)
    · obtain ⟨res, h, hR⟩ := impl_hit w r kd (by omega) h8 hk (hW w (by simp)) (by omega) (fun x hx => hW x (by simp [hx]))
      refine ⟨res, enter _ ?_, hR⟩
      have key : ∀ d i : Nat, kd - i = d → i ≤ kd → Ev (fun k => impl_reqOf.l0 k (w :: r) wds 9 (i : Int)) res := by
        intro d
        induction d with
        | zero =>
          intro i hd hi
          have e : i = kd := by omega
          subst e
          refine Ev.succ ?_
          simp only [impl_reqOf.l0, hr0, hw0]
          have e : ((wd (i : Int)).toList != w.toList) = false := by rw [(hk i (by omega) h8).2 rfl]; simp
          rw [e]
          exact ev_pos (by omega) (ev_pos (by omega) (ev_pos (by omega) (ev_neg (by omega) (ev_pos (by rw [List.length_cons]; omega) h))))
        | succ d ih =>
          intro i hd hi
          exact step i _ (by omega) (fun hi0 e => by have := (hk i (by omega) (by omega)).1 e; omega) (ih (i + 1) (by omega) (by omega))
      exact key kd 0 (by omega) (by omega)
/-- The statement's reader, behind the words. -/
theorem spec_l1_end (W : List ByteArray) (xs : List Int) (i a : Int) (r : Int × Int × Int × ByteArray × Bool) (hi : (W.length : Int) ≤ i) (h : xs = [] ∧ r = (a, 0, 0, e0, true) ∨ (∃ x, xs = [x] ∧ r = (a, x, 0, e0, true)) ∨ ∃ x y, xs = [x, y] ∧ r = (a, x, y, e0, true)) : Ev (fun k => spec_l13Read.l1 k W xs i a 0 0 e0) r := by
  refine Ev.succ ?_
  simp only [spec_l13Read.l1]
  refine ev_neg (by omega) ?_
  rcases h with ⟨rfl, rfl⟩ | ⟨x, rfl, rfl⟩ | ⟨x, y, rfl, rfl⟩
  · exact ev_neg (by decide) (ev_neg (by decide) (ev_some _))
  · exact ev_pos (by simp) (ev_pos (by simp) (ev_neg (by simp) (ev_some _)))
  · exact ev_pos (by simp) (ev_pos (by simp) (ev_pos (by simp) (ev_pos (by simp) (ev_some _))))
theorem spec_l1_step (W : List ByteArray) (xs : List Int) (i : Nat) (a : Int) (x : ByteArray) (hi : W[i]? = some x) (hi9 : i ≤ 100) (hx : x.size ≤ 65536) (hxs : xs.length ≤ 100) :
    (∃ n, isN x n ∧ ∀ r, Ev (fun k => spec_l13Read.l1 k W (xs ++ [n]) ((i + 1 : Nat) : Int) a 0 0 e0) r → Ev (fun k => spec_l13Read.l1 k W xs (i : Int) a 0 0 e0) r) ∨
    ((∀ n, ¬ isN x n) ∧ Ev (fun k => spec_l13Read.l1 k W xs (i : Int) a 0 0 e0) (0, 0, 0, e0, false)) := by
  obtain ⟨hlt, hget⟩ := List.getElem?_eq_some_iff.1 hi
  have hrd : rdOf ByteArray.empty W (i : Int) = x := by simp [rdOf, hi]
  obtain ⟨v, b, hv, h1, h2⟩ := number_ev x (by omega)
  have bad : (b = false ∨ inB v 0 2147483647 = false) → Ev (fun k => spec_l13Read.l1 k W xs (i : Int) a 0 0 e0) (0, 0, 0, e0, false) := by
    intro h
    refine Ev.succ ?_
    simp only [spec_l13Read.l1, hrd]
    refine ev_pos (by omega) (ev_pos (by omega) (ev_bind hv ?_))
    cases b with
    | false => exact ev_neg Bool.false_ne_true (ev_some _)
    | true =>
      refine ev_pos rfl ?_
      simp only [spec_l02Int.f, l01In_eq, Option.bind_some]
      rcases h with h | h
      · cases h
      · rw [h]; exact ev_neg (by decide) (ev_some _)
  cases b with
  | false => exact .inr ⟨fun n g => (by have := (h2 n g).1; cases this), bad (.inl rfl)⟩
  | true =>
    cases hb : inB v 0 2147483647 with
    | false => exact .inr ⟨fun n g => (by have e := (h2 n g).2; subst e; exact inB_no.1 hb ⟨g.1, g.2.1⟩), bad (.inr hb)⟩
    | true =>
      have hb' := inB_iff.1 hb
      refine .inl ⟨v, h1 rfl hb'.1 hb'.2, fun r h => ?_⟩
      refine Ev.succ ?_
      simp only [spec_l13Read.l1, hrd]
      refine ev_pos (by omega) (ev_pos (by omega) (ev_bind hv (ev_pos (by trivial) ?_)))
      simp only [spec_l02Int.f, l01In_eq, Option.bind_some, hb]
      rw [wnext i (by omega)]
      exact ev_pos (by trivial) (ev_pos (by omega) h)
def specTail (k : Nat) (W : List ByteArray) : Option (Int × Int × Int × ByteArray × Bool) := if (W.length : Int) = 0 then (some (0, 0, 0, (⟨#[]⟩ : ByteArray), false)) else ((spec_l13Words.f).bind fun t121 => (spec_l13Read.l0 k W t121 1 0 0 0 (⟨#[]⟩ : ByteArray)))
theorem spec_reads (W : List ByteArray) (hW : ∀ x ∈ W, x.size ≤ 65536) (hl : W.length ≤ 1000000) : ∃ res, Ev (fun k => specTail k W) res ∧ reads W res := by
  cases W with
  | nil =>
    refine ⟨(0, 0, 0, e0, false), ?_, reads_no (fun a b c s g => ?_) 0 0 0 e0⟩
    · unfold specTail
      exact ev_pos (by rfl) (ev_some _)
    · obtain ⟨_, _, r, e⟩ := isQ_head g; cases e
  | cons w r =>
    have hl' := hl
    rw [List.length_cons] at hl'
    obtain ⟨kd, h8, hk⟩ := kind_ex w
    have hlen : (wds.length : Int) = 9 := rfl
    have hr0 : ∀ i : Nat, rdOf ByteArray.empty wds (i : Int) = wd (i : Int) := fun _ => rfl
    have hw0 : rdOf ByteArray.empty (w :: r) 0 = w := rfl
    have enter : ∀ res, Ev (fun k => spec_l13Read.l0 k (w :: r) wds ((9 : Nat) : Int) (kd : Int) 0 0 e0) res → Ev (fun k => specTail k (w :: r)) res := by
      intro res h
      have key : ∀ d i : Nat, 9 - i = d → 1 ≤ i → i ≤ 9 → Ev (fun k => spec_l13Read.l0 k (w :: r) wds (i : Int) (if kd < i then (kd : Int) else 0) 0 0 e0) res := by
        intro d
        induction d with
        | zero =>
          intro i hd h1 hi
          have e : i = 9 := by omega
          subst e
          rw [if_pos (by omega)]; exact h
        | succ d ih =>
          intro i hd h1 hi
          have ih' := ih (i + 1) (by omega) (by omega) (by omega)
          refine Ev.succ ?_
          simp only [spec_l13Read.l0, hr0, hw0]
          rw [wnext i (by omega)]
          refine ev_pos (by rw [hlen]; omega) (ev_pos (by omega) (ev_pos (by rw [List.length_cons]; omega) ?_))
          by_cases c : i = kd
          · rw [if_pos (by omega), ← c] at ih'
            exact ev_pos (by rw [(hk i h1 (by omega)).2 c]) ih'
          · have e : (if kd < i + 1 then (kd : Int) else 0) = if kd < i then (kd : Int) else 0 := by
              by_cases c2 : kd < i
              · rw [if_pos c2, if_pos (by omega)]
              · rw [if_neg c2, if_neg (by omega)]
            rw [e] at ih'
            exact ev_neg (fun e => c ((hk i h1 (by omega)).1 (toList_inj.1 e))) ih'
      unfold specTail
      refine ev_neg (by rw [List.length_cons]; omega) (ev_bind (ev_of_eq fun _ => (rfl : spec_l13Words.f = some wds)) ?_)
      have := key 8 1 (by omega) (by omega) (by omega)
      by_cases c : kd < 1
      · have e : kd = 0 := by omega
        rw [if_pos c, e] at this; exact this
      · rw [if_neg c] at this; exact this
    have body : ∀ (n : Int) res, (([0, 2, 3, 2, 2, 2, 2, 2, 1] : List Int)[kd]? = some n) → (((w :: r).length : Int) = n → Ev (fun k => (spec_l01In.f (kd : Int) 5 7).bind fun t130 => (if t130 = true then (if 1 < ((w :: r).length : Int) then ((spec_l10Name.f k (rdOf ByteArray.empty (w :: r) 1)).bind fun t132 => (some ((kd : Int), 0, 0, rdOf ByteArray.empty (w :: r) 1, t132))) else (none)) else (spec_l13Read.l1 k (w :: r) (([] : List Int)) 1 (kd : Int) 0 0 e0))) res) → (((w :: r).length : Int) ≠ n → res = (0, 0, 0, e0, false)) → Ev (fun k => spec_l13Read.l0 k (w :: r) wds ((9 : Nat) : Int) (kd : Int) 0 0 e0) res := by
      intro n res hn h1 h2
      have hrd : rd ([0, 2, 3, 2, 2, 2, 2, 2, 1] : List Int) (kd : Int) = n := by simp [rd, hn]
      refine Ev.succ ?_
      simp only [spec_l13Read.l0]
      refine ev_neg (by rw [hlen]; omega) (ev_bind (ev_some _) (ev_pos (by omega) (ev_pos (by simp; omega) ?_)))
      rw [hrd]
      by_cases c : ((w :: r).length : Int) = n
      · exact ev_pos c (h1 c)
      · rw [h2 c]; exact ev_neg c (ev_some _)
    by_cases c0 : kd = 0
    · subst c0
      exact ⟨_, enter _ (body 0 _ rfl (fun h => by rw [List.length_cons] at h; omega) (fun _ => rfl)), reads_no (kind_no hk) _ _ _ _⟩
    have ew : wd (kd : Int) = w := (hk kd (by omega) h8).2 rfl
    by_cases c8 : kd = 8
    · have hq : isQ [w] (kd : Int) 0 0 e0 := .inr (.inr (.inr ⟨by omega, rfl, rfl, rfl, by rw [ew]⟩))
      by_cases cr : r = []
      · subst cr
        refine ⟨((kd : Int), 0, 0, e0, true), enter _ (body 1 _ (by subst c8; rfl) (fun _ => ?_) (fun h => absurd rfl h)), reads_yes hq (fun a' b' c' s' g => isQ_uniq hq g)⟩
        refine ev_bind (ev_of_eq fun _ => l01In_eq _ _ _) (ev_neg (by rw [inB_iff]; omega) (spec_l1_end _ _ _ _ _ (by simp) (.inl ⟨rfl, rfl⟩)))
      · have hrl : r.length ≠ 0 := fun e => cr (List.length_eq_zero_iff.1 e)
        refine ⟨(0, 0, 0, e0, false), enter _ (body 1 _ (by subst c8; rfl) (fun h => by rw [List.length_cons] at h; omega) (fun _ => rfl)), reads_no (fun a b c s g => ?_) _ _ _ _⟩
        have h1 := isQ_len g
        have h2 := (isQ_kind hk g).1
        rw [List.length_cons] at h1
        omega
    by_cases c2 : kd = 2
    · by_cases cr : r.length = 2
      · obtain ⟨x, y, rfl⟩ : ∃ x y, r = [x, y] := by
          match r, cr with
          | [x, y], _ => exact ⟨x, y, rfl⟩
        have hg : ∀ a b c s, isQ [w, x, y] a b c s → isN x b ∧ isN y c := by
          intro a b' c s g
          have hkk := (isQ_kind hk g).1
          rcases g with ⟨h, _⟩ | ⟨_, _, x', y', e, n, m⟩ | ⟨h, _⟩ | ⟨h, _⟩
          · omega
          · injection e with _ e; injection e with e1 e; injection e with e2 e3; subst e1; subst e2; exact ⟨n, m⟩
          · omega
          · omega
        have go : ∀ res, Ev (fun k => spec_l13Read.l1 k [w, x, y] [] ((1 : Nat) : Int) (kd : Int) 0 0 e0) res → Ev (fun k => specTail k [w, x, y]) res := by
          intro res h
          exact enter _ (body 3 _ (by subst c2; rfl) (fun _ => ev_bind (ev_of_eq fun _ => l01In_eq _ _ _) (ev_neg (by rw [inB_iff]; omega) h)) (fun h => absurd rfl h))
        rcases spec_l1_step [w, x, y] [] 1 (kd : Int) x rfl (by omega) (hW x (by simp)) (by simp) with ⟨n, hn, h1⟩ | ⟨hn, h1⟩
        · rcases spec_l1_step [w, x, y] [n] 2 (kd : Int) y rfl (by omega) (hW y (by simp)) (by simp) with ⟨m, hm, h2⟩ | ⟨hm, h2⟩
          · have hq : isQ [w, x, y] (kd : Int) n m e0 := .inr (.inl ⟨by omega, rfl, x, y, by rw [ew], hn, hm⟩)
            exact ⟨_, go _ (h1 _ (h2 _ (spec_l1_end _ _ _ _ _ (by simp) (.inr (.inr ⟨n, m, rfl, rfl⟩))))), reads_yes hq (fun a' b' c' s' g => isQ_uniq hq g)⟩
          · exact ⟨_, go _ (h1 _ h2), reads_no (fun a b c s g => hm _ (hg a b c s g).2) _ _ _ _⟩
        · exact ⟨_, go _ h1, reads_no (fun a b c s g => hn _ (hg a b c s g).1) _ _ _ _⟩
      · refine ⟨(0, 0, 0, e0, false), enter _ (body 3 _ (by subst c2; rfl) (fun h => by rw [List.length_cons] at h; omega) (fun _ => rfl)), reads_no (fun a b c s g => ?_) _ _ _ _⟩
        have h1 := isQ_len g
        have h2 := (isQ_kind hk g).1
        rw [List.length_cons] at h1
        omega
    have hn2 : ([0, 2, 3, 2, 2, 2, 2, 2, 1] : List Int)[kd]? = some 2 := by
      have : kd = 1 ∨ kd = 3 ∨ kd = 4 ∨ kd = 5 ∨ kd = 6 ∨ kd = 7 := by omega
      rcases this with rfl | rfl | rfl | rfl | rfl | rfl <;> rfl
    by_cases cr : r.length = 1
    · obtain ⟨x, rfl⟩ : ∃ x, r = [x] := by
        match r, cr with
        | [x], _ => exact ⟨x, rfl⟩
      by_cases c57 : 5 ≤ kd
      · have hx := hW x (by simp)
        have hx1 : rdOf ByteArray.empty [w, x] 1 = x := rfl
        refine ⟨((kd : Int), 0, 0, x, nmOK x), enter _ (body 2 _ hn2 (fun _ => ?_) (fun h => absurd rfl h)), ?_⟩
        · rw [hx1]
          exact ev_bind (ev_of_eq fun _ => l01In_eq _ _ _) (ev_pos (by rw [inB_iff]; omega) (ev_pos (by simp) (ev_bind (spec_Name_ev x (by omega)) (ev_some _))))
        · cases hnm : nmOK x with
          | true =>
            have hq : isQ [w, x] (kd : Int) 0 0 x := .inr (.inr (.inl ⟨by omega, rfl, rfl, by rw [ew], hnm⟩))
            exact reads_yes hq (fun a' b' c' s' g => isQ_uniq hq g)
          | false =>
            refine reads_no (fun a b c s g => ?_) _ _ _ _
            have hkk := (isQ_kind hk g).1
            rcases g with ⟨h, _⟩ | ⟨h, _⟩ | ⟨_, _, _, e, nm⟩ | ⟨h, _⟩
            · omega
            · omega
            · injection e with _ e; injection e with e1 e2; subst e1; rw [hnm] at nm; cases nm
            · omega
      · have go : ∀ res, Ev (fun k => spec_l13Read.l1 k [w, x] [] ((1 : Nat) : Int) (kd : Int) 0 0 e0) res → Ev (fun k => specTail k [w, x]) res := by
          intro res h
          exact enter _ (body 2 _ hn2 (fun _ => ev_bind (ev_of_eq fun _ => l01In_eq _ _ _) (ev_neg (by rw [inB_iff]; omega) h)) (fun h => absurd rfl h))
        rcases spec_l1_step [w, x] [] 1 (kd : Int) x rfl (by omega) (hW x (by simp)) (by simp) with ⟨n, hn, h1⟩ | ⟨hn, h1⟩
        · have hq : isQ [w, x] (kd : Int) n 0 e0 := .inl ⟨by omega, rfl, rfl, x, by rw [ew], hn⟩
          exact ⟨_, go _ (h1 _ (spec_l1_end _ _ _ _ _ (by simp) (.inr (.inl ⟨n, rfl, rfl⟩)))), reads_yes hq (fun a' b' c' s' g => isQ_uniq hq g)⟩
        · refine ⟨_, go _ h1, reads_no (fun a b c s g => ?_) _ _ _ _⟩
          have hkk := (isQ_kind hk g).1
          rcases g with ⟨_, _, _, x', e, n⟩ | ⟨h, _⟩ | ⟨h, _⟩ | ⟨h, _⟩
          · injection e with _ e; injection e with e1 e2; subst e1; exact hn _ n
          · omega
          · omega
          · omega
    · refine ⟨(0, 0, 0, e0, false), enter _ (body 2 _ hn2 (fun h => by rw [List.length_cons] at h; omega) (fun _ => rfl)), reads_no (fun a b c s g => ?_) _ _ _ _⟩
      have h1 := isQ_len g
      have h2 := (isQ_kind hk g).1
      rw [List.length_cons] at h1
      omega
theorem reads_both {W : List ByteArray} {r q : Int × Int × Int × ByteArray × Bool} (h : reads W r) (g : reads W q) : r.2.2.2.2 = q.2.2.2.2 ∧ (r.2.2.2.2 = true → q = r) := by
  cases hr : r.2.2.2.2 with
  | true =>
    have e := g.2 _ _ _ _ (h.1 hr)
    have e2 : q = r := by
      rw [e]
      obtain ⟨a, b, c, s, f⟩ := r
      simp only at hr
      rw [hr]
    exact ⟨by rw [e2, hr], fun _ => e2⟩
  | false =>
    refine ⟨?_, fun h => by cases h⟩
    cases hq : q.2.2.2.2 with
    | false => rfl
    | true =>
      have e := h.2 _ _ _ _ (g.1 hq)
      rw [e] at hr; cases hr
theorem readReq_both (s : ByteArray) : ∃ R, Ev (fun k => spec_ReadReq.f k s) R ∧ Ev (fun k => impl_ReadReq.f k s) R ∧ (s.size ≤ 65536 → (∀ a b c t, isQ (ws s) a b c t → R = (a, b, c, t, 0)) ∧ ((∀ a b c t, ¬ isQ (ws s) a b c t) → R.2.2.2.2 = 3)) := by
  by_cases hz : (s.size : Int) > 65536
  · refine ⟨(0, 0, 0, e0, 2), ?_, ?_, fun h => by omega⟩
    · unfold spec_ReadReq.f; exact ev_pos hz (ev_some _)
    · unfold impl_ReadReq.f impl_isLongText.f
      exact ev_bind (ev_some _) (ev_pos (decide_eq_true hz) (ev_some _))
  · have hW : ∀ x ∈ ws s, x.size ≤ 65536 := fun x hx => by have := (ws_mem hx).2; omega
    have hlen : (ws s).length ≤ 1000000 := by
      have h1 : ∀ (l cur : List UInt8), (wsL cur l).length ≤ l.length + 1 := by
        intro l
        induction l with
        | nil => intro cur; simp only [wsL]; split <;> simp
        | cons c l ih =>
          intro cur
          simp only [wsL, List.length_cons]
          have i1 := ih []
          have i2 := ih (cur ++ [c])
          split
          · split
            · omega
            · rw [List.length_cons]; omega
          · omega
      have h2 := h1 s.data.toList []
      have h3 : s.data.toList.length = s.size := by rw [Array.length_toList]; rfl
      unfold ws
      rw [List.length_map]
      omega
    obtain ⟨r, hs, hr⟩ := spec_reads (ws s) hW hlen
    obtain ⟨q, hi, hq⟩ := impl_reads (ws s) hW hlen
    have hS : Ev (fun k => spec_l13Read.f k s) r := by
      unfold spec_l13Read.f
      exact ev_bind (spec_words_ev s (by omega)) hs
    obtain ⟨hf, he⟩ := reads_both hr hq
    have hI : ∀ R, Ev (fun k => (impl_reqOf.f k (ws s)).bind fun bt223 => (if bt223.2.2.2.2 = true then (some (bt223.1, bt223.2.1, bt223.2.2.1, bt223.2.2.2.1, (0 : Int))) else (some (0, 0, 0, (⟨#[]⟩ : ByteArray), 3)))) R → Ev (fun k => impl_ReadReq.f k s) R := by
      intro R h
      unfold impl_ReadReq.f impl_isLongText.f
      exact ev_bind (ev_some _) (ev_neg (by simpa using hz) (ev_bind (ev_of_eq fun _ => words_eq s (by omega)) h))
    cases hfl : r.2.2.2.2 with
    | true =>
      have e := he hfl
      refine ⟨(r.1, r.2.1, r.2.2.1, r.2.2.2.1, 0), ?_, hI _ (ev_bind hi ?_), fun _ => ⟨fun a b c t g => ?_, fun g => absurd (hr.1 hfl) (g _ _ _ _)⟩⟩
      · unfold spec_ReadReq.f
        exact ev_neg hz (ev_bind hS (ev_pos hfl (ev_some _)))
      · rw [e]; exact ev_pos hfl (ev_some _)
      · rw [hr.2 a b c t g]
    | false =>
      have e2 : q.2.2.2.2 = false := by rw [← hf, hfl]
      refine ⟨(0, 0, 0, e0, 3), ?_, hI _ (ev_bind hi ?_), fun _ => ⟨fun a b c t g => ?_, fun _ => rfl⟩⟩
      · unfold spec_ReadReq.f
        exact ev_neg hz (ev_bind hS (ev_neg (by rw [hfl]; decide) (ev_some _)))
      · exact ev_neg (by rw [e2]; decide) (ev_some _)
      · rw [hr.2 a b c t g] at hfl; cases hfl
/-! ### ReqT -/
theorem number_ok (l : List Int) (h : ∀ x ∈ l, 0 ≤ x ∧ x ≤ 255) (at_ seed : Int) (n : Nat) (hs : srcOK at_ seed n) (hn : n ≤ 10000000000) :
    ∃ r a s, spec_l00Src_number.f l at_ seed = some (r, a, s) ∧ 0 ≤ r ∧ r ≤ 2147483647 ∧ srcOK a s (n + 9) := by
  unfold spec_l00Src_number.f
  obtain ⟨x, a1, s1, e1, x0, -, x1, o1⟩ := next_ok l h _ _ _ hs (by omega) 9
  rw [e1]; simp only [Option.bind_some]
  obtain ⟨y, a2, s2, e2, y0, -, y1, o2⟩ := next_ok l h _ _ _ o1 (by omega) 70000
  rw [e2]; simp only [Option.bind_some]
  obtain ⟨i, a3, s3, e3, i0, -, i1, o3⟩ := next_ok l h _ _ _ o2 (by omega) 9
  rw [e3]; simp only [Option.bind_some]
  have x1' := x1 (by omega)
  have y1' := y1 (by omega)
  have i1' := i1 (by omega)
  have ei : wrap64 (Int.tdiv i 4) = i / 4 := by rw [Int.tdiv_eq_ediv_of_nonneg i0]; exact w64 (by omega) (by omega)
  rw [ei]
  rw [if_pos (by omega), if_pos (by simp; omega)]
  have hv : 0 ≤ rd ([x, y, 2147483647] : List Int) (i / 4) ∧ rd ([x, y, 2147483647] : List Int) (i / 4) ≤ 2147483647 := by
    have : i / 4 = 0 ∨ i / 4 = 1 ∨ i / 4 = 2 := by omega
    rcases this with e | e | e <;> rw [e]
    · exact ⟨by show (0 : Int) ≤ x; omega, by show x ≤ (2147483647 : Int); omega⟩
    · exact ⟨by show (0 : Int) ≤ y; omega, by show y ≤ (2147483647 : Int); omega⟩
    · exact ⟨by show (0 : Int) ≤ 2147483647; omega, by show (2147483647 : Int) ≤ 2147483647; omega⟩
  exact ⟨_, _, _, rfl, hv.1, hv.2, o3⟩
def names4 : List ByteArray := [(⟨#[97]⟩ : ByteArray), (⟨#[98]⟩ : ByteArray), (⟨#[99]⟩ : ByteArray), (⟨#[115, 110, 97, 112]⟩ : ByteArray)]
theorem snap_ok (l : List Int) (h : ∀ x ∈ l, 0 ≤ x ∧ x ≤ 255) (at_ seed : Int) (n : Nat) (hs : srcOK at_ seed n) (hn : n ≤ 10000000000) :
    ∃ r a s, spec_l00Src_snapName.f l at_ seed = some (r, a, s) ∧ nmOK r = true ∧ r.size ≤ 6 := by
  unfold spec_l00Src_snapName.f spec_l00Src_pick.f
  obtain ⟨i, a1, s1, e1, i0, -, i1, o1⟩ := next_ok l h _ _ _ hs (by omega) 4
  have i1' := i1 (by omega)
  have hl : (names4.length : Int) = 4 := rfl
  have e1' : spec_l00Src_next.f l at_ seed ((names4.length : Nat) : Int) = some (i, a1, s1) := e1
  show ∃ r a s, (if (names4.length : Int) = 0 then (some ((⟨#[]⟩ : ByteArray), at_, seed)) else ((spec_l00Src_next.f l at_ seed ((names4.length : Nat) : Int)).bind fun bt270 => (if 0 ≤ bt270.1 then (if bt270.1 < (names4.length : Int) then (some (rdOf ByteArray.empty names4 bt270.1, bt270.2.1, bt270.2.2)) else (none)) else (none)))).bind (fun bt277 => (some (bt277.1, bt277.2.1, bt277.2.2))) = some (r, a, s) ∧ nmOK r = true ∧ r.size ≤ 6
  rw [if_neg (by omega), e1', Option.bind_some]
  dsimp only
  rw [if_pos (by omega), if_pos (by omega), Option.bind_some]
  refine ⟨_, _, _, rfl, ?_⟩
  have : i = 0 ∨ i = 1 ∨ i = 2 ∨ i = 3 := by omega
  rcases this with rfl | rfl | rfl | rfl <;> (dsimp only; exact ⟨by decide, by decide⟩)
theorem req_kind (l : List Int) (h : ∀ x ∈ l, 0 ≤ x ∧ x ≤ 255) (at_ seed : Int) (n : Nat) (hs : srcOK at_ seed n) (hn : n ≤ 1000) (a : Int) (h0 : 1 ≤ a) (h1 : a ≤ 8) (y : Bool) (hy : y = true ↔ a = 1 ∨ a = 3 ∨ a = 4) :
    ∃ b c s r, Ev (fun k => spec_l00Src_req.j0 k a y l at_ seed a 0 0 (⟨#[]⟩ : ByteArray)) (a, b, c, s, r) ∧ okQ a b c s = true ∧ told a b c s = true := by
  have z0 : e0.size = 0 := rfl
  by_cases c1 : a = 1 ∨ a = 3 ∨ a = 4
  · obtain ⟨b, a1, s1, e1, b0, -, b1, o1⟩ := next_ok l h _ _ _ hs (by omega) 13
    have b1' := b1 (by omega)
    refine ⟨b, 0, e0, (a1, s1), Ev.succ ?_, okQ_num (by omega) (fun _ => rfl), told_num (by omega) (by omega) (by omega)⟩
    simp only [spec_l00Src_req.j0]
    exact ev_pos (hy.2 c1) (ev_bind (ev_of_eq fun _ => e1) (ev_some _))
  · by_cases c2 : a = 2
    · obtain ⟨b, a1, s1, e1, b0, -, b1, o1⟩ := next_ok l h _ _ _ hs (by omega) 10
      have b1' := b1 (by omega)
      obtain ⟨c, a2, s2, e2, c0, c1', o2⟩ := number_ok l h _ _ _ o1 (by omega)
      refine ⟨b, c, e0, (a2, s2), Ev.succ ?_, okQ_num (by omega) (fun h => absurd c2 h), told_num (by omega) (by omega) (by omega)⟩
      simp only [spec_l00Src_req.j0]
      exact ev_neg (fun h => c1 (hy.1 h)) (ev_pos c2 (ev_bind (ev_of_eq fun _ => e1) (ev_bind (ev_of_eq fun _ => e2) (ev_some _))))
    · by_cases c8 : a = 8
      · refine ⟨0, 0, e0, (at_, seed), Ev.succ ?_, by rw [c8]; unfold okQ okE; rw [e0_nil, z0]; rfl, told_num (by omega) (by omega) (by omega)⟩
        simp only [spec_l00Src_req.j0]
        exact ev_neg (fun h => c1 (hy.1 h)) (ev_neg c2 (ev_pos c8 (ev_some _)))
      · obtain ⟨s, a1, s1, e1, hnm, hz⟩ := snap_ok l h _ _ _ hs (by omega)
        refine ⟨0, 0, s, (a1, s1), Ev.succ ?_, ?_, ?_⟩
        · simp only [spec_l00Src_req.j0]
          exact ev_neg (fun h => c1 (hy.1 h)) (ev_neg c2 (ev_neg c8 (ev_bind (ev_of_eq fun _ => e1) (ev_some _))))
        · unfold okQ okE
          rw [inB_iff.2 (by omega), decide_eq_false (show ¬ (s.size : Int) > 65536 by omega), if_neg (by omega), if_neg (by omega), if_neg (by omega)]; rfl
        · unfold told
          rw [if_pos (by rw [inB_iff]; omega), hnm]; rfl
theorem req_ok (l : List Int) (h : ∀ x ∈ l, 0 ≤ x ∧ x ≤ 255) : ∃ a b c s, Ev (fun k => spec_ReqOf.f k l) (a, b, c, s) ∧ okQ a b c s = true ∧ told a b c s = true := by
  obtain ⟨x, a1, s1, e1, x0, -, x1, o1⟩ := next_ok l h _ _ _ (source_ok l) (by omega) 8
  obtain ⟨i, a2, s2, e2, i0, -, i1, o2⟩ := next_ok l h _ _ _ o1 (by omega) 4
  have x1' := x1 (by omega)
  have i1' := i1 (by omega)
  have ex : wrap64 (1 + x) = 1 + x := w64 (by omega) (by omega)
  obtain ⟨a, ha⟩ : ∃ a, a = rd ([2, 2, 2, 1 + x] : List Int) i := ⟨_, rfl⟩
  have har : 1 ≤ a ∧ a ≤ 8 := by
    have : i = 0 ∨ i = 1 ∨ i = 2 ∨ i = 3 := by omega
    rcases this with e | e | e | e <;> rw [ha, e]
    · show (1 : Int) ≤ 2 ∧ (2 : Int) ≤ 8; omega
    · show (1 : Int) ≤ 2 ∧ (2 : Int) ≤ 8; omega
    · show (1 : Int) ≤ 2 ∧ (2 : Int) ≤ 8; omega
    · show (1 : Int) ≤ 1 + x ∧ 1 + x ≤ (8 : Int); omega
  have key : ∀ R, Ev (fun k => if a = 1 then (spec_l00Src_req.j0 k a (a == 1) l a2 s2 a 0 0 (⟨#[]⟩ : ByteArray)) else (if a = 3 then (spec_l00Src_req.j0 k a (a == 3) l a2 s2 a 0 0 (⟨#[]⟩ : ByteArray)) else (spec_l00Src_req.j0 k a (a == 4) l a2 s2 a 0 0 (⟨#[]⟩ : ByteArray)))) R → Ev (fun k => spec_ReqOf.f k l) (R.1, R.2.1, R.2.2.1, R.2.2.2.1) := by
    intro R g
    unfold spec_ReqOf.f spec_l00Source.f
    refine ev_bind (ev_some _) (ev_bind (a := R) ?_ (ev_some _))
    unfold spec_l00Src_req.f
    refine ev_bind (ev_of_eq fun _ => e1) ?_
    rw [ex]
    refine ev_bind (ev_some _) (ev_bind (ev_of_eq fun _ => e2) (ev_pos (by omega) (ev_pos (by simp; omega) ?_)))
    rw [← ha]
    exact g
  by_cases c1 : a = 1
  · obtain ⟨b, c, s, r, hE, h1, h2⟩ := req_kind l h a2 s2 _ o2 (by omega) a har.1 har.2 (a == 1) (by rw [beq_iff_eq]; omega)
    exact ⟨a, b, c, s, key _ (ev_pos c1 hE), h1, h2⟩
  · by_cases c3 : a = 3
    · obtain ⟨b, c, s, r, hE, h1, h2⟩ := req_kind l h a2 s2 _ o2 (by omega) a har.1 har.2 (a == 3) (by rw [beq_iff_eq]; omega)
      exact ⟨a, b, c, s, key _ (ev_neg c1 (ev_pos c3 hE)), h1, h2⟩
    · obtain ⟨b, c, s, r, hE, h1, h2⟩ := req_kind l h a2 s2 _ o2 (by omega) a har.1 har.2 (a == 4) (by rw [beq_iff_eq]; omega)
      exact ⟨a, b, c, s, key _ (ev_neg c1 (ev_neg c3 hE)), h1, h2⟩
/-- A word: not empty, no blank in it. -/
def gw (x : ByteArray) : Prop := 1 ≤ x.size ∧ ∀ c ∈ x.data.toList, c ≠ 32
def jr : ByteArray → List ByteArray → ByteArray
  | w, [] => w
  | w, x :: r => w ++ (bl ++ jr x r)
theorem gw_ne {x : ByteArray} (h : gw x) : x.data.toList ≠ [] := by
  intro e
  have := congrArg List.length e
  rw [Array.length_toList, List.length_nil] at this
  have h1 := h.1
  have : x.size = 0 := this
  omega
theorem ws_jr : ∀ (r : List ByteArray) (w : ByteArray), gw w → (∀ x ∈ r, gw x) → ws (jr w r) = w :: r := by
  intro r
  induction r with
  | nil =>
    intro w hw _
    unfold jr ws
    rw [wsL_end _ _ hw.2, List.nil_append, if_neg (gw_ne hw), List.map_singleton, mkB_data]
  | cons x r ih =>
    intro w hw hr
    have ih' := ih x (hr x (by simp)) (fun y hy => hr y (by simp [hy]))
    unfold ws at ih' ⊢
    have e : (jr w (x :: r)).data.toList = w.data.toList ++ 32 :: (jr x r).data.toList := by
      have hb : bl.data.toList = [32] := rfl
      show (w ++ (bl ++ jr x r)).data.toList = _
      rw [ByteArray.data_append, ByteArray.data_append, Array.toList_append, Array.toList_append, hb]; rfl
    rw [e, wsL_app _ _ _ hw.2, List.nil_append, if_neg (gw_ne hw), List.map_append, ih', List.map_singleton, mkB_data]; rfl
theorem gw_wd {a : Int} (h0 : 1 ≤ a) (h1 : a ≤ 8) : gw (wd a) := by
  have ha : a = 1 ∨ a = 2 ∨ a = 3 ∨ a = 4 ∨ a = 5 ∨ a = 6 ∨ a = 7 ∨ a = 8 := by omega
  rcases ha with rfl | rfl | rfl | rfl | rfl | rfl | rfl | rfl <;> exact ⟨by decide, by decide⟩
theorem gw_dgs {n : Int} (h : 0 ≤ n ∧ n ≤ 2147483647) : gw (dgs n) ∧ (dgs n).size ≤ 10 ∧ isN (dgs n) n := by
  have hn : isN (dgs n) n := ⟨h.1, h.2, rfl⟩
  have hd := isN_data hn
  have hz : (dgs n).data.toList.length = (dgs n).size := by rw [Array.length_toList]; rfl
  have hl := dec_len 9 n.toNat (by have : (10 : Nat) ^ (9 + 1) = 10000000000 := by decide
                                   omega)
  refine ⟨⟨?_, ?_⟩, by rw [← hz, hd]; exact hl, hn⟩
  · rw [← hz, hd]
    have := dec_ne n.toNat
    cases hx : Lib.decDigits n.toNat with
    | nil => exact absurd hx this
    | cons a r => simp
  · intro c hc e
    rw [hd] at hc
    have := dv_digit _ _ _ (dv_dec _ _ (Nat.le_refl n.toNat)) c hc
    have e32 : (32 : UInt8).toNat = 32 := rfl
    rw [e, e32] at this
    omega
theorem gw_name {s : ByteArray} (h : nmOK s = true) : gw s ∧ s.size ≤ 6 := by
  unfold nmOK at h
  rw [Bool.and_eq_true, List.all_eq_true] at h
  have hz := inB_iff.1 h.2
  refine ⟨⟨by omega, ?_⟩, by omega⟩
  intro c hc e
  obtain ⟨k, hk, hx⟩ := List.mem_iff_getElem.1 hc
  have hlt : k < s.size := by rw [Array.length_toList] at hk; exact hk
  have hb := inB_iff.1 (h.1 k (List.mem_range.2 hlt))
  rw [bt_is s k hk, hx, e] at hb
  have e32 : (32 : UInt8).toNat = 32 := rfl
  rw [e32] at hb
  omega
def XY : List ByteArray := [(⟨#[120]⟩ : ByteArray), (⟨#[121]⟩ : ByteArray)]
theorem gw_XY : ∀ x ∈ XY, gw x := by
  intro x hx
  simp only [XY, List.mem_cons, List.not_mem_nil, or_false] at hx
  rcases hx with rfl | rfl <;> exact ⟨by decide, by decide⟩
theorem tail_eq : (⟨#[32, 120, 32, 121]⟩ : ByteArray) = bl ++ ((⟨#[120]⟩ : ByteArray) ++ (bl ++ (⟨#[121]⟩ : ByteArray))) := by decide
theorem txt_words {a b c : Int} {s : ByteArray} (hk : okQ a b c s = true) (ht : told a b c s = true) : ∃ r, txt a b c s = jr (wd a) r ∧ txt a b c s ++ (⟨#[32, 120, 32, 121]⟩ : ByteArray) = jr (wd a) (r ++ XY) ∧ (∀ x ∈ r, gw x) ∧ isQ (wd a :: r) a b c s ∧ (txt a b c s).size ≤ 100 := by
  obtain ⟨h0, h1, hs⟩ := okQ_facts hk
  obtain ⟨t1, t2, t3, t4⟩ := told_facts ht
  obtain ⟨gb, zb, nb⟩ := gw_dgs (n := b) ⟨t1, t2⟩
  obtain ⟨gc, zc, nc⟩ := gw_dgs (n := c) ⟨t3, t4⟩
  have hw := wd_le h0 h1
  have he : (s.toList == ([] : List UInt8)) = true → s = e0 := by
    intro h
    rw [toList_nil] at h
    exact toList_inj.1 (beq_iff_eq.1 h)
  unfold okQ okE at hk
  simp only [Bool.and_eq_true] at hk
  have hk := hk.2.2
  by_cases c1 : a = 1 ∨ a = 3 ∨ a = 4
  · rw [if_pos c1] at hk
    simp only [Bool.and_eq_true, decide_eq_true_eq] at hk
    have hse := he hk.2
    refine ⟨[dgs b], ?_, ?_, by simpa using gb, .inl ⟨c1, hk.1, hse, _, rfl, nb⟩, ?_⟩
    · rw [txt_one c1]; simp only [jr, ba_assoc]
    · rw [txt_one c1, tail_eq]; simp only [jr, XY, List.cons_append, List.nil_append, ba_assoc]
    · rw [txt_one c1, ba_size_append, ba_size_append, bl_size]; omega
  · rw [if_neg c1] at hk
    by_cases c2 : a = 2
    · rw [if_pos c2] at hk
      refine ⟨[dgs b, dgs c], ?_, ?_, by simp [gb, gc], .inr (.inl ⟨c2, he hk, _, _, rfl, nb, nc⟩), ?_⟩
      · rw [txt_two c2]; simp only [jr, ba_assoc]
      · rw [txt_two c2, tail_eq]; simp only [jr, XY, List.cons_append, List.nil_append, ba_assoc]
      · rw [txt_two c2, ba_size_append, ba_size_append, ba_size_append, ba_size_append, bl_size]; omega
    · rw [if_neg c2] at hk
      by_cases c8 : a = 8
      · rw [if_pos c8] at hk
        simp only [Bool.and_eq_true, decide_eq_true_eq] at hk
        refine ⟨[], ?_, ?_, by simp, .inr (.inr (.inr ⟨c8, hk.1, hk.2.1, he hk.2.2, rfl⟩)), ?_⟩
        · rw [txt_list c8]; rfl
        · rw [txt_list c8, tail_eq]; simp only [jr, XY, List.nil_append]
        · rw [txt_list c8]; omega
      · rw [if_neg c8] at hk
        simp only [Bool.and_eq_true, decide_eq_true_eq] at hk
        have h57 : a = 5 ∨ a = 6 ∨ a = 7 := by omega
        have hnm : nmOK s = true := by
          unfold told at ht
          rw [if_pos (by rw [inB_iff]; omega)] at ht
          simp only [Bool.and_eq_true] at ht
          exact ht.2.2
        obtain ⟨gs, zs⟩ := gw_name hnm
        refine ⟨[s], ?_, ?_, by simpa using gs, .inr (.inr (.inl ⟨h57, hk.1, hk.2, rfl, hnm⟩)), ?_⟩
        · rw [txt_name h57]; simp only [jr, ba_assoc]
        · rw [txt_name h57, tail_eq]; simp only [jr, XY, List.cons_append, List.nil_append, ba_assoc]
        · rw [txt_name h57, ba_size_append, ba_size_append, bl_size]; omega
theorem no_more {a b c : Int} {s : ByteArray} {r : List ByteArray} (h : isQ (wd a :: r) a b c s) : ∀ a' b' c' s', ¬ isQ (wd a :: (r ++ XY)) a' b' c' s' := by
  intro a' b' c' s' g
  obtain ⟨h1, h2, _, _⟩ := isQ_head h
  obtain ⟨g1, g2, q, hq⟩ := isQ_head g
  injection hq with e1 e2
  have := wd_inj (i := a.toNat) (j := a'.toNat) (by omega) (by omega) (by rw [show ((a.toNat : Nat) : Int) = a by omega, show ((a'.toNat : Nat) : Int) = a' by omega]; exact e1)
  have l1 := isQ_len h
  have l2 := isQ_len g
  have lx : XY.length = 2 := rfl
  rw [List.length_cons] at l1 l2
  rw [List.length_append, lx] at l2
  omega
end Go.Proofs.YtniceoohmhjjlaaDoor.Q
