/- What laws.FnExactGuestText reaches, part 5: the functions as Lean functions, the proofs that the program's functions answer so, and plain laws about them. -/
import Derived.Test.YtniceoohmhjjlaaDoorKFnExactGuestText1
import Derived.Test.YtniceoohmhjjlaaDoorKFnExactGuestText2
import Derived.Test.YtniceoohmhjjlaaDoorKFnExactGuestText3
import Derived.Test.YtniceoohmhjjlaaDoorKFnExactGuestText4
namespace Go.Proofs.YtniceoohmhjjlaaDoor.Q
open Go.RowKit Go.Proofs.YtniceoohmhjjlaaDoor.Ext Go.Proofs.YtniceoohmhjjlaaDoorW.PrintWords Go.Proofs.YtniceoohmhjjlaaDoorW.PrintLast Go.Proofs.YtniceoohmhjjlaaDoorW.PrintMore
attribute [local go_sem] max2_int min2_int max_two min_two max_three min_three max_four min_four   -- for this text's walks alone
set_option linter.unusedVariables false
set_option linter.unusedSimpArgs false

set_option linter.unusedVariables false
set_option linter.unusedSimpArgs false
/-! ### Digits -/
def dgs (n : Int) : ByteArray := ⟨(Lib.itoa n).toArray⟩
theorem dgs_small {n : Int} (h0 : 0 ≤ n) (h : n < 10) : dgs n = strOfNums [(wrap64 (48 + n)) % 256] := by
  rw [w64 (n := 48 + n) (by omega) (by omega)]
  unfold dgs Lib.itoa
  rw [if_neg (by omega), Lib.decDigits_one (by omega)]
  have e : (48 + n) % 256 = ((48 + n.toNat : Nat) : Int) := by omega
  rw [e]; rfl
theorem dgs_step {n : Int} (h : 10 ≤ n) (hn : n ≤ 1000000000000) : dgs n = dgs (n / 10) ++ strOfNums [(wrap64 (48 + (Int.tmod n 10))) % 256] := by
  have hm : Int.tmod n 10 = n % 10 := Int.tmod_eq_emod_of_nonneg (by omega)
  rw [hm, w64 (n := 48 + n % 10) (by omega) (by omega)]
  unfold dgs Lib.itoa
  rw [if_neg (by omega), if_neg (by omega)]
  have e : (48 + n % 10) % 256 = ((48 + n.toNat % 10 : Nat) : Int) := by omega
  have e2 : (n / 10).toNat = n.toNat / 10 := by omega
  rw [e, e2]
  conv => lhs; rw [Lib.decDigits, dif_neg (by omega)]
  rw [← List.append_toArray]
  apply ByteArray.ext
  rw [ByteArray.data_append]; rfl
theorem digits_ev : ∀ (d : Nat) (n : Int), 0 ≤ n → n.toNat ≤ d → n ≤ 1000000000000 → Ev (fun k => spec_l00Digits.f k n) (dgs n) ∧ (dgs n).size ≤ n.toNat + 1 := by
  intro d
  induction d with
  | zero =>
    intro n h0 hd hn
    have h := dgs_small h0 (by omega : n < 10)
    refine ⟨Ev.succ ?_, by rw [h, strOfNums_size]; simp⟩
    simp only [spec_l00Digits.f]
    exact ev_neg (by omega) (ev_neg (by omega) (ev_pos (by omega) (by rw [← h]; exact ev_some _)))
  | succ d ih =>
    intro n h0 hd hn
    by_cases c : n < 10
    · have h := dgs_small h0 c
      refine ⟨Ev.succ ?_, by rw [h, strOfNums_size]; simp⟩
      simp only [spec_l00Digits.f]
      exact ev_neg (by omega) (ev_neg (by omega) (ev_pos (by omega) (by rw [← h]; exact ev_some _)))
    · have h := dgs_step (by omega : 10 ≤ n) hn
      have hq : Int.tdiv n 10 = n / 10 := Int.tdiv_eq_ediv_of_nonneg h0
      obtain ⟨h1, h2⟩ := ih (n / 10) (by omega) (by omega) (by omega)
      have hz : (strOfNums [(wrap64 (48 + (Int.tmod n 10))) % 256]).size = 1 := by rw [strOfNums_size]; rfl
      refine ⟨Ev.succ ?_, by rw [h, ba_size_append, hz]; omega⟩
      simp only [spec_l00Digits.f, Option.bind_some]
      refine ev_neg (by omega) (ev_neg (by omega) (ev_neg (by omega) ?_))
      rw [hq, w64 (n := n / 10) (by omega) (by omega)]
      refine ev_bind h1 (ev_pos (by rw [hz]; omega) ?_)
      rw [← h]; exact ev_some _
theorem ba_assoc (a b c : ByteArray) : (a ++ b) ++ c = a ++ (b ++ c) := by
  apply ByteArray.ext
  simp [ByteArray.data_append]
def bl : ByteArray := ⟨#[32]⟩
theorem bl_size : bl.size = 1 := rfl
/-- A word, and others behind it, each with a blank ahead. -/
def jn (w : ByteArray) (r : List ByteArray) : ByteArray := r.foldl (fun o x => o ++ (bl ++ x)) w
theorem jn_cons (w x : ByteArray) (r : List ByteArray) : jn w (x :: r) = jn (w ++ (bl ++ x)) r := rfl
theorem jn_snoc (w x : ByteArray) (r : List ByteArray) : jn w (r ++ [x]) = jn w r ++ (bl ++ x) := by simp [jn]
theorem join_jn : ∀ (r : List ByteArray) (w : ByteArray), Lib.join ((w :: r).map (·.data.toList)) [32] = (jn w r).data.toList := by
  intro r
  induction r with
  | nil => intro w; simp [Lib.join, List.intercalate, jn]
  | cons x r ih =>
    intro w
    rw [jn_cons, ← ih]
    have hb : bl.data.toList = [32] := rfl
    cases r with
    | nil => simp [Lib.join, List.intercalate, ByteArray.data_append, hb]
    | cons y r => simp [Lib.join, List.intercalate, ByteArray.data_append, hb]
theorem jn_size (B : Nat) : ∀ (r : List ByteArray) (w : ByteArray), (∀ x ∈ r, x.size ≤ B) → (jn w r).size ≤ w.size + r.length * (B + 1) := by
  intro r
  induction r with
  | nil => intro w _; simp [jn]
  | cons x r ih =>
    intro w h
    rw [jn_cons]
    have h1 := ih (w ++ (bl ++ x)) (fun y hy => h y (by simp [hy]))
    have h2 := h x (by simp)
    rw [ba_size_append, ba_size_append, bl_size] at h1
    rw [List.length_cons, Nat.add_mul]
    omega
theorem Join_jn (w : ByteArray) (r : List ByteArray) (h : (jn w r).size ≤ 140737488355328) (hl : r.length ≤ 1000000000) : strings_Join.f (w :: r) (⟨#[32]⟩ : ByteArray) = some (jn w r) := by
  unfold strings_Join.f
  have e : (⟨#[32]⟩ : ByteArray).data.toList = [32] := rfl
  rw [e, join_jn, if_pos (by simp; omega), if_pos (show (jn w r).data.toList.length ≤ _ by rw [Array.length_toList]; exact h)]
theorem itoa_eq {n : Int} (h0 : 0 ≤ n) (hn : n ≤ 1000000000000) : strconv_Itoa_95.f n = some (dgs n) := by
  unfold strconv_Itoa_95.f
  rw [if_pos (by omega), if_pos (by omega)]; rfl
def okN (n : Int) : Prop := 0 ≤ n ∧ n ≤ 1000000000000
theorem ints_eq : ∀ (l : List Int) (out : List ByteArray), (∀ x ∈ l, okN x) → out.length + l.length ≤ 1000000000 → impl_said.ints out l = some (out ++ l.map dgs) := by
  intro l
  induction l with
  | nil => intro out _ _; simp [impl_said.ints]
  | cons x r ih =>
    intro out h hl
    rw [List.length_cons] at hl
    have hx := h x (by simp)
    simp only [impl_said.ints]
    rw [itoa_eq hx.1 hx.2, Option.bind_some, if_pos (by omega), ih _ (fun y hy => h y (by simp [hy])) (by simp; omega)]
    simp
/-- What a value of type any says, and whether its numbers are right. -/
def anyW : Any → List ByteArray | .n x => [dgs x] | .s x => [x] | .ss _ l => l | .ns _ l => l.map dgs | .b _ => []
def anyOK : Any → Prop | .n x => okN x | .s _ => True | .ss _ _ => True | .ns _ l => ∀ x ∈ l, okN x | .b _ => False
theorem go_eq : ∀ (l : List Any) (out : List ByteArray), (∀ x ∈ l, anyOK x) → out.length + (l.flatMap anyW).length ≤ 1000000000 → impl_said.go out l = some (out ++ l.flatMap anyW) := by
  intro l
  induction l with
  | nil => intro out _ _; simp [impl_said.go]
  | cons x r ih =>
    intro out h hl
    rw [List.flatMap_cons, List.length_append] at hl
    have hx := h x (by simp)
    have ih := fun o ho => ih o (fun y hy => h y (by simp [hy])) ho
    cases x with
    | b v => exact hx.elim
    | n v =>
      have hl' : (anyW (.n v)).length = 1 := rfl
      simp only [impl_said.go]
      rw [itoa_eq hx.1 hx.2, Option.bind_some, if_pos (by omega), ih _ (by simp only [List.length_append, List.length_singleton, List.length_map]; omega)]
      simp [anyW]
    | s v =>
      have hl' : (anyW (.s v)).length = 1 := rfl
      simp only [impl_said.go]
      rw [if_pos (by omega), ih _ (by simp only [List.length_append, List.length_singleton, List.length_map]; omega)]
      simp [anyW]
    | ss v l =>
      have hl' : (anyW (.ss v l)).length = l.length := rfl
      simp only [impl_said.go]
      rw [if_pos (by omega), ih _ (by simp only [List.length_append, List.length_singleton, List.length_map]; omega)]
      simp [anyW]
    | ns v l =>
      have hl' : (anyW (.ns v l)).length = l.length := by simp [anyW]
      simp only [impl_said.go]
      rw [ints_eq l out hx (by omega), Option.bind_some, ih _ (by simp only [List.length_append, List.length_singleton, List.length_map]; omega)]
      simp [anyW]
theorem said_eq (x : ByteArray) (r : List Any) (B : Nat) (hB : B ≤ 10000000000) (hx : x.size ≤ 1000000000) (hok : ∀ y ∈ r, anyOK y) (hl : (r.flatMap anyW).length ≤ 1000) (hs : ∀ y ∈ r.flatMap anyW, y.size ≤ B) : impl_said.f (.s x :: r) = some (jn x (r.flatMap anyW)) := by
  unfold impl_said.f
  rw [go_eq (.s x :: r) [] (by intro y hy; rcases List.mem_cons.1 hy with rfl | hy; exact trivial; exact hok y hy) (by rw [List.flatMap_cons, List.length_append, show (anyW (.s x)).length = 1 from rfl, List.length_nil]; omega), Option.bind_some]
  have e : [] ++ (Any.s x :: r).flatMap anyW = x :: r.flatMap anyW := rfl
  have h1 := jn_size B (r.flatMap anyW) x hs
  have h2 : (r.flatMap anyW).length * (B + 1) ≤ 1000 * 10000000001 := Nat.mul_le_mul hl (by omega)
  rw [e, Join_jn _ _ (by omega) (by omega)]
theorem said2_eq (x : ByteArray) (a : Any) (h : anyOK a) (hx : x.size ≤ 1000000000) (B : Nat) (hB : B ≤ 10000000000) (hl : (anyW a).length ≤ 500) (hs : ∀ y ∈ anyW a, y.size ≤ B) : impl_said.f [.s x, a] = some (jn x (anyW a)) := by
  have := said_eq x [a] B hB hx (by simpa using h) (by simpa using (by omega : (anyW a).length ≤ 1000)) (by simpa using hs)
  simpa using this
theorem said3_eq (x : ByteArray) (a b : Any) (h : anyOK a) (h' : anyOK b) (hx : x.size ≤ 1000000000) (B : Nat) (hB : B ≤ 10000000000) (hl : (anyW a).length ≤ 500) (hl' : (anyW b).length ≤ 500) (hs : ∀ y ∈ anyW a, y.size ≤ B) (hs' : ∀ y ∈ anyW b, y.size ≤ B) : impl_said.f [.s x, a, b] = some (jn x (anyW a ++ anyW b)) := by
  have := said_eq x [a, b] B hB hx (by intro y hy; simp at hy; rcases hy with rfl | rfl <;> assumption) (by simp; omega) (by intro y hy; simp at hy; rcases hy with hy | hy; exact hs y hy; exact hs' y hy)
  simpa using this
theorem dgs_le {n : Int} (h0 : 0 ≤ n) (hn : n ≤ 1000000000000) : (dgs n).size ≤ n.toNat + 1 := (digits_ev n.toNat n h0 (Nat.le_refl _) hn).2
/-! ### GuestT -/
def gline (w : ByteArray) (l : List Int) : ByteArray := jn w (l.map dgs)
def col : ByteArray := ⟨#[58]⟩
def gtext (v : List Int) (l : List S102) : List ByteArray := gline (⟨#[110, 111, 119, 58]⟩ : ByteArray) v :: l.map (fun x => gline (x.f0 ++ col) x.f1)
theorem vals_fine {l : List Int} (h : valsOK l = true) : l.length ≤ 12 ∧ ∀ x ∈ l, 0 ≤ x ∧ x ≤ 2147483647 := by
  unfold valsOK at h
  simp only [Bool.and_eq_true, List.all_eq_true, decide_eq_true_eq] at h
  exact ⟨by omega, fun x hx => inB_iff.1 (h.1 x hx)⟩
theorem dgs_small_size {n : Int} (h0 : 0 ≤ n) (h1 : n ≤ 2147483647) : (dgs n).size ≤ 2147483648 := by have := dgs_le (n := n) h0 (by omega); omega
theorem dgs_list {l : List Int} (h : valsOK l = true) : ∀ x ∈ l.map dgs, x.size ≤ 2147483648 := by
  intro x hx
  obtain ⟨y, hy, rfl⟩ := List.mem_map.1 hx
  have := (vals_fine h).2 y hy
  exact dgs_small_size this.1 this.2
theorem gline_size {w : ByteArray} {l : List Int} (h : valsOK l = true) : (gline w l).size ≤ w.size + 25769803788 := by
  obtain ⟨B, hB⟩ : ∃ B : Nat, B = 2147483648 := ⟨_, rfl⟩
  have h1 := jn_size B (l.map dgs) w (by rw [hB]; exact dgs_list h)
  have h3 : (l.map dgs).length ≤ 12 := by rw [List.length_map]; exact (vals_fine h).1
  have h4 := Nat.mul_le_mul_right (B + 1) h3
  unfold gline; omega
theorem spec_line_ev (w : ByteArray) (l : List Int) (h : valsOK l = true) (hw : w.size ≤ 2000000000) : Ev (fun k => spec_l14Line.f k w l) (gline w l) := by
  obtain ⟨f1, f2⟩ := vals_fine h
  unfold spec_l14Line.f gline
  have key : ∀ d i, i ≤ l.length → l.length - i = d → Ev (fun k => spec_l14Line.l0 k (jn w ((l.map dgs).take i)) l (i : Int)) (jn w (l.map dgs)) := by
    intro d
    induction d with
    | zero =>
      intro i hi hd
      refine Ev.succ ?_
      simp only [spec_l14Line.l0]
      refine ev_neg (by omega) ?_
      rw [List.take_of_length_le (by rw [List.length_map]; omega)]
      exact ev_some _
    | succ d ih =>
      intro i hi hd
      have hlt : i < l.length := by omega
      have hx := f2 _ (List.getElem_mem hlt)
      have hz := dgs_small_size hx.1 hx.2
      obtain ⟨B, hB⟩ : ∃ B : Nat, B = 2147483648 := ⟨_, rfl⟩
      have hj := jn_size B ((l.map dgs).take i) w (fun x hx => by rw [hB]; exact dgs_list h x (List.mem_of_mem_take hx))
      have hj2 := Nat.mul_le_mul_right (B + 1) (show ((l.map dgs).take i).length ≤ 12 by rw [List.length_take, List.length_map]; omega)
      refine Ev.succ ?_
      simp only [spec_l14Line.l0, rdn l i hlt, wnext i (show i < 1000000000000000000 by omega)]
      have hs : ((⟨#[32]⟩ : ByteArray) ++ dgs l[i]).size = 1 + (dgs l[i]).size := by rw [ba_size_append]; rfl
      refine ev_pos (by omega) (ev_pos (by omega) (ev_bind (digits_ev l[i].toNat l[i] hx.1 (Nat.le_refl _) (by omega)).1 (ev_pos (by omega) (ev_pos (by rw [hs]; omega) ?_))))
      have := ih (i + 1) (by omega) (by omega)
      rw [List.take_succ_eq_append_getElem (by rw [List.length_map]; omega), jn_snoc, List.getElem_map] at this
      exact this
  exact key l.length 0 (by omega) (by omega)
theorem impl_line_eq (w : ByteArray) (l : List Int) (h : valsOK l = true) (hw : w.size ≤ 1000000000) : impl_said.f [Any.s w, Any.ns (.bool false) l] = some (gline w l) := by
  obtain ⟨f1, f2⟩ := vals_fine h
  exact said2_eq w (.ns (.bool false) l) (fun x hx => by have := f2 x hx; exact ⟨this.1, by omega⟩) hw 2147483648 (by omega) (by show (l.map dgs).length ≤ _; rw [List.length_map]; omega) (dgs_list h)
def gokP (v : List Int) (l : List S102) : Bool := valsOK v && (decide ((l.length : Int) ≤ 3) && (List.range l.length).all (okAt l))
theorem gok_facts {v : List Int} {l : List S102} (h : gokP v l = true) : valsOK v = true ∧ l.length ≤ 3 ∧ ∀ x ∈ l, valsOK x.f1 = true ∧ nmOK x.f0 = true := by
  unfold gokP at h
  rw [gok_same] at h
  simp only [Bool.and_eq_true, decide_eq_true_eq, List.all_eq_true] at h
  obtain ⟨h1, h2, ⟨h3, _⟩, h4⟩ := h
  exact ⟨h1, by omega, fun x hx => ⟨h4 x hx, h3 _ (List.mem_map.2 ⟨x, hx, rfl⟩)⟩⟩
theorem nm_six {t : ByteArray} (h : nmOK t = true) : t.size ≤ 6 := by
  unfold nmOK at h
  simp only [Bool.and_eq_true, inB_iff] at h
  omega
theorem spec_gtext_ev {v : List Int} {l : List S102} (h : gokP v l = true) : Ev (fun k => spec_l14Text.f k v l) (gtext v l) := by
  obtain ⟨f1, f2, f3⟩ := gok_facts h
  unfold spec_l14Text.f gtext
  refine ev_bind (spec_line_ev _ v f1 (by show 4 ≤ _; omega)) ?_
  have h0 := ev_down (g := fun k i => spec_l14Text.l0 k (gline (⟨#[110, 111, 119, 58]⟩ : ByteArray) v :: (l.map (fun x => gline (x.f0 ++ col) x.f1)).take i) (i : Int) v l) (r := gtext v l) l.length ?_ ?_
  · exact h0
  · refine Ev.succ ?_
    simp only [spec_l14Text.l0]
    refine ev_neg (by omega) ?_
    rw [List.take_of_length_le (by rw [List.length_map]; omega)]
    exact ev_some _
  · intro i hi hn
    have hx := f3 _ (List.getElem_mem hi)
    have h6 := nm_six hx.2
    have hc : (l[i].f0 ++ col).size = l[i].f0.size + 1 := by rw [ba_size_append]; rfl
    refine Ev.succ ?_
    simp only [spec_l14Text.l0, rdE_Shot l i hi, wnext i (show i < 1000000000000000000 by omega)]
    refine ev_pos (by omega) (ev_pos (by omega) (ev_pos (by omega) (ev_bind (spec_line_ev (l[i].f0 ++ col) l[i].f1 hx.1 (by omega)) (ev_pos (by simp; omega) ?_))))
    rw [List.take_succ_eq_append_getElem (by rw [List.length_map]; omega), List.getElem_map] at hn
    exact hn
theorem impl_gtext_ev {v : List Int} {l : List S102} (h : gokP v l = true) : Ev (fun k => impl_Guest_lines.f k v l) (gtext v l) := by
  obtain ⟨f1, f2, f3⟩ := gok_facts h
  unfold impl_Guest_lines.f gtext
  rw [impl_line_eq _ v f1 (by show 4 ≤ _; omega)]
  simp only [Option.bind_some]
  have h0 := ev_down (g := fun k i => impl_Guest_lines.l0 k (gline (⟨#[110, 111, 119, 58]⟩ : ByteArray) v :: (l.map (fun x => gline (x.f0 ++ col) x.f1)).take i) l (l.length : Int) (i : Int)) (r := gtext v l) l.length ?_ ?_
  · exact h0
  · refine Ev.succ ?_
    simp only [impl_Guest_lines.l0]
    refine ev_neg (by omega) ?_
    rw [List.take_of_length_le (by rw [List.length_map]; omega)]
    exact ev_some _
  · intro i hi hn
    have hx := f3 _ (List.getElem_mem hi)
    have h6 := nm_six hx.2
    have hc : (l[i].f0 ++ col).size = l[i].f0.size + 1 := by rw [ba_size_append]; rfl
    refine Ev.succ ?_
    simp only [impl_Guest_lines.l0, rdE_Shot l i hi, wnext i (show i < 1000000000000000000 by omega)]
    have hL : impl_said.f [Any.s (l[i].f0 ++ (⟨#[58]⟩ : ByteArray)), Any.ns (.bool false) l[i].f1] = some (gline (l[i].f0 ++ col) l[i].f1) := impl_line_eq (l[i].f0 ++ col) l[i].f1 hx.1 (by omega)
    rw [hL]
    simp only [Option.bind_some]
    refine ev_pos (by omega) (ev_pos (by omega) (ev_pos (by omega) (ev_pos (by omega) (ev_pos (by simp; omega) ?_))))
    rw [List.take_succ_eq_append_getElem (by rw [List.length_map]; omega), List.getElem_map] at hn
    exact hn
def gres (v : List Int) (l : List S102) : List ByteArray × Int := if gokP v l = true then (gtext v l, 0) else ([], 1)
theorem gres_size (v : List Int) (l : List S102) : (gres v l).1.length ≤ 4 := by
  unfold gres
  split
  · rename_i h
    have := (gok_facts h).2.1
    simp [gtext]; omega
  · simp
theorem spec_gres_ev (v : List Int) (l : List S102) (hv : v.length ≤ 1000000000) (hl : l.length ≤ 1000000000) (hs : ∀ x ∈ l, x.f0.size ≤ 1000000000 ∧ x.f1.length ≤ 1000000000) : Ev (fun k => spec_GuestText.f k v l) (gres v l) := by
  unfold spec_GuestText.f gres
  refine ev_bind (spec_gok_ev v l hv hl hs) ?_
  show Ev _ (if gokP v l = true then _ else _)
  cases h : gokP v l
  · exact ev_neg (by unfold gokP at h; rw [h]; decide) (ev_some _)
  · exact ev_pos (by unfold gokP at h; exact h) (ev_bind (spec_gtext_ev h) (ev_some _))
theorem impl_gres_ev (v : List Int) (l : List S102) (hl : l.length ≤ 1000000000) (hs : ∀ x ∈ l, x.f0.size ≤ 1000000000) : Ev (fun k => impl_GuestText.f k v l) (gres v l) := by
  unfold impl_GuestText.f gres
  refine ev_bind (impl_gok_ev v l hl hs) ?_
  show Ev _ (if gokP v l = true then _ else _)
  cases h : gokP v l
  · exact ev_neg (by unfold gokP at h; rw [h]; decide) (ev_some _)
  · exact ev_pos (by unfold gokP at h; exact h) (ev_bind (impl_gtext_ev h) (ev_some _))
/-! ### laws_szStringS: function 44 -/
def laws_szStringS.l0 : Nat → List ByteArray → Int → Int → Option (Int)
  | 0, _, _, _ => none
  | k + 1, x0, x1, x5 => if x5 < (x0.length : Int) then (if 0 ≤ x5 then (if (wrap64 (x1 - ((rdOf ByteArray.empty x0 x5).size : Int))) < 0 then (some (-1)) else (laws_szStringS.l0 k x0 (wrap64 (x1 - ((rdOf ByteArray.empty x0 x5).size : Int))) (wrap64 (x5 + 1)))) else (none)) else (some x1)
def laws_szStringS.f (k : Nat) (l0 : List ByteArray) (a1 : Int) : Option (Int) := if (wrap64 (a1 - (l0.length : Int))) < 0 then (some (-1)) else (laws_szStringS.l0 k l0 (wrap64 (a1 - (l0.length : Int))) 0)
theorem laws_szStringS.mono_l : ∀ k, (∀ y0 y1 y2, LeO (laws_szStringS.l0 k y0 y1 y2) (laws_szStringS.l0 (k + 1) y0 y1 y2))
  | 0 => fun _ _ _ r h => by simp [laws_szStringS.l0] at h
  | k + 1 => by
    have ih0 := laws_szStringS.mono_l k
    · intro y0 y1 y2
      unfold laws_szStringS.l0
      repeat' first
      | (with_reducible exact ih0 _ _ _)
      | (with_reducible exact LeO.refl _)
      | (with_reducible exact LeO.none _)
      | (with_reducible refine LeO.ite ?_ ?_)
      | (with_reducible refine LeO.bind ?_ (fun _ => ?_))
      | exact ih0 _ _ _
      | exact LeO.none _
      | refine LeO.ite ?_ ?_
      | refine LeO.bind ?_ (fun _ => ?_)
theorem laws_szStringS.mono : ∀ a0 a1 k, LeO (laws_szStringS.f k a0 a1) (laws_szStringS.f (k + 1) a0 a1) := by
  intro a0 a1 k
  have ih0 := laws_szStringS.mono_l k
  unfold laws_szStringS.f
  repeat' first
      | (with_reducible exact ih0 _ _ _)
      | (with_reducible exact LeO.refl _)
      | (with_reducible exact LeO.none _)
      | (with_reducible refine LeO.ite ?_ ?_)
      | (with_reducible refine LeO.bind ?_ (fun _ => ?_))
      | exact ih0 _ _ _
      | exact LeO.none _
      | refine LeO.ite ?_ ?_
      | refine LeO.bind ?_ (fun _ => ?_)
set_option maxHeartbeats 8000000 in
set_option maxRecDepth 100000 in
theorem laws_szStringS.calls (k : Nat) (A0 : Option Addr) (c0 : Nat) (l0 : List ByteArray) (a1 : Int) (r : Int) (w : World) (hr0 : Kd.C Kd.string w A0 l0.length l0) (hc0 : l0.length ≤ c0) (h : laws_szStringS.f k l0 a1 = some r) :
    Calls Tryd.prog 44 #[.slice A0 l0.length c0, .int .i64 a1] w fun e w' => e = .returned (.int .i64 r) ∧ Drawn0 w w' := by
 have HR0 := zm hr0
 have HC0 := zm hc0
 clear hr0 hc0
 have H : (if (wrap64 (a1 - (l0.length : Int))) < 0 then (some (-1)) else (laws_szStringS.l0 k l0 (wrap64 (a1 - (l0.length : Int))) 0)) = some r := h
 clear h
 by_cases c3 : (wrap64 (a1 - (l0.length : Int))) < 0
 ·rw [if_pos c3] at H
  have c3b0 : decide ((wrap64 (a1 - (l0.length : Int))) < 0) = true := decide_eq_true c3
  clear c3
  obtain rfl := Option.some.inj H
  go_enter Tryd.func44, Tryd.ntmps44
  go_wp2
  go_ret
  exact ⟨zr, by repeat (first | exact Drawn0.refl _ | apply Drawn0.step)⟩
 ·rw [if_neg c3] at H
  have c3b0 : decide ((wrap64 (a1 - (l0.length : Int))) < 0) = false := decide_eq_false c3
  clear c3
  have H' := zm H
  clear H
  go_enter Tryd.func44, Tryd.ntmps44
  go_wp2
  go_loopg [1, 5] k (fun kq v1 v5 w' => ∃ (x1_1 : Int) (x5_1 : Int), v1 = .int .i64 x1_1 ∧ v5 = .int .i64 x5_1 ∧ Aside0 (laws_szStringS.l0 kq l0 x1_1 x5_1 = some r) ∧ Aside0 (kq ≤ k) ∧ Drawn0 w w')
  case atStart => exact ⟨(wrap64 (a1 - (l0.length : Int))), (0), zr, zr, H', ⟨Nat.le_refl _⟩, by repeat (first | exact Drawn0.refl _ | apply Drawn0.step)⟩
  case round =>
   clear H'
   try clear p2
   try clear c3
   try clear c3b0
   obtain ⟨x1_1, x5_1, rfl, rfl, HA, HK1, ⟨m1, rfl⟩⟩ := hrel
   cases gk with
   | zero => exact absurd HA.out (by simp [laws_szStringS.l0])
   | succ k1 =>
    have H := HA.out
    clear HA
    simp only [laws_szStringS.l0] at H
    by_cases c4 : x5_1 < (l0.length : Int)
    ·rw [if_pos c4] at H
     have c4b0 : decide (x5_1 < (l0.length : Int)) = true := decide_eq_true c4
     clear c4
     by_cases c5 : 0 ≤ x5_1
     ·rw [if_pos c5] at H
      have c5b0 : decide (0 ≤ x5_1) = true := decide_eq_true c5
      clear c5
      by_cases c6 : (wrap64 (x1_1 - ((rdOf ByteArray.empty l0 x5_1).size : Int))) < 0
      ·rw [if_pos c6] at H
       have c6b0 : decide ((wrap64 (x1_1 - ((rdOf ByteArray.empty l0 x5_1).size : Int))) < 0) = true := decide_eq_true c6
       clear c6
       obtain rfl := Option.some.inj H
       have p109 : 0 ≤ (x5_1 : Int) := zd
       have q109 : x5_1 < (l0.length : Int) := zd
       obtain ⟨ad109, e109, hx109_0⟩ := Kd.at_string HR0.out x5_1 p109 q109
       cases e109
       replace p109 := eq_true p109
       replace q109 := eq_true q109
       go_wp2
       go_ret
       exact ⟨zr, by repeat (first | exact Drawn0.refl _ | apply Drawn0.step)⟩
      ·rw [if_neg c6] at H
       have c6b0 : decide ((wrap64 (x1_1 - ((rdOf ByteArray.empty l0 x5_1).size : Int))) < 0) = false := decide_eq_false c6
       clear c6
       have H' := zm H
       clear H
       have p109 : 0 ≤ (x5_1 : Int) := zd
       have q109 : x5_1 < (l0.length : Int) := zd
       obtain ⟨ad109, e109, hx109_0⟩ := Kd.at_string HR0.out x5_1 p109 q109
       cases e109
       replace p109 := eq_true p109
       replace q109 := eq_true q109
       go_wp2
       go_roundg k1
       case measure => have := HK1.out; omega
       case rel => exact ⟨(wrap64 (x1_1 - ((rdOf ByteArray.empty l0 x5_1).size : Int))), (wrap64 (x5_1 + 1)), zr, zr, H', ⟨by have := HK1.out; omega⟩, by repeat (first | exact Drawn0.refl _ | apply Drawn0.step)⟩
     ·rw [if_neg c5] at H
      exact absurd H (by simp)
    ·rw [if_neg c4] at H
     have c4b0 : decide (x5_1 < (l0.length : Int)) = false := decide_eq_false c4
     clear c4
     obtain rfl := Option.some.inj H
     go_wp2
     go_ret
     exact ⟨zr, by repeat (first | exact Drawn0.refl _ | apply Drawn0.step)⟩
/-! ### laws_toStringS: function 46 -/
def laws_toStringS.l0 : Nat → List ByteArray → List ByteArray → Int → Option (List ByteArray)
  | 0, _, _, _ => none
  | k + 1, x0, x3, x4 => if x4 < (x0.length : Int) then (if 0 ≤ x4 then (if x4 < (x3.length : Int) then (laws_toStringS.l0 k x0 (x3.set (x4 : Int).toNat (rdOf ByteArray.empty x0 x4)) (wrap64 (x4 + 1))) else (none)) else (none)) else (some x3)
def laws_toStringS.f (k : Nat) (l0 : List ByteArray) : Option (List ByteArray) := if 0 ≤ (l0.length : Int) then (if ((l0.length : Int) : Int).toNat ≤ 17592186044416 then (laws_toStringS.l0 k l0 (List.replicate ((l0.length : Int) : Int).toNat (⟨#[]⟩ : ByteArray)) 0) else (none)) else (none)
theorem laws_toStringS.mono_l : ∀ k, (∀ y0 y1 y2, LeO (laws_toStringS.l0 k y0 y1 y2) (laws_toStringS.l0 (k + 1) y0 y1 y2))
  | 0 => fun _ _ _ r h => by simp [laws_toStringS.l0] at h
  | k + 1 => by
    have ih0 := laws_toStringS.mono_l k
    · intro y0 y1 y2
      unfold laws_toStringS.l0
      repeat' first
      | (with_reducible exact ih0 _ _ _)
      | (with_reducible exact LeO.refl _)
      | (with_reducible exact LeO.none _)
      | (with_reducible refine LeO.ite ?_ ?_)
      | (with_reducible refine LeO.bind ?_ (fun _ => ?_))
      | exact ih0 _ _ _
      | exact LeO.none _
      | refine LeO.ite ?_ ?_
      | refine LeO.bind ?_ (fun _ => ?_)
theorem laws_toStringS.mono : ∀ a0 k, LeO (laws_toStringS.f k a0) (laws_toStringS.f (k + 1) a0) := by
  intro a0 k
  have ih0 := laws_toStringS.mono_l k
  unfold laws_toStringS.f
  repeat' first
      | (with_reducible exact ih0 _ _ _)
      | (with_reducible exact LeO.refl _)
      | (with_reducible exact LeO.none _)
      | (with_reducible refine LeO.ite ?_ ?_)
      | (with_reducible refine LeO.bind ?_ (fun _ => ?_))
      | exact ih0 _ _ _
      | exact LeO.none _
      | refine LeO.ite ?_ ?_
      | refine LeO.bind ?_ (fun _ => ?_)
set_option maxHeartbeats 8000000 in
set_option maxRecDepth 100000 in
theorem laws_toStringS.calls (k : Nat) (A0 : Option Addr) (c0 : Nat) (l0 : List ByteArray) (r : List ByteArray) (w : World) (hr0 : Kd.C Kd.string w A0 l0.length l0) (hc0 : l0.length ≤ c0) (h : laws_toStringS.f k l0 = some r) :
    Calls Tryd.prog 46 #[.slice A0 l0.length c0] w fun e w' => ∃ v0_ : Value, e = .returned (v0_) ∧ Kd.R Kd.string 9 w' w.heap.size (fun _ => True) v0_ r ∧ Below w.heap.size w w' := by
 have HR0 := zm hr0
 have HC0 := zm hc0
 clear hr0 hc0
 have HB := zm (Below.refl w.heap.size w)
 have H : (if 0 ≤ (l0.length : Int) then (if ((l0.length : Int) : Int).toNat ≤ 17592186044416 then (laws_toStringS.l0 k l0 (List.replicate ((l0.length : Int) : Int).toNat (⟨#[]⟩ : ByteArray)) 0) else (none)) else (none)) = some r := h
 clear h
 by_cases c2 : 0 ≤ (l0.length : Int)
 ·rw [if_pos c2] at H
  have c2b0 := eq_true c2
  have c2b1 : decide (0 ≤ (l0.length : Int)) = true := decide_eq_true c2
  clear c2
  by_cases c3 : ((l0.length : Int) : Int).toNat ≤ 17592186044416
  ·rw [if_pos c3] at H
   have c3b0 := eq_true c3
   have c3b1 : decide (((l0.length : Int) : Int).toNat ≤ 17592186044416) = true := decide_eq_true c3
   clear c3
   obtain ⟨y141, hy141⟩ : ∃ y_ : List ByteArray, y_ = (List.replicate ((l0.length : Int) : Int).toNat (⟨#[]⟩ : ByteArray)) := ⟨_, rfl⟩
   replace H : (laws_toStringS.l0 k l0 y141 0) = some r := by first | (rw [hy141]; with_reducible exact H) | (have H2_ := (Option.bind_some _ _).symm.trans H; rw [hy141]; with_reducible exact H2_) | (have H2_ := (Option.bind_some _ _).symm.trans H; with_reducible exact H2_) | with_reducible exact H | (rw [hy141]; exact H) | exact H
   have Ny141 := zm hy141
   clear hy141
   have H' := zm H
   clear H
   go_enter Tryd.func46, Tryd.ntmps46
   go_wp2_with (first | ((with_reducible refine gate_dst (N := 7) rfl ?_); refine Kd.R_make Kd.string _ 9 rfl (N := 7) rfl 37 _ _ rfl (l0.length : Int) rfl rfl Tryd.underlying37 (.string ⟨#[]⟩) 16 info9 rfl (by decide) (by omega) (⟨#[]⟩ : ByteArray) (ok := fun _ => True) (okp := fun _ => True) rfl (fun _ hk => hk) trivial (zd) (Nat.le_trans (Nat.mul_le_mul_right _ (zd : (l0.length : Int).toNat ≤ 17592186044416)) (by omega)) (Below.refl _ _) (Nat.le_refl _) ?_; intro v142 w4 ho5 hb hg_ hnew_; clear hg_ hnew_; (first | rw [← Ny141.out] at ho5 | (simp only [Int.reduceToNat] at ho5; rw [← Ny141.out] at ho5)); have n0_ := zm (Kd.R_lower ho5 (below_size (zg_0 HB.out))); have n1_ := zm (below_step (zg_0 HB.out) hb); clear HB; have Zc := n0_; have HB := n1_; clear n0_ n1_; clear hb ho5))
   go_loopg [4] k (fun kq v4 w' => ∃ (x3_1 : List ByteArray) (x4_1 : Int), v4 = .int .i64 x4_1 ∧ Aside0 (laws_toStringS.l0 kq l0 x3_1 x4_1 = some r) ∧ Aside0 (kq ≤ k) ∧ Aside0 (Kd.R Kd.string 9 w' w.heap.size (fun _ => True) v142 x3_1) ∧ Aside0 (Below w.heap.size w w'))
   case atStart => exact ⟨(y141), (0), zr, H', ⟨Nat.le_refl _⟩, ⟨by (with_reducible repeat (first | apply Kd.R_alloc | apply Kd.R_drewN | apply Kd.R_drew)); exact Zc.out⟩, ⟨zg_0 HB.out⟩⟩
   case round =>
    clear H'
    try clear c2
    try clear c2b0
    try clear c2b1
    try clear p2
    try clear c3
    try clear c3b0
    try clear c3b1
    try clear c4
    obtain ⟨x3_1, x4_1, rfl, HA, HK1, Za, HB⟩ := hrel
    cases gk with
    | zero => exact absurd HA.out (by simp [laws_toStringS.l0])
    | succ k1 =>
     have H := HA.out
     clear HA
     simp only [laws_toStringS.l0] at H
     by_cases c6 : x4_1 < (l0.length : Int)
     ·rw [if_pos c6] at H
      have c6b0 : decide (x4_1 < (l0.length : Int)) = true := decide_eq_true c6
      clear c6
      by_cases c7 : 0 ≤ x4_1
      ·rw [if_pos c7] at H
       have c7b0 : decide (0 ≤ x4_1) = true := decide_eq_true c7
       clear c7
       by_cases c8 : x4_1 < (x3_1.length : Int)
       ·rw [if_pos c8] at H
        have c8b0 : decide (x4_1 < (x3_1.length : Int)) = true := decide_eq_true c8
        clear c8
        obtain ⟨y145, hy145⟩ : ∃ y_ : List ByteArray, y_ = (x3_1.set (x4_1 : Int).toNat (rdOf ByteArray.empty l0 x4_1)) := ⟨_, rfl⟩
        replace H : (laws_toStringS.l0 k1 l0 y145 (wrap64 (x4_1 + 1))) = some r := by first | (rw [hy145]; with_reducible exact H) | (have H2_ := (Option.bind_some _ _).symm.trans H; rw [hy145]; with_reducible exact H2_) | (have H2_ := (Option.bind_some _ _).symm.trans H; with_reducible exact H2_) | with_reducible exact H | (rw [hy145]; exact H) | exact H
        have Ny145 := zm hy145
        clear hy145
        have H' := zm H
        clear H
        have p144 : 0 ≤ (x4_1 : Int) := zd
        have q144 : x4_1 < (l0.length : Int) := zd
        obtain ⟨ad144, e144, hx144_0⟩ := Kd.at_string HR0.out x4_1 p144 q144
        cases e144
        replace hx144_0 := (HB.out.cell (World.block_lt_of_cell? w _ hx144_0)).trans hx144_0
        replace p144 := eq_true p144
        replace q144 := eq_true q144
        have p9 : 0 ≤ (x4_1 : Int) := zd
        have q9 : (x4_1 : Int) < ((x3_1.length : Int) : Int) := zd
        obtain ⟨go9, co9, eo9, gb9, gl9, cl9, HG9⟩ := Kd.R_form Za.out (by omega)
        (first | cases eo9 | (injection eo9 with ea_ en_ ec_; (first | subst ea_ | (injection ea_ with ea_; subst ea_)); subst ec_; clear en_))
        have GB9 := zm gb9
        have GG9 := zm HG9
        clear gb9 gl9 HG9
        obtain ⟨hx9_0, hf9_0⟩ := Kd.R_celln (⟨#[]⟩ : ByteArray) Za.out (x4_1 : Int) p9 q9
        replace p9 := eq_true p9
        replace q9 := eq_true q9
        have Zb := Kd.R_putg Za.out (x4_1 : Int) (rdOf ByteArray.empty l0 x4_1)
        go_wp2_with (first | ((with_reducible refine gate_store (t := 9) (p := 20) rfl ?_); refine store_event (t := 9) (p := 20) (v := ?vo_w11) (w1 := (wr.setCell ⟨go9, (x4_1 : Int).toNat, none⟩ (.string (rdOf ByteArray.empty l0 x4_1)))) ?hg ?ho ?hn ?hr ?_; (case ho => rfl); (case hg => rfl); (case hn => rfl); (case hr => first | (go_simp; done) | (go_simp; rfl)); intro w11 hw; have hg : wr.grownBy w11 (some go9) := (by rw [hw]; exact Zb.2); have hp_ : Kd.R Kd.string 9 w11 w.heap.size (fun _ => True) (.slice (some ⟨go9, 0, none⟩) x3_1.length co9) y145 := (by rw [hw, Ny145.out]; exact Zb.1); clear Zb; have n0_ := zm (hp_); have n1_ := zm ((by rw [hw]; exact below_set (HB.out) GB9.out : Below w.heap.size w w11)); clear Za; clear HB; have Za := n0_; have HB := n1_; clear n0_ n1_; clear hg hw hp_))
        go_roundg k1
        case measure => have := HK1.out; omega
        case rel => exact ⟨(y145), (wrap64 (x4_1 + 1)), zr, H', ⟨by have := HK1.out; omega⟩, ⟨by (with_reducible repeat (first | apply Kd.R_alloc | apply Kd.R_drewN | apply Kd.R_drew)); exact Za.out⟩, ⟨zg_0 HB.out⟩⟩
       ·rw [if_neg c8] at H
        exact absurd H (by simp)
      ·rw [if_neg c7] at H
       exact absurd H (by simp)
     ·rw [if_neg c6] at H
      have c6b0 : decide (x4_1 < (l0.length : Int)) = false := decide_eq_false c6
      clear c6
      obtain rfl := Option.some.inj H
      go_wp2
      go_ret
      exact ⟨_, by first | rfl | (simp [errW_none, errW_some] <;> rfl) | (simp [*, errW_none, errW_some] <;> rfl), by (with_reducible repeat (first | apply Kd.R_alloc | apply Kd.R_drewN | apply Kd.R_drew)); exact Za.out, zg_0 HB.out⟩
  ·rw [if_neg c3] at H
   exact absurd H (by simp)
 ·rw [if_neg c2] at H
  exact absurd H (by simp)
/-! ### PString -/
theorem rdE_String (l : List ByteArray) (i : Nat) (h : i < l.length) : rdOf ByteArray.empty l (i : Int) = l[i] := by simp [rdOf, h]
theorem rdset_String (l : List ByteArray) (i : Nat) (v : ByteArray) (h : i < l.length) : rdOf ByteArray.empty (l.set i v) (i : Int) = v := by simp [rdOf, h]
theorem szStringS_from (l : List ByteArray) (hs : ∀ x ∈ l, x.size ≤ maxLen) (hl : l.length ≤ 1048576) : ∀ d i (x : Int), 0 ≤ x → x ≤ 1048576 → i ≤ l.length → l.length - i = d → ∃ s, Ev (fun k => laws_szStringS.l0 k l x (i : Int)) s ∧ (s < 0 ∨ (s ≤ x ∧ 0 ≤ s ∧ ∀ j (h : j < l.length), i ≤ j → ((l[j].size : Nat) : Int) ≤ x)) := by
  intro d
  induction d with
  | zero =>
    intro i x h0 hx hi hd
    refine ⟨x, Ev.step (f := fun _ => some x) (fun k => ?_) (ev_some _), Or.inr ⟨by omega, h0, fun j hj hij => absurd hj (by omega)⟩⟩
    simp only [laws_szStringS.l0]; rw [if_neg (by omega)]
  | succ d ih =>
    intro i x h0 hx hi hd
    have hlt : i < l.length := by omega
    have hz := hs l[i] (List.getElem_mem hlt)
    have hM : maxLen = 9223372036854775807 := rfl
    have hz0 : ((l[i].size : Nat) : Int) ≤ 9223372036854775807 := by omega
    by_cases hc : x - ((l[i].size : Nat) : Int) < 0
    · refine ⟨-1, Ev.step (f := fun _ => some (-1)) (fun k => ?_) (ev_some _), Or.inl (by omega)⟩
      simp only [laws_szStringS.l0]
      rw [if_pos (by omega), if_pos (by omega), rdE_String l i hlt, w64 (by omega) (by omega), if_pos hc]
    · obtain ⟨s, h1, h2⟩ := ih (i + 1) (x - ((l[i].size : Nat) : Int)) (by omega) (by omega) (by omega) (by omega)
      refine ⟨s, Ev.step (f := fun k => laws_szStringS.l0 k l (x - ((l[i].size : Nat) : Int)) ((i + 1 : Nat) : Int)) (fun k => ?_) h1, ?_⟩
      · simp only [laws_szStringS.l0]
        rw [if_pos (by omega), if_pos (by omega), rdE_String l i hlt, w64 (by omega) (by omega), if_neg hc, wnext i (by omega)]
      · rcases h2 with h2 | ⟨h2, h3, h4⟩
        · exact Or.inl h2
        · refine Or.inr ⟨by omega, h3, fun j hj hij => ?_⟩
          rcases Nat.eq_or_lt_of_le hij with e | e
          · subst e; omega
          · have := h4 j hj e; omega
theorem szStringS_ev (l : List ByteArray) (hs : ∀ x ∈ l, x.size ≤ maxLen) (hm : l.length ≤ maxLen) (a : Int) (h0 : 0 ≤ a) (ha : a ≤ 1048576) : ∃ s, Ev (fun k => laws_szStringS.f k l a) s ∧ (s < 0 ∨ (s ≤ a ∧ 0 ≤ s ∧ (l.length : Int) ≤ a ∧ ∀ x ∈ l, ((x.size : Nat) : Int) ≤ a)) := by
  have hM : maxLen = 9223372036854775807 := rfl
  unfold laws_szStringS.f
  rw [w64 (n := a - (l.length : Int)) (by omega) (by omega)]
  by_cases hc : a - (l.length : Int) < 0
  · exact ⟨-1, ev_pos hc (ev_some _), Or.inl (by omega)⟩
  · obtain ⟨s, h1, h2⟩ := szStringS_from l hs (by omega) l.length 0 (a - (l.length : Int)) (by omega) (by omega) (by omega) (by omega)
    refine ⟨s, ev_neg hc h1, ?_⟩
    rcases h2 with h2 | ⟨h2, h3, h4⟩
    · exact Or.inl h2
    · refine Or.inr ⟨by omega, h3, by omega, fun x hx => ?_⟩
      obtain ⟨j, hj, rfl⟩ := List.getElem_of_mem hx
      have := h4 j hj (by omega); omega
def cvString (x : ByteArray) : ByteArray := x
theorem toStringS_ev (l : List ByteArray) (hl : l.length ≤ 1048576) : Ev (fun k => laws_toStringS.f k l) (l.map cvString) := by
  unfold laws_toStringS.f
  refine ev_pos (by omega) (ev_pos (by omega) ?_)
  rw [Int.toNat_natCast]
  have hc : (l.map cvString).length = (List.replicate l.length (⟨#[]⟩ : ByteArray)).length := by simp
  have h := ev_loop (g := fun k i => laws_toStringS.l0 k l ((l.map cvString).take i ++ (List.replicate l.length (⟨#[]⟩ : ByteArray)).drop i) (i : Int)) (r := l.map cvString) l.length ?_ ?_ l.length 0 (by omega) (by omega)
  · simpa using h
  · refine Ev.step (f := fun _ => some (l.map cvString)) (fun k => ?_) (ev_some _)
    simp only [laws_toStringS.l0]
    rw [if_neg (by omega), List.drop_of_length_le (by simp), List.take_of_length_le (by simp)]; simp
  · intro i hi
    refine ⟨1, fun k => ⟨?_, by omega⟩⟩
    simp only [laws_toStringS.l0]
    have hlen : ((l.map cvString).take i ++ (List.replicate l.length (⟨#[]⟩ : ByteArray)).drop i).length = l.length := by simp; omega
    rw [if_pos (by omega), if_pos (by omega), if_pos (by rw [hlen]; omega), rdE_String l i hi, Int.toNat_natCast, set_mid _ _ hc i (by simpa using hi) _ (by simp [cvString]), wnext i (by omega)]
theorem eqStringS_ev (l : List ByteArray) (hl : l.length ≤ 1000000000) : Ev (fun k => laws_eqStringS.f k l l) true := by
  unfold laws_eqStringS.f
  refine ev_pos rfl ?_
  refine ev_loop (g := fun k i => laws_eqStringS.l0 k l l (i : Int)) l.length ?_ ?_ l.length 0 (by omega) (by omega)
  · refine Ev.step (f := fun _ => some true) (fun k => ?_) (ev_some _)
    simp only [laws_eqStringS.l0]; rw [if_neg (by omega)]
  · intro i hi
    refine ⟨1, fun k => ⟨?_, by omega⟩⟩
    simp only [laws_eqStringS.l0]
    rw [if_pos (by omega), if_pos (by omega), if_pos (by omega), wnext i (by omega)]
    simp only [if_true, Option.bind_some]
noncomputable def mString (n : Int) : ByteArray := mText n
noncomputable def msString (a : Int) (n : Nat) : List ByteArray := (List.range n).map (fun j : Nat => mString (a + 1 * (j : Int)))
theorem msString_length (a : Int) (n : Nat) : (msString a n).length = n := by simp [msString]
theorem msString_get (a : Int) (n i : Nat) (h : i < n) : (msString a n)[i]'(by rw [msString_length]; exact h) = mString (a + 1 * (i : Int)) := by simp [msString]
theorem markStringS_ev (l : List ByteArray) (a : Int) (ha : 0 ≤ a) (hl : l.length + a ≤ 10000000000000) (hl2 : l.length ≤ 1000000000000) : Ev (fun k => laws_markStringS.f k l a) (a + 1 * (l.length : Int), msString a l.length) := by
  unfold laws_markStringS.f
  have hc := msString_length a l.length
  have h := ev_down (g := fun k i => laws_markStringS.l0 k ((msString a l.length).take i ++ l.drop i) (a + 1 * (i : Int)) (i : Int)) (r := (a + 1 * (l.length : Int), msString a l.length)) l.length ?_ ?_
  · simpa using h
  · refine Ev.step (f := fun _ => some (a + 1 * (l.length : Int), msString a l.length)) (fun k => ?_) (ev_some _)
    simp only [laws_markStringS.l0]
    rw [if_neg (by simp; omega), List.drop_of_length_le (by omega), List.take_of_length_le (by omega)]; simp
  · intro i hi h
    have hlen : ((msString a l.length).take i ++ l.drop i).length = l.length := by simp [hc]; omega
    refine Ev.step (f := fun k => (laws_markText.f k (a + 1 * (i : Int))).bind fun t => laws_markStringS.l0 k (((msString a l.length).take i ++ l.drop i).set i t) (a + 1 * (i : Int) + 1) ((i + 1 : Nat) : Int)) (fun k => ?_) (ev_bind (mText_ev _ (by omega)) ?_)
    · have w1 : wrap64 (a + 1 * (i : Int) + 1) = a + 1 * (i : Int) + 1 := by rw [w64 (by omega) (by omega)]; try omega
      simp only [laws_markStringS.l0, Option.bind_some, Int.toNat_natCast]
      rw [if_pos (by rw [hlen]; omega)]
      simp only [show (0 : Int) ≤ (i : Int) from by omega, if_true]
      simp only [rdset_String _ _ _ (show i < _ by rw [hlen]; exact hi), List.set_set, w1, wnext i (by omega)]
    · have ev_ : mText (a + 1 * (i : Int)) = mString (a + 1 * (i : Int)) := rfl
      rw [ev_, set_mid l _ hc i hi _ (msString_get a l.length i hi)]
      rw [show a + 1 * (i : Int) + 1 = a + 1 * ((i + 1 : Nat) : Int) by omega]
      exact h
theorem heldStringS_ev (n : Nat) (a : Int) (ha : 0 ≤ a) (hl : n + a ≤ 10000000000000) (hl2 : n ≤ 1000000000000) : Ev (fun k => laws_heldStringS.f k (msString a n) a) (a + 1 * (n : Int)) := by
  unfold laws_heldStringS.f
  have hc := msString_length a n
  have h := ev_down (g := fun k i => laws_heldStringS.l0 k (msString a n) (a + 1 * (i : Int)) (i : Int)) (r := a + 1 * (n : Int)) n ?_ ?_
  · simpa using h
  · refine Ev.step (f := fun _ => some (a + 1 * (n : Int))) (fun k => ?_) (ev_some _)
    simp only [laws_heldStringS.l0]
    rw [if_neg (by omega)]
  · intro i hi h
    refine Ev.step (f := fun k => (laws_markText.f k (a + 1 * (i : Int))).bind fun t => if ((rdOf ByteArray.empty (msString a n) (i : Int))).toList = t.toList then (laws_heldStringS.l0 k (msString a n) (a + 1 * (i : Int) + 1) ((i + 1 : Nat) : Int)) else (some (-1))) (fun k => ?_) (ev_bind (mText_ev _ (by omega)) (ev_pos (by rw [rdE_String _ i (by omega), msString_get a n i hi]; rfl) ?_))
    · have w1 : wrap64 (a + 1 * (i : Int) + 1) = a + 1 * (i : Int) + 1 := by rw [w64 (by omega) (by omega)]; try omega
      simp only [laws_heldStringS.l0]
      rw [if_pos (by omega), if_pos (by omega)]
      simp only [w1, wnext i (by omega)]
    · rw [show a + 1 * (i : Int) + 1 = a + 1 * ((i + 1 : Nat) : Int) by omega]
      exact h
end Go.Proofs.YtniceoohmhjjlaaDoor.Q
