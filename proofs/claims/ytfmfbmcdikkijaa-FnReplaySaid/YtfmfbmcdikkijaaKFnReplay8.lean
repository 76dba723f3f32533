/- What laws.FnReplay reaches, part 8: the functions as Lean functions, the proofs that the program's functions answer so, and plain laws about them. -/
import Derived.Test.YtfmfbmcdikkijaaKFnReplay1
import Derived.Test.YtfmfbmcdikkijaaKFnReplay2
import Derived.Test.YtfmfbmcdikkijaaKFnReplay3
import Derived.Test.YtfmfbmcdikkijaaKFnReplay4
import Derived.Test.YtfmfbmcdikkijaaKFnReplay5
import Derived.Test.YtfmfbmcdikkijaaKFnReplay6
namespace Go.Proofs.Ytfmfbmcdikkijaa.Q
open Go.RowKit Go.Proofs.Ytfmfbmcdikkijaa.Ext Go.Proofs.YtfmfbmcdikkijaaW.PrintWords Go.Proofs.YtfmfbmcdikkijaaW.PrintLast Go.Proofs.YtfmfbmcdikkijaaW.PrintMore
attribute [local go_sem] max2_int min2_int max_two min_two max_three min_three max_four min_four   -- for this text's walks alone
set_option linter.unusedVariables false
set_option linter.unusedSimpArgs false

set_option linter.unusedVariables false
set_option linter.unusedSimpArgs false
def okI (x : Int) : Prop := (Lit.int .i64 x).wf = true
def okU8 (x : Int) : Prop := (Lit.int .u8 x).wf = true
def okB (_ : Bool) : Prop := True
def okS (x : ByteArray) : Prop := x.size ≤ maxLen
theorem w64 {n : Int} (h0 : -9223372036854775808 ≤ n) (h1 : n ≤ 9223372036854775807) : wrap64 n = n := by unfold wrap64; omega
theorem okI_iff {n : Int} (h : (Lit.int .i64 n).wf = true) : -9223372036854775808 ≤ n ∧ n ≤ 9223372036854775807 := by
 simp [Lit.wf, IntKind.min, IntKind.max, IntKind.signed, IntKind.bits] at h
 omega
theorem Ev.k {α : Type} {g : Nat → Option α} {r : α} (K : Nat) (h : ∀ k, K ≤ k → g k = some r) : Ev g r := ⟨K, h⟩
theorem ev_some {α : Type} (r : α) : Ev (fun _ => some r) r := ⟨0, fun _ _ => rfl⟩
theorem ev_of_eq {α : Type} {g : Nat → Option α} {r : α} (h : ∀ k, g k = some r) : Ev g r := ⟨0, fun k _ => h k⟩
theorem ev_bind {α β : Type} {g : Nat → Option α} {f : Nat → α → Option β} {a : α} {r : β} (h : Ev g a) (k : Ev (fun n => f n a) r) : Ev (fun n => (g n).bind (f n)) r := Ev.bind h k
theorem ev_if {α : Type} {c : Prop} [Decidable c] {g f : Nat → Option α} {r : α} (h : c → Ev g r) (h' : ¬ c → Ev f r) : Ev (fun n => if c then g n else f n) r := by
 by_cases hc : c
 ·simp only [if_pos hc]; exact h hc
 ·simp only [if_neg hc]; exact h' hc
theorem ev_pos {α : Type} {c : Prop} [Decidable c] {g f : Nat → Option α} {r : α} (hc : c) (h : Ev g r) : Ev (fun n => if c then g n else f n) r := by
 simp only [if_pos hc]; exact h
theorem ev_neg {α : Type} {c : Prop} [Decidable c] {g f : Nat → Option α} {r : α} (hc : ¬ c) (h : Ev f r) : Ev (fun n => if c then g n else f n) r := by
 simp only [if_neg hc]; exact h
theorem strOfNums_size (l : List Int) : (strOfNums l).size = l.length := by show (List.map _ l).toArray.size = _; simp
theorem ba_size_append (a b : ByteArray) : (a ++ b).size = a.size + b.size := by simp
theorem toList_inj {a b : ByteArray} : a.toList = b.toList ↔ a = b := by
 constructor
 ·intro h
  have h1 : a.data.toList = b.data.toList := by simpa [ByteArray.toList_eq] using h
  have : a.data = b.data := Array.toList_inj.1 h1
  cases a; cases b; simp_all
 ·rintro rfl; rfl
def inB (n a b : Int) : Bool := decide (a ≤ n) && decide (n ≤ b)
theorem inB_iff {n a b : Int} : inB n a b = true ↔ a ≤ n ∧ n ≤ b := by simp [inB]
theorem inB_no {n a b : Int} : inB n a b = false ↔ ¬ (a ≤ n ∧ n ≤ b) := by rw [← inB_iff]; simp
theorem within_eq (n a b : Int) : impl_within.f n a b = some (inB n a b) := by
 unfold impl_within.f inB; by_cases h : a ≤ n <;> simp [h]
theorem and_opt {b : Bool} {c : Option Bool} {c' : Bool} (h : c = some c') : (if b = true then c else some false) = some (b && c') := by
 cases b <;> simp [h]
theorem first1 (b : Bool) (c : Int) : impl_first.f [Any.b b, Any.n c] = some (if b = true then c else 0) := by
 unfold impl_first.f; cases b <;> simp [firstO]
theorem first2 (b b' : Bool) (c c' : Int) : impl_first.f [Any.b b, Any.n c, Any.b b', Any.n c'] = some (if b = true then c else if b' = true then c' else 0) := by
 unfold impl_first.f; cases b <;> cases b' <;> simp [firstO]
theorem first3 (b b' b'' : Bool) (c c' c'' : Int) : impl_first.f [Any.b b, Any.n c, Any.b b', Any.n c', Any.b b'', Any.n c''] = some (if b = true then c else if b' = true then c' else if b'' = true then c'' else 0) := by
 unfold impl_first.f; cases b <;> cases b' <;> cases b'' <;> simp [firstO]
theorem first4 (b b' b'' b3 : Bool) (c c' c'' c3 : Int) : impl_first.f [Any.b b, Any.n c, Any.b b', Any.n c', Any.b b'', Any.n c'', Any.b b3, Any.n c3] = some (if b = true then c else if b' = true then c' else if b'' = true then c'' else if b3 = true then c3 else 0) := by
 unfold impl_first.f; cases b <;> cases b' <;> cases b'' <;> cases b3 <;> simp [firstO]
theorem ev_loop {α : Type} {g : Nat → Nat → Option α} {r : α} (n : Nat) (hend : Ev (fun k => g k n) r) (hstep : ∀ i, i < n → ∃ c, ∀ k, g (k + c) i = g k (i + 1) ∧ 1 ≤ c) : ∀ d i, i ≤ n → n - i = d → Ev (fun k => g k i) r := by
  intro d
  induction d with
  | zero =>
    intro i hi hd
    have e : i = n := by omega
    rw [e]; exact hend
  | succ d ih =>
    intro i hi hd
    obtain ⟨K, hK⟩ := ih (i + 1) (by omega) (by omega)
    obtain ⟨c, hc⟩ := hstep i (by omega)
    refine ⟨K + c, fun k hk => ?_⟩
    obtain ⟨m, rfl⟩ : ∃ m, k = m + c := ⟨k - c, by omega⟩
    show g (m + c) i = _
    rw [(hc m).1]; exact hK m (by omega)
theorem rdn (l : List Int) (i : Nat) (h : i < l.length) : rd l (i : Int) = l[i] := by simp [rd, h]
theorem wnext (i : Nat) (h : i < 1000000000000000000) : wrap64 ((i : Int) + 1) = ((i + 1 : Nat) : Int) := by rw [w64 (by omega) (by omega)]; omega
def countUp (a : Int) (n : Nat) : List Int := (List.range n).map (fun j : Nat => a + (j : Int))
theorem countUp_length (a : Int) (n : Nat) : (countUp a n).length = n := by simp [countUp]
theorem countUp_get (a : Int) (n i : Nat) (h : i < n) : (countUp a n)[i]'(by rw [countUp_length]; exact h) = a + (i : Int) := by simp [countUp]
theorem set_mid {α : Type} (l m : List α) (hlm : m.length = l.length) (i : Nat) (h : i < l.length) (x : α) (hx : m[i]'(by omega) = x) : (m.take i ++ l.drop i).set i x = m.take (i + 1) ++ l.drop (i + 1) := by
 subst hx
 rw [List.drop_eq_getElem_cons h, List.set_append_right _ _ (by rw [List.length_take]; omega)]
 have : i - (m.take i).length = 0 := by rw [List.length_take]; omega
 rw [this, zz, List.take_succ_eq_append_getElem (by omega), List.append_assoc]
 rfl
theorem ev_down {α : Type} {g : Nat → Nat → Option α} {r : α} (n : Nat) (hend : Ev (fun k => g k n) r) (hstep : ∀ i, i < n → Ev (fun k => g k (i + 1)) r → Ev (fun k => g k i) r) : Ev (fun k => g k 0) r := by
  have : ∀ d i, i ≤ n → n - i = d → Ev (fun k => g k i) r := by
    intro d
    induction d with
    | zero => intro i hi hd; have e : i = n := by omega
              rw [e]; exact hend
    | succ d ih => intro i hi hd; exact hstep i (by omega) (ih (i + 1) (by omega) (by omega))
  exact this n 0 (by omega) (by omega)
theorem Ev.succ {α : Type} {g : Nat → Option α} {r : α} (h : Ev (fun k => g (k + 1)) r) : Ev g r := Ev.step (f := fun k => g (k + 1)) (fun _ => rfl) h
theorem ev_all {α : Type} {g : Nat → Nat → Option Bool} (l : List α) (q : α → Bool) (r : Bool) (hend : Ev (fun k => g k l.length) r) (hstep : ∀ i (h : i < l.length) k, g (k + 1) i = if q l[i] = true then g k (i + 1) else some false) : Ev (fun k => g k 0) (l.all q && r) := by
  have hgo : ∀ d i, i ≤ l.length → l.length - i = d → Ev (fun k => g k i) ((l.drop i).all q && r) := by
    intro d
    induction d with
    | zero =>
      intro i hi hd
      have e : i = l.length := by omega
      subst e
      rw [List.drop_of_length_le (by omega)]; simp only [List.all_nil, Bool.true_and]; exact hend
    | succ d ih =>
      intro i hi hd
      have hlt : i < l.length := by omega
      refine Ev.step (f := fun k => if q l[i] = true then g k (i + 1) else some false) (hstep i hlt) ?_
      rw [List.drop_eq_getElem_cons hlt, List.all_cons]
      cases hq : q l[i]
      · simp only [Bool.false_and, Bool.false_eq_true, if_false]; exact ev_some _
      · simp only [Bool.true_and, if_true]; exact ih (i + 1) (by omega) (by omega)
  have := hgo l.length 0 (by omega) (by omega)
  rwa [List.drop_zero] at this
theorem ev_asks {α β : Type} {g : Nat → Nat → Option β} (l : List α) (q : α → Bool) (r bad : β) (hend : Ev (fun k => g k l.length) r) (hstep : ∀ i (h : i < l.length) k, g (k + 1) i = if q l[i] = true then g k (i + 1) else some bad) : Ev (fun k => g k 0) (if l.all q = true then r else bad) := by
  have hgo : ∀ d i, i ≤ l.length → l.length - i = d → Ev (fun k => g k i) (if (l.drop i).all q = true then r else bad) := by
    intro d
    induction d with
    | zero =>
      intro i hi hd
      have e : i = l.length := by omega
      subst e
      rw [List.drop_of_length_le (by omega)]; simp only [List.all_nil, if_true]; exact hend
    | succ d ih =>
      intro i hi hd
      have hlt : i < l.length := by omega
      refine Ev.step (f := fun k => if q l[i] = true then g k (i + 1) else some bad) (hstep i hlt) ?_
      rw [List.drop_eq_getElem_cons hlt, List.all_cons]
      cases hq : q l[i]
      · simp only [Bool.false_and, Bool.false_eq_true, if_false]; exact ev_some _
      · simp only [Bool.true_and, if_true]; exact ih (i + 1) (by omega) (by omega)
  have := hgo l.length 0 (by omega) (by omega)
  rwa [List.drop_zero] at this
/-- A loop that asks each element in turn, each question with rounds of its own. -/
theorem ev_asksE {α β : Type} {g : Nat → Nat → Option β} (l : List α) (q : α → Bool) (r bad : β) (hend : l.all q = true → Ev (fun k => g k l.length) r)
    (hstep : ∀ i (h : i < l.length), (q l[i] = true → Ev (fun k => g k (i + 1)) (if (l.drop (i + 1)).all q = true then r else bad) → Ev (fun k => g k i) (if (l.drop (i + 1)).all q = true then r else bad)) ∧ (q l[i] = false → Ev (fun k => g k i) bad)) : Ev (fun k => g k 0) (if l.all q = true then r else bad) := by
  have key : ∀ d i, i ≤ l.length → l.length - i = d → (l.take i).all q = true → Ev (fun k => g k i) (if (l.drop i).all q = true then r else bad) := by
    intro d
    induction d with
    | zero =>
      intro i hi hd ht
      have e : i = l.length := by omega
      subst e
      rw [List.take_length] at ht
      rw [List.drop_length, List.all_nil, if_pos rfl]
      exact hend ht
    | succ d ih =>
      intro i hi hd ht
      have hlt : i < l.length := by omega
      rw [List.drop_eq_getElem_cons hlt, List.all_cons]
      cases hq : q l[i] with
      | false => simpa using (hstep i hlt).2 hq
      | true =>
        rw [Bool.true_and]
        refine (hstep i hlt).1 hq (ih (i + 1) (by omega) (by omega) ?_)
        rw [List.take_succ_eq_append_getElem hlt, List.all_append, ht]
        simp [hq]
  simpa using key l.length 0 (by omega) (by omega) (by simp)
theorem rdE_String (l : List ByteArray) (i : Nat) (h : i < l.length) : rdOf ByteArray.empty l (i : Int) = l[i] := by simp [rdOf, h]
theorem rdset_String (l : List ByteArray) (i : Nat) (v : ByteArray) (h : i < l.length) : rdOf ByteArray.empty (l.set i v) (i : Int) = v := by simp [rdOf, h]
def cvString (x : ByteArray) : ByteArray := x
theorem rdE_Io (l : List S75) (i : Nat) (h : i < l.length) : rd_T75 l (i : Int) = l[i] := by simp [rd_T75, h]
theorem rdset_Io (l : List S75) (i : Nat) (v : S75) (h : i < l.length) : rd_T75 (l.set i v) (i : Int) = v := by simp [rd_T75, h]
def ioOK (x : S75) : Bool := inB x.f0 0 3 && (inB x.f1 0 63 && decide ((x.f2.size : Int) ≤ 80))
def secOK (x : ByteArray) : Bool := decide ((x.size : Int) ≤ 80)
def diskOK (d : List ByteArray) (l : List S75) : Bool := decide ((d.length : Int) = 64) && (decide ((l.length : Int) ≤ 200) && (d.all secOK && l.all ioOK))
theorem DiskOK_1_eq (x : S75) : impl_DiskOK_1.f x.f0 x.f1 x.f2 = some (ioOK x) := by
 simp only [impl_DiskOK_1.f, impl_isHost.f, impl_isPlace.f, impl_isSector.f, within_eq, Option.bind_some]
 unfold ioOK; exact and_opt (and_opt rfl)
theorem impl_DiskOK_eq (d : List ByteArray) (l : List S75) : impl_DiskOK.f d l = some (diskOK d l) := by
 have h1 : all44_impl_isSector.f d () = some (d.all secOK) := by unfold all44_impl_isSector.f; exact allO_some _ _ (fun x _ => rfl)
 have h2 : all45_impl_DiskOK_1.f l () = some (l.all ioOK) := by unfold all45_impl_DiskOK_1.f; exact allO_some _ _ (fun x _ => DiskOK_1_eq x)
 unfold impl_DiskOK.f diskOK
 rw [h1, h2]
 by_cases e1 : (d.length : Int) = 64 <;> by_cases e2 : (l.length : Int) ≤ 200 <;> cases d.all secOK <;> simp [e1, e2]
theorem cvStringS (d : List ByteArray) : d.map cvString = d := by induction d with
  | nil => rfl
  | cons x xs ih => rw [List.map_cons, ih]; rfl
theorem copied_eq (d : List ByteArray) (l : List S75) (hd : d.length ≤ 1000000000) (hl : l.length ≤ 1000000000) : impl_Disk_copied.f d l = some (d, l) := by
 simp only [impl_Disk_copied.f, slices_Clone_string_string.f, impl_Io_43.f]
 rw [if_pos (by omega), if_pos (by omega)]; rfl
theorem go_total (host : Int) (lose : Bool) : ∀ (l : List S75) (keep : Int) (secs : List ByteArray), (∀ x ∈ l, 0 ≤ x.f1 ∧ x.f1 < (secs.length : Int)) → ∃ q, impl_Disk_settle_go host lose l keep secs = some q ∧ q.1.length ≤ l.length ∧ q.2.2.length = secs.length := by
  intro l
  induction l with
  | nil => intro keep secs _; exact ⟨_, rfl, Nat.le_refl _, rfl⟩
  | cons x r ih =>
    intro keep secs h
    have hx := h x (by simp)
    have hs : ∃ b, impl_Disk_settle_stp host lose keep secs x = some b ∧ b.2.2.length = secs.length := by
      unfold impl_Disk_settle_stp
      by_cases c1 : x.f0 = host
      · rw [if_pos c1]
        by_cases c2 : keep > 0
        · rw [if_pos c2, if_pos hx.1, if_pos hx.2]; exact ⟨_, rfl, by simp⟩
        · rw [if_neg c2]; exact ⟨_, rfl, rfl⟩
      · rw [if_neg c1]; exact ⟨_, rfl, rfl⟩
    obtain ⟨⟨b, k1, s1⟩, e1, e2⟩ := hs
    obtain ⟨q, q1, q2, q3⟩ := ih k1 s1 (fun y hy => by have := h y (by simp [hy]); rw [e2]; exact this)
    refine ⟨(if b = true then q.1 else x :: q.1, q.2.1, q.2.2), by simp only [impl_Disk_settle_go, e1, q1, Option.bind_some], ?_, by show q.2.2.length = _; rw [q3]; exact e2⟩
    cases b
    · show (x :: q.1).length ≤ (x :: r).length; simp only [List.length_cons]; omega
    · show q.1.length ≤ (x :: r).length; simp only [List.length_cons]; omega
theorem codes_eq (d : List ByteArray) (l : List S75) (a : Int) : impl_Disk_codes.f d l a = some (if diskOK d l = true then (if inB a 0 3 = true then 0 else 4) else 1) := by
 simp only [impl_Disk_codes.f, impl_DiskOK_eq, impl_isHost.f, within_eq, Option.bind_some]
 cases diskOK d l
 ·simp [impl_first.f, firstO]
 ·cases inB a 0 3 <;> simp [impl_first.f, firstO]
def countOf (host : Int) (l : List S75) : Nat := (l.filter (fun x => x.f0 == host)).length
theorem count_take (host : Int) (l : List S75) (i : Nat) (h : i < l.length) : countOf host (l.take (i + 1)) = if l[i].f0 = host then countOf host (l.take i) + 1 else countOf host (l.take i) := by
 unfold countOf
 rw [List.take_succ_eq_append_getElem h, List.filter_append, List.length_append]
 by_cases c : l[i].f0 = host
 ·rw [if_pos c]; simp [c]
 ·rw [if_neg c]; simp [c]
theorem count_le (host : Int) (l : List S75) : countOf host l ≤ l.length := by unfold countOf; exact List.length_filter_le _ _
theorem count_take_le (host : Int) (l : List S75) (i : Nat) : countOf host (l.take i) ≤ l.length := Nat.le_trans (count_le _ _) (by simp; omega)
def landP (host : Int) (lose : Bool) : List S75 → Nat → List S75
  | [], _ => []
  | x :: r, 0 => if x.f0 = host then (if lose = true then landP host lose r 0 else x :: landP host lose r 0) else x :: landP host lose r 0
  | x :: r, k + 1 => if x.f0 = host then landP host lose r k else x :: landP host lose r (k + 1)
def landS (host : Int) : List S75 → Nat → List ByteArray → List ByteArray
  | [], _, s => s
  | x :: r, 0, s => landS host r 0 s
  | x :: r, k + 1, s => if x.f0 = host then landS host r k (s.set x.f1.toNat x.f2) else landS host r (k + 1) s
theorem go_land (host : Int) (lose : Bool) : ∀ (l : List S75) (k : Nat) (s : List ByteArray), k ≤ 100000 → (∀ x ∈ l, 0 ≤ x.f1 ∧ x.f1 < (s.length : Int)) → ∃ kf, impl_Disk_settle_go host lose l (k : Int) s = some (landP host lose l k, kf, landS host l k s) := by
  intro l
  induction l with
  | nil => intro k s _ _; cases k <;> exact ⟨_, rfl⟩
  | cons x r ih =>
    intro k s hk h
    have hx := h x (by simp)
    have hr : ∀ y ∈ r, 0 ≤ y.f1 ∧ y.f1 < (s.length : Int) := fun y hy => h y (by simp [hy])
    by_cases c1 : x.f0 = host
    · cases k with
      | zero =>
        obtain ⟨kf, e⟩ := ih 0 s (by omega) hr
        refine ⟨kf, ?_⟩
        simp only [impl_Disk_settle_go, impl_Disk_settle_stp, landP, landS, if_pos c1]
        rw [if_neg (by omega), Option.bind_some, e, Option.bind_some]
      | succ k =>
        obtain ⟨kf, e⟩ := ih k (s.set x.f1.toNat x.f2) (by omega) (by intro y hy; rw [List.length_set]; exact hr y hy)
        refine ⟨kf, ?_⟩
        simp only [impl_Disk_settle_go, impl_Disk_settle_stp, landP, landS, if_pos c1]
        rw [if_pos (by omega), if_pos hx.1, if_pos hx.2, Option.bind_some]
        simp only
        rw [w64 (n := ((k + 1 : Nat) : Int) - 1) (by omega) (by omega), show ((k + 1 : Nat) : Int) - 1 = (k : Int) by omega, e, Option.bind_some]
        rfl
    · obtain ⟨kf, e⟩ := ih k s hk hr
      refine ⟨kf, ?_⟩
      cases k <;> simp only [impl_Disk_settle_go, impl_Disk_settle_stp, landP, landS, if_neg c1] <;> rw [Option.bind_some] <;> simp only [e, Option.bind_some] <;> rfl
theorem landP_sub (host : Int) (lose : Bool) : ∀ (l : List S75) (k : Nat), (∀ x ∈ landP host lose l k, x ∈ l) ∧ (landP host lose l k).length ≤ l.length := by
  intro l
  induction l with
  | nil => intro k; cases k <;> exact ⟨by simp [landP], by simp [landP]⟩
  | cons x r ih =>
    intro k
    cases k with
    | zero =>
      obtain ⟨h1, h2⟩ := ih 0
      simp only [landP]
      split
      · split
        · exact ⟨fun y hy => by simp [h1 y hy], by simp only [List.length_cons]; omega⟩
        · refine ⟨fun y hy => ?_, by simp only [List.length_cons]; omega⟩
          rcases List.mem_cons.1 hy with rfl | hy
          · simp
          · simp [h1 y hy]
      · refine ⟨fun y hy => ?_, by simp only [List.length_cons]; omega⟩
        rcases List.mem_cons.1 hy with rfl | hy
        · simp
        · simp [h1 y hy]
    | succ k =>
      simp only [landP]
      split
      · obtain ⟨h1, h2⟩ := ih k
        exact ⟨fun y hy => by simp [h1 y hy], by simp only [List.length_cons]; omega⟩
      · obtain ⟨h1, h2⟩ := ih (k + 1)
        refine ⟨fun y hy => ?_, by simp only [List.length_cons]; omega⟩
        rcases List.mem_cons.1 hy with rfl | hy
        · simp
        · simp [h1 y hy]
theorem landS_ok (host : Int) : ∀ (l : List S75) (k : Nat) (s : List ByteArray), (∀ x ∈ l, x.f2.size ≤ 80) → (∀ x ∈ s, x.size ≤ 80) → (landS host l k s).length = s.length ∧ ∀ x ∈ landS host l k s, x.size ≤ 80 := by
  intro l
  induction l with
  | nil => intro k s _ hs; cases k <;> exact ⟨rfl, hs⟩
  | cons x r ih =>
    intro k s hl hs
    have hr : ∀ y ∈ r, y.f2.size ≤ 80 := fun y hy => hl y (by simp [hy])
    cases k with
    | zero => exact ih 0 s hr hs
    | succ k =>
      simp only [landS]
      split
      · obtain ⟨h1, h2⟩ := ih k (s.set x.f1.toNat x.f2) hr (by
          intro y hy
          rcases List.mem_or_eq_of_mem_set hy with hy | rfl
          · exact hs y hy
          · exact hl x (by simp))
        exact ⟨by rw [h1, List.length_set], h2⟩
      · exact ih (k + 1) s hr hs
theorem disk_of {d : List ByteArray} {l : List S75} (h1 : d.length = 64) (h2 : l.length ≤ 200) (h3 : ∀ x ∈ d, x.size ≤ 80) (h4 : ∀ x ∈ l, ioOK x = true) : diskOK d l = true := by
 unfold diskOK
 rw [decide_eq_true (show (d.length : Int) = 64 by omega), decide_eq_true (show (l.length : Int) ≤ 200 by omega), List.all_eq_true.2 (fun x hx => by unfold secOK; exact decide_eq_true (by have := h3 x hx; omega)), List.all_eq_true.2 h4]; rfl
theorem disk_in {d : List ByteArray} {l : List S75} (h : diskOK d l = true) : d.length = 64 ∧ l.length ≤ 200 ∧ (∀ x ∈ d, x.size ≤ 80) ∧ (∀ x ∈ l, ioOK x = true) := by
 unfold diskOK at h
 simp only [Bool.and_eq_true, decide_eq_true_eq, List.all_eq_true] at h
 obtain ⟨h1, h2, h3, h4⟩ := h
 exact ⟨by omega, by omega, fun x hx => by have := h3 x hx; unfold secOK at this; have := of_decide_eq_true this; omega, h4⟩
theorem io_in {x : S75} (h : ioOK x = true) : 0 ≤ x.f0 ∧ x.f0 ≤ 3 ∧ 0 ≤ x.f1 ∧ x.f1 ≤ 63 ∧ x.f2.size ≤ 80 := by
 unfold ioOK at h
 simp only [Bool.and_eq_true, decide_eq_true_eq] at h
 have h1 := inB_iff.1 h.1; have h2 := inB_iff.1 h.2.1
 exact ⟨h1.1, h1.2, h2.1, h2.2, by omega⟩
theorem io_of {x : S75} (h0 : 0 ≤ x.f0) (h1 : x.f0 ≤ 3) (h2 : 0 ≤ x.f1) (h3 : x.f1 ≤ 63) (h4 : x.f2.size ≤ 80) : ioOK x = true := by
 unfold ioOK
 rw [inB_iff.2 ⟨h0, h1⟩, inB_iff.2 ⟨h2, h3⟩, decide_eq_true (by omega)]; rfl
theorem land_ok {d : List ByteArray} {l : List S75} (h : diskOK d l = true) (host : Int) (k : Nat) (lose : Bool) : diskOK (landS host l k d) (landP host lose l k) = true := by
 obtain ⟨h1, h2, h3, h4⟩ := disk_in h
 obtain ⟨p1, p2⟩ := landP_sub host lose l k
 obtain ⟨s1, s2⟩ := landS_ok host l k d (fun x hx => (io_in (h4 x hx)).2.2.2.2) h3
 exact disk_of (by omega) (by omega) s2 (fun x hx => h4 x (p1 x hx))
theorem settle_imp {d : List ByteArray} {l : List S75} (h : diskOK d l = true) (host : Int) (k : Nat) (hk : k ≤ 100000) (lose : Bool) : impl_Disk_settle.f d l host (k : Int) lose = some (landS host l k d, landP host lose l k) := by
 obtain ⟨h1, h2, h3, h4⟩ := disk_in h
 obtain ⟨kf, e⟩ := go_land host lose l k d hk (fun x hx => by have := io_in (h4 x hx); omega)
 unfold impl_Disk_settle.f
 rw [copied_eq d l (by omega) (by omega), Option.bind_some]
 show (if l.length ≤ 1000000000 then _ else _) = _
 rw [if_pos (by omega)]
 show (impl_Disk_settle_go host lose l (k : Int) d).bind _ = _
 rw [e]; rfl
theorem codes0 {d : List ByteArray} {l : List S75} (h : diskOK d l = true) {a : Int} (h0 : 0 ≤ a) (h1 : a ≤ 3) : impl_Disk_codes.f d l a = some 0 := by
 rw [codes_eq, h, inB_iff.2 ⟨h0, h1⟩]; rfl
theorem lose_eq {d : List ByteArray} {l : List S75} (h : diskOK d l = true) {a : Int} (h0 : 0 ≤ a) (h1 : a ≤ 3) (k : Nat) (hk : k ≤ 200) : impl_LoseHost.f d l a (k : Int) = some (landS a l k d, landP a true l k, 0) := by
 unfold impl_LoseHost.f
 simp only [impl_DiskOK_eq, impl_isHost.f, within_eq, Option.bind_some, h, inB_iff.2 ⟨h0, h1⟩, inB_iff.2 ⟨show (0 : Int) ≤ (k : Int) by omega, show (k : Int) ≤ 200 by omega⟩]
 rw [show impl_first.f [Any.b (!true), Any.n 1, Any.b (!true), Any.n 4, Any.b (!true), Any.n 4] = some 0 from rfl, Option.bind_some, if_pos rfl, settle_imp h a k (by omega) true]; rfl
theorem landP0 (a : Int) : ∀ l : List S75, landP a false l 0 = l := by
  intro l
  induction l with
  | nil => rfl
  | cons x r ih => simp only [landP, ih, Bool.false_eq_true, if_false, ite_self]
theorem landS0 (a : Int) : ∀ (l : List S75) (s : List ByteArray), landS a l 0 s = s := by
  intro l
  induction l with
  | nil => intro s; rfl
  | cons x r ih => intro s; exact ih s
theorem count_cons (a : Int) (x : S75) (r : List S75) : countOf a (x :: r) = (if x.f0 = a then countOf a r + 1 else countOf a r) := by
 unfold countOf
 by_cases c : x.f0 = a
 ·rw [if_pos c, List.filter_cons_of_pos (by simp [c])]; rfl
 ·rw [if_neg c, List.filter_cons_of_neg (by simp [c])]
theorem landP_true (a : Int) : ∀ (l : List S75) (k : Nat), landP a true l k = l.filter (fun x => !(x.f0 == a)) := by
  intro l
  induction l with
  | nil => intro k; cases k <;> rfl
  | cons x r ih =>
    intro k
    by_cases c : x.f0 = a
    · rw [List.filter_cons_of_neg (by simp [c])]
      cases k with
      | zero => simp only [landP, if_pos c, if_true]; exact ih 0
      | succ k => simp only [landP, if_pos c]; exact ih k
    · rw [List.filter_cons_of_pos (by simp [c])]
      cases k with
      | zero => simp only [landP, if_neg c, ih 0]
      | succ k => simp only [landP, if_neg c, ih (k + 1)]
theorem landP_filter (a : Int) : ∀ (l : List S75) (k : Nat), (landP a false l k).filter (fun x => !(x.f0 == a)) = l.filter (fun x => !(x.f0 == a)) := by
  intro l
  induction l with
  | nil => intro k; cases k <;> rfl
  | cons x r ih =>
    intro k
    by_cases c : x.f0 = a
    · rw [List.filter_cons_of_neg (l := r) (by simp [c])]
      cases k with
      | zero => simp only [landP, if_pos c, Bool.false_eq_true, if_false]; rw [List.filter_cons_of_neg (by simp [c])]; exact ih 0
      | succ k => simp only [landP, if_pos c]; exact ih k
    · rw [List.filter_cons_of_pos (l := r) (by simp [c])]
      cases k with
      | zero => simp only [landP, if_neg c]; rw [List.filter_cons_of_pos (by simp [c]), ih 0]
      | succ k => simp only [landP, if_neg c]; rw [List.filter_cons_of_pos (by simp [c]), ih (k + 1)]
theorem count_landP (a : Int) : ∀ (l : List S75) (k : Nat), countOf a (landP a false l k) = countOf a l - k := by
  intro l
  induction l with
  | nil => intro k; cases k <;> simp [landP, countOf]
  | cons x r ih =>
    intro k
    by_cases c : x.f0 = a
    · cases k with
      | zero => rw [landP0]; omega
      | succ k => simp only [landP, if_pos c]; rw [ih k, count_cons, if_pos c]; omega
    · cases k with
      | zero => rw [landP0]; omega
      | succ k => simp only [landP, if_neg c]; rw [count_cons, count_cons, if_neg c, if_neg c, ih (k + 1)]
theorem landP_step (a : Int) : ∀ (l : List S75) (j : Nat), landP a false (landP a false l j) 1 = landP a false l (j + 1) := by
  intro l
  induction l with
  | nil => intro j; cases j <;> rfl
  | cons x r ih =>
    intro j
    by_cases c : x.f0 = a
    · cases j with
      | zero => rw [landP0]
      | succ j => simp only [landP, if_pos c]; exact ih j
    · cases j with
      | zero => rw [landP0]
      | succ j => simp only [landP, if_neg c]; rw [ih (j + 1)]
theorem landS_step (a : Int) : ∀ (l : List S75) (j : Nat) (s : List ByteArray), landS a (landP a false l j) 1 (landS a l j s) = landS a l (j + 1) s := by
  intro l
  induction l with
  | nil => intro j s; cases j <;> rfl
  | cons x r ih =>
    intro j s
    by_cases c : x.f0 = a
    · cases j with
      | zero => rw [landP0, landS0]
      | succ j => simp only [landP, landS, if_pos c]; exact ih j _
    · cases j with
      | zero => rw [landP0, landS0]
      | succ j => simp only [landP, landS, if_neg c]; exact ih (j + 1) s
theorem landS_more (a : Int) : ∀ (l : List S75) (k j : Nat) (s : List ByteArray), countOf a l ≤ k → countOf a l ≤ j → landS a l k s = landS a l j s := by
  intro l
  induction l with
  | nil => intro k j s _ _; cases k <;> cases j <;> rfl
  | cons x r ih =>
    intro k j s hk hj
    rw [count_cons] at hk hj
    by_cases c : x.f0 = a
    · rw [if_pos c] at hk hj
      cases k with
      | zero => omega
      | succ k =>
        cases j with
        | zero => omega
        | succ j => simp only [landS, if_pos c]; exact ih k j _ (by omega) (by omega)
    · rw [if_neg c] at hk hj
      cases k with
      | zero =>
        cases j with
        | zero => rfl
        | succ j => simp only [landS, if_neg c]; exact ih 0 (j + 1) s hk hj
      | succ k =>
        cases j with
        | zero => simp only [landS, if_neg c]; exact ih (k + 1) 0 s hk hj
        | succ j => simp only [landS, if_neg c]; exact ih (k + 1) (j + 1) s hk hj
theorem landS_snoc (a : Int) (x : S75) (hx : x.f0 = a) : ∀ (l : List S75) (k : Nat) (s : List ByteArray), countOf a l < k → landS a (l ++ [x]) k s = (landS a l k s).set x.f1.toNat x.f2 := by
  intro l
  induction l with
  | nil =>
    intro k s hk
    cases k with
    | zero => simp [countOf] at hk
    | succ k => simp only [List.nil_append, landS, if_pos hx]
  | cons y r ih =>
    intro k s hk
    rw [count_cons] at hk
    rw [List.cons_append]
    cases k with
    | zero => omega
    | succ k =>
      by_cases c : y.f0 = a
      · rw [if_pos c] at hk
        simp only [landS, if_pos c]; exact ih k _ (by omega)
      · rw [if_neg c] at hk
        simp only [landS, if_neg c]; exact ih (k + 1) s hk
theorem count_filter (a : Int) (l : List S75) : countOf a (l.filter (fun x => !(x.f0 == a))) = 0 := by
 unfold countOf
 rw [List.filter_filter, List.length_eq_zero_iff, List.filter_eq_nil_iff]
 intro x _
 cases (x.f0 == a) <;> simp
theorem filter_count (a : Int) : ∀ l : List S75, (l.filter (fun x => !(x.f0 == a))).length + countOf a l = l.length := by
  intro l
  induction l with
  | nil => rfl
  | cons x r ih =>
    rw [count_cons]
    by_cases c : x.f0 = a
    · rw [if_pos c, List.filter_cons_of_neg (by simp [c]), List.length_cons]; omega
    · rw [if_neg c, List.filter_cons_of_pos (by simp [c]), List.length_cons, List.length_cons]; omega
theorem sameTexts_ev (l : List ByteArray) (hl : l.length ≤ 1000000000) : Ev (fun k => laws_sameTexts.f k l l) true := by
 unfold laws_sameTexts.f
 refine ev_pos rfl ?_
 refine ev_loop (g := fun k i => laws_sameTexts.l0 k l l (i : Int)) l.length ?_ ?_ l.length 0 (by omega) (by omega)
 ·refine Ev.step (f := fun _ => some true) (fun k => ?_) (ev_some _)
  simp only [laws_sameTexts.l0]; rw [if_neg (by omega)]
 ·intro i hi
  refine ⟨1, fun k => ⟨?_, by omega⟩⟩
  simp only [laws_sameTexts.l0]
  rw [if_pos (by omega), if_pos (by omega), if_pos (by omega), if_pos trivial, wnext i (by omega)]
theorem rdE_Move (l : List S52) (i : Nat) (h : i < l.length) : rd_T52 l (i : Int) = l[i] := by simp [rd_T52, h]
theorem rdset_Move (l : List S52) (i : Nat) (v : S52) (h : i < l.length) : rd_T52 (l.set i v) (i : Int) = v := by simp [rd_T52, h]
def ioM (a : Int) (m : S52) : S75 := ⟨a, m.f1, m.f2⟩
def putM (S : List ByteArray) (l : List S52) : List ByteArray := l.foldl (fun s m => s.set m.f1.toNat m.f2) S
def wrM (l : List S52) : List S52 := l.filter (fun m => !(m.f0 == 2))
def mvS (a : Int) : List S52 → List ByteArray → List S75 → List ByteArray × List S75
  | [], s, p => (s, p)
  | m :: r, s, p => if m.f0 = 2 then mvS a r (landS a p 400 s) (landP a false p 400) else mvS a r s (p ++ [ioM a m])
theorem putM_app (S : List ByteArray) (a b : List S52) : putM S (a ++ b) = putM (putM S a) b := by simp [putM]
theorem putM_len (l : List S52) : ∀ S : List ByteArray, (putM S l).length = S.length := by
  induction l with
  | nil => intro S; rfl
  | cons m r ih => intro S; show (putM (S.set m.f1.toNat m.f2) r).length = _; rw [ih]; simp
theorem wrM_app (a b : List S52) : wrM (a ++ b) = wrM a ++ wrM b := by simp [wrM]
theorem wrM_take (l : List S52) (n : Nat) : ∃ j, wrM (l.take n) = (wrM l).take j := by
 have h : wrM (l.take n) ++ wrM (l.drop n) = wrM l := by rw [← wrM_app, List.take_append_drop]
 exact ⟨(wrM (l.take n)).length, by rw [← h]; simp⟩
theorem landS_own (a : Int) : ∀ (l : List S52) (k : Nat) (s : List ByteArray), landS a (l.map (ioM a)) k s = putM s (l.take k) := by
  intro l
  induction l with
  | nil => intro k s; simp [landS, putM]
  | cons m r ih =>
    intro k s
    cases k with
    | zero => rw [landS0]; rfl
    | succ k =>
      show landS a (ioM a m :: r.map (ioM a)) (k + 1) s = _
      simp only [landS, ioM, if_true, List.take_succ_cons]
      exact ih k _
theorem landP_own (a : Int) : ∀ (l : List S52) (k : Nat), landP a false (l.map (ioM a)) k = (l.drop k).map (ioM a) := by
  intro l
  induction l with
  | nil => intro k; simp [landP]
  | cons m r ih =>
    intro k
    cases k with
    | zero => rw [landP0]; rfl
    | succ k =>
      show landP a false (ioM a m :: r.map (ioM a)) (k + 1) = _
      simp only [landP, ioM, if_true, List.drop_succ_cons]
      exact ih k
theorem landP_lost (a : Int) (l : List S52) (k : Nat) : landP a true (l.map (ioM a)) k = [] := by
 rw [landP_true]
 simp [ioM]
theorem mvS_own (a : Int) : ∀ (l p : List S52) (s : List ByteArray), p.length + l.length ≤ 400 → ∃ j, j ≤ (p ++ wrM l).length ∧ mvS a l s (p.map (ioM a)) = (putM s ((p ++ wrM l).take j), ((p ++ wrM l).drop j).map (ioM a)) := by
  intro l
  induction l with
  | nil => intro p s _; exact ⟨0, by simp, by simp [mvS, putM, wrM]⟩
  | cons m r ih =>
    intro p s h
    simp only [List.length_cons] at h
    simp only [mvS]
    by_cases c : m.f0 = 2
    · rw [if_pos c]
      have e : wrM (m :: r) = wrM r := by simp [wrM, c]
      rw [landS_own, landP_own, e, List.take_of_length_le (by omega), List.drop_of_length_le (by omega)]
      obtain ⟨j, hj, h1⟩ := ih [] (putM s p) (by simp; omega)
      simp only [List.nil_append] at hj h1
      refine ⟨p.length + j, by simp; omega, ?_⟩
      rw [show ([] : List S52).map (ioM a) = [] from rfl] at h1
      rw [List.map_nil, h1, List.take_length_add_append, List.drop_length_add_append, putM_app]
    · rw [if_neg c]
      have e : wrM (m :: r) = m :: wrM r := by simp [wrM, c]
      obtain ⟨j, hj, h1⟩ := ih (p ++ [m]) s (by simp; omega)
      rw [List.append_assoc, List.singleton_append] at hj h1
      rw [List.map_append, List.map_singleton] at h1
      exact ⟨j, by rw [e]; exact hj, by rw [e]; exact h1⟩
theorem mvS_app (a : Int) : ∀ (l m : List S52) (s : List ByteArray) (p : List S75), mvS a (l ++ m) s p = mvS a m (mvS a l s p).1 (mvS a l s p).2 := by
  intro l
  induction l with
  | nil => intro m s p; rfl
  | cons x r ih =>
    intro m s p
    simp only [List.cons_append, mvS]
    by_cases c : x.f0 = 2
    · rw [if_pos c, if_pos c, ih]
    · rw [if_neg c, if_neg c, ih]
/-- Moves that end with a flush leave all sure. -/
theorem mvS_flushed (a : Int) (l : List S52) (m : S52) (hm : m.f0 = 2) (s : List ByteArray) (h : l.length ≤ 400) : mvS a (l ++ [m]) s [] = (putM s (wrM l), []) := by
 obtain ⟨j, hj, h1⟩ := mvS_own a l [] s (by simpa using h)
 simp only [List.nil_append, List.map_nil] at hj h1
 have hw : (wrM l).length ≤ l.length := List.length_filter_le _ _
 rw [mvS_app, h1]
 simp only [mvS, if_pos hm]
 rw [landS_own, landP_own, ← putM_app, List.take_of_length_le (l := (wrM l).drop j) (by simp; omega), List.take_append_drop, List.drop_of_length_le (by simp; omega)]
 rfl
/-- What is left where a host crashes in the midst of moves. -/
theorem mvS_crash (a : Int) (l : List S52) (s : List ByteArray) (h : l.length ≤ 400) (k : Nat) : ∃ j, landS a (mvS a l s []).2 k (mvS a l s []).1 = putM s ((wrM l).take j) ∧ landP a true (mvS a l s []).2 k = [] := by
 obtain ⟨j, hj, h1⟩ := mvS_own a l [] s (by simpa using h)
 simp only [List.nil_append, List.map_nil] at hj h1
 rw [h1]
 refine ⟨j + k, ?_, landP_lost a _ _⟩
 show landS a (((wrM l).drop j).map (ioM a)) k (putM s ((wrM l).take j)) = _
 rw [landS_own, ← putM_app, List.take_add]
/-- A sector behind writes. -/
def lastW (p : Nat) : List S52 → Option ByteArray
  | [] => none
  | m :: r => match lastW p r with | some t => some t | none => if m.f1.toNat = p then some m.f2 else none
theorem lastW_app (p : Nat) : ∀ a b : List S52, lastW p (a ++ b) = match lastW p b with | some t => some t | none => lastW p a := by
  intro a b
  induction a with
  | nil => cases h : lastW p b <;> simp [lastW, h]
  | cons m r ih =>
    simp only [List.cons_append, lastW, ih]
    cases h : lastW p b <;> rfl
theorem lastW_none (p : Nat) : ∀ l : List S52, (∀ m ∈ l, m.f1.toNat ≠ p) → lastW p l = none := by
  intro l
  induction l with
  | nil => intro _; rfl
  | cons m r ih =>
    intro h
    simp only [lastW]
    rw [ih (fun x hx => h x (by simp [hx])), if_neg (h m (by simp))]
theorem putM_get (p : Nat) : ∀ (l : List S52) (S : List ByteArray), p < S.length → (putM S l)[p]? = some (match lastW p l with | some t => t | none => S.getD p ByteArray.empty) := by
  intro l
  induction l with
  | nil => intro S h; simp [putM, lastW, h]
  | cons m r ih =>
    intro S h
    show (putM (S.set m.f1.toNat m.f2) r)[p]? = _
    rw [ih _ (by simpa using h)]
    simp only [lastW]
    cases hr : lastW p r with
    | some t => rfl
    | none =>
      by_cases c : m.f1.toNat = p
      · simp [c, h]
      · rw [if_neg c]; simp [List.getElem?_set_ne c, List.getD_eq_getElem?_getD]
/-- What is written anew may have been written before, in part. -/
theorem again (p : Nat) (S : List ByteArray) (hp : p < S.length) (A B : List S52) (i : Nat) : (putM (putM S (A.take i)) (A ++ B))[p]? = (putM S (A ++ B))[p]? := by
  rw [putM_get p _ _ (by rw [putM_len]; exact hp), putM_get p _ _ hp]
  cases h : lastW p (A ++ B) with
  | some t => rfl
  | none =>
    have h1 : lastW p A = none := by
      rw [lastW_app] at h
      cases hB : lastW p B with
      | some t => rw [hB] at h; cases h
      | none => rw [hB] at h; exact h
    have h2 : lastW p (A.take i) = none := by
      have := lastW_app p (A.take i) (A.drop i)
      rw [List.take_append_drop, h1] at this
      cases hd : lastW p (A.drop i) with
      | some t => rw [hd] at this; cases this
      | none => rw [hd] at this; exact this.symm
    have h3 := putM_get p (A.take i) S hp
    rw [h2] at h3
    simp only [List.getD_eq_getElem?_getD, h3, Option.getD_some]
/-- The bytes of a number. -/
def quad (n : Int) : List Int := [n % 256, n / 256 % 256, n / 65536 % 256, n / 16777216 % 256]
def packP (l : List Int) : List Int := l.flatMap quad
theorem packP_length (l : List Int) : (packP l).length = 4 * l.length := by
  induction l with
  | nil => rfl
  | cons x xs ih => simp only [packP, List.flatMap_cons, List.length_append] at ih ⊢; rw [ih]; simp [quad]; omega
theorem packP_snoc (l : List Int) (x : Int) : packP (l ++ [x]) = packP l ++ quad x := by simp [packP]
theorem rd_eq (l : List Int) (i : Nat) (h : i < l.length) : rd l (i : Int) = l[i] := by simp [rd, h]
theorem take_next {α : Type} (l : List α) (i : Nat) (h : i < l.length) : l.take (i + 1) = l.take i ++ [l[i]] := by
 rw [List.take_succ_eq_append_getElem h]
theorem impl_pack_from (l : List Int) (hl : l.length ≤ 1000000000) (d : Nat) : ∀ (k i : Nat), i ≤ l.length → l.length - i = d → d < k →
    impl_pack.l0 k (packP (l.take i)) l (l.length : Int) i = some (strOfNums (packP l)) := by
  induction d with
  | zero =>
    intro k i hi hd hk
    obtain ⟨k, rfl⟩ : ∃ m, k = m + 1 := ⟨k - 1, by omega⟩
    simp only [impl_pack.l0]
    rw [if_neg (by omega), List.take_of_length_le (by omega)]
  | succ d ih =>
    intro k i hi hd hk
    obtain ⟨k, rfl⟩ : ∃ m, k = m + 1 := ⟨k - 1, by omega⟩
    have hlt : i < l.length := by omega
    have hp := packP_length (l.take i)
    have hl2 : (l.take i).length ≤ i := List.length_take_le _ _
    simp only [impl_pack.l0]
    rw [if_pos (by omega), if_pos (by omega), if_pos (by omega)]
    simp only [Option.bind_some, List.length_cons, List.length_nil]
    rw [if_pos (by omega), rd_eq l i hlt]
    have : packP (l.take i) ++ [l[i] % 256, l[i] / 256 % 256, l[i] / 65536 % 256, l[i] / 16777216 % 256] = packP (l.take (i + 1)) := by
      rw [take_next l i hlt, packP_snoc]; rfl
    rw [this, w64 (by omega) (by omega)]
    exact ih k (i + 1) (by omega) (by omega) (by omega)
theorem impl_pack_ev (l : List Int) (hl : l.length ≤ 1000000000) : Ev (fun k => impl_pack.f k l) (strOfNums (packP l)) :=
 ⟨l.length + 1, fun k hk => by have := impl_pack_from l hl l.length k 0 (by omega) (by omega) (by omega); simpa [impl_pack.f, packP] using this⟩
/-- One step of the sum. -/
def sumStep (t : ByteArray) (n : Int) (i : Nat) : Int := Int.tmod (wrap64 (n + (wrap64 ((wrap64 ((i : Int) + 1)) * (wrap64 ((wrap64 (bt t i)) + 1)))))) 251
def sumP (t : ByteArray) : Int := (List.range t.size).foldl (sumStep t) 0
theorem range_split (i n : Nat) (h : i < n) : List.range' i (n - i) = i :: List.range' (i + 1) (n - (i + 1)) := by
 obtain ⟨d, rfl⟩ : ∃ d, n = i + 1 + d := ⟨n - (i + 1), by omega⟩
 rw [show i + 1 + d - i = d + 1 by omega, show i + 1 + d - (i + 1) = d by omega, List.range'_succ]
theorem impl_sum_from (t : ByteArray) (ht : t.size ≤ 1000000000000) (d : Nat) : ∀ (k i : Nat) (n : Int), i ≤ t.size → t.size - i = d → d < k →
    impl_sumOf.l0 k t n (t.size : Int) i = some ((List.range' i (t.size - i)).foldl (sumStep t) n) := by
  induction d with
  | zero =>
    intro k i n hi hd hk
    obtain ⟨k, rfl⟩ : ∃ m, k = m + 1 := ⟨k - 1, by omega⟩
    simp only [impl_sumOf.l0]
    rw [if_neg (by omega), hd]; rfl
  | succ d ih =>
    intro k i n hi hd hk
    obtain ⟨k, rfl⟩ : ∃ m, k = m + 1 := ⟨k - 1, by omega⟩
    simp only [impl_sumOf.l0]
    rw [if_pos (by omega), if_pos (by omega), if_pos (by omega), range_split i t.size (by omega)]
    have e : wrap64 ((i : Int) + 1) = ((i + 1 : Nat) : Int) := by rw [w64 (by omega) (by omega)]; rfl
    have := ih k (i + 1) (sumStep t n i) (by omega) (by omega) (by omega)
    rw [List.foldl_cons, ← this]
    simp only [sumStep, e]
theorem impl_sum_ev (t : ByteArray) (ht : t.size ≤ 1000000000000) : Ev (fun k => impl_sumOf.f k t) (sumP t) :=
 ⟨t.size + 1, fun k hk => by have := impl_sum_from t ht t.size k 0 0 (by omega) (by omega) (by omega); simpa [impl_sumOf.f, sumP, List.range_eq_range'] using this⟩
/-- A record. -/
def headP (kind : Int) (l : List Int) : ByteArray := strOfNums [kind % 256, (l.length : Int) % 256]
def sealP (kind : Int) (l : List Int) : ByteArray := headP kind l ++ strOfNums [sumP (headP kind l ++ strOfNums (packP l)) % 256, 0] ++ strOfNums (packP l)
theorem headP_size (kind : Int) (l : List Int) : (headP kind l).size = 2 := by simp [headP, strOfNums_size]
theorem sealP_size (kind : Int) (l : List Int) : (sealP kind l).size = 4 + 4 * l.length := by simp [sealP, headP_size, strOfNums_size, packP_length]
theorem impl_seal_ev (kind : Int) (l : List Int) (hl : l.length ≤ 1000000000) : Ev (fun k => impl_seal.f k kind l) (sealP kind l) := by
 have hp : (strOfNums (packP l)).size = 4 * l.length := by rw [strOfNums_size, packP_length]
 have hh := headP_size kind l
 unfold impl_seal.f
 simp only [Option.bind_some]
 refine ev_bind (impl_pack_ev l hl) ?_
 refine ev_pos (by rw [strOfNums_size, hp]; simp; omega) ?_
 refine ev_bind (impl_sum_ev _ (by rw [ba_size_append, strOfNums_size, hp]; simp; omega)) ?_
 refine ev_pos (by simp [strOfNums_size]) ?_
 refine ev_pos (by rw [ba_size_append, hp]; simp [strOfNums_size]; omega) ?_
 exact ev_some _
theorem bt_nn (t : ByteArray) (i : Int) : 0 ≤ bt t i := by unfold bt; split <;> omega
theorem bt_lt (t : ByteArray) (i : Int) : bt t i < 256 := by
 unfold bt; split
 ·have := (t[i.toNat]).toNat_lt; omega
 ·omega
theorem wraps_i64 (n : Int) (h0 : 0 ≤ n) (h1 : n < 2 ^ 63) : IntKind.i64.wrap n = n := by rw [IntKind.wrap_i64]; omega
theorem or64 (i : Nat) {x y : Int} (hx₀ : 0 ≤ x) (hx : x % 2 ^ i = 0) (hx₁ : x < 2 ^ 63) (h₀ : 0 ≤ y) (h₁ : y < 2 ^ i) (hy : y < 2 ^ 63) : Go.bits .or .i64 x y = x + y :=
 bits_join .i64 63 (by decide) wraps_i64 i x y hx₀ hx hx₁ h₀ h₁ hy
theorem or64' (i : Nat) {x y : Int} (hx₀ : 0 ≤ x) (hx : x % 2 ^ i = 0) (hx₁ : x < 2 ^ 63) (h₀ : 0 ≤ y) (h₁ : y < 2 ^ i) (hy : y < 2 ^ 63) : Go.bits .or .i64 y x = y + x := by
 obtain ⟨a, rfl⟩ := Int.eq_ofNat_of_zero_le hx₀
 obtain ⟨b, rfl⟩ := Int.eq_ofNat_of_zero_le h₀
 have ha : a < 2 ^ 63 := by exact_mod_cast hx₁
 have hb : b < 2 ^ 63 := by exact_mod_cast hy
 have h := or64 i (x := (a : Int)) (y := (b : Int)) hx₀ hx hx₁ h₀ h₁ hy
 rw [(bits_nat .i64 63 (by decide) wraps_i64 a b ha hb).2] at h
 rw [(bits_nat .i64 63 (by decide) wraps_i64 b a hb ha).2, Nat.or_comm, h]; omega
def numAt (t : ByteArray) (i : Nat) : Int := bt t (i : Int) + 256 * bt t ((i + 1 : Nat) : Int) + 65536 * bt t ((i + 2 : Nat) : Int) + 16777216 * bt t ((i + 3 : Nat) : Int)
def numsP (t : ByteArray) : List Int := (List.range (t.size / 4)).map (fun j => numAt t (4 * j))
theorem numsP_length (t : ByteArray) : (numsP t).length = t.size / 4 := by simp [numsP]
theorem numsP_take (t : ByteArray) (j : Nat) (h : j < t.size / 4) : (numsP t).take (j + 1) = (numsP t).take j ++ [numAt t (4 * j)] := by
 rw [take_next _ j (by rw [numsP_length]; exact h)]; simp [numsP]
def intsOK (l : List Int) : Bool := l.all (fun n => inB n 0 2147483647) && decide ((l.length : Int) ≤ 16)
theorem mul_wrap {a b c : Int} (h0 : 0 ≤ a) (h1 : a < c) (hb : 0 < b) (h : c * b ≤ 9223372036854775807) : wrap64 (a * b) = a * b := by
 have h2 : a * b ≤ c * b := Int.mul_le_mul_of_nonneg_right (by omega) (by omega)
 have h3 : 0 ≤ a * b := Int.mul_nonneg h0 (by omega)
 exact w64 (by omega) (by omega)
theorem four_up {a b c d : Int} (a0 : 0 ≤ a) (a1 : a < 256) (b0 : 0 ≤ b) (b1 : b < 256) (c0 : 0 ≤ c) (c1 : c < 256) (d0 : 0 ≤ d) (d1 : d < 256) :
  Go.bits .or .i64 (wrap64 (Go.bits .or .i64 (wrap64 (Go.bits .or .i64 (wrap64 (Go.bits .or .i64 (wrap64 (0 * 256)) (wrap64 d) * 256)) (wrap64 c) * 256)) (wrap64 b) * 256)) (wrap64 a) = a + 256 * b + 65536 * c + 16777216 * d := by
 rw [w64 (n := a) (by omega) (by omega), w64 (n := b) (by omega) (by omega), w64 (n := c) (by omega) (by omega), w64 (n := d) (by omega) (by omega)]
 rw [w64 (n := 0 * 256) (by omega) (by omega), or64 8 (x := 0 * 256) (by omega) (by omega) (by omega) d0 (by omega) (by omega)]
 obtain ⟨u, hu⟩ : ∃ u, u = 0 * 256 + d := ⟨_, rfl⟩
 rw [← hu, w64 (n := u * 256) (by omega) (by omega), or64 8 (x := u * 256) (by omega) (by omega) (by omega) c0 (by omega) (by omega)]
 obtain ⟨v, hv⟩ : ∃ v, v = u * 256 + c := ⟨_, rfl⟩
 rw [← hv, w64 (n := v * 256) (by omega) (by omega), or64 8 (x := v * 256) (by omega) (by omega) (by omega) b0 (by omega) (by omega)]
 obtain ⟨x, hx⟩ : ∃ x, x = v * 256 + b := ⟨_, rfl⟩
 rw [← hx, w64 (n := x * 256) (by omega) (by omega), or64 8 (x := x * 256) (by omega) (by omega) (by omega) a0 (by omega) (by omega)]
 omega
theorem four_down {a b c d : Int} (a0 : 0 ≤ a) (a1 : a < 256) (b0 : 0 ≤ b) (b1 : b < 256) (c0 : 0 ≤ c) (c1 : c < 256) (d0 : 0 ≤ d) (d1 : d < 256) :
  Go.bits .or .i64 (Go.bits .or .i64 (Go.bits .or .i64 (wrap64 a) (wrap64 (wrap64 b * 256))) (wrap64 (wrap64 c * 65536))) (wrap64 (wrap64 d * 16777216)) = a + 256 * b + 65536 * c + 16777216 * d := by
 rw [w64 (n := a) (by omega) (by omega), w64 (n := b) (by omega) (by omega), w64 (n := c) (by omega) (by omega), w64 (n := d) (by omega) (by omega)]
 rw [w64 (n := b * 256) (by omega) (by omega), w64 (n := c * 65536) (by omega) (by omega), w64 (n := d * 16777216) (by omega) (by omega)]
 rw [or64' 8 (x := b * 256) (by omega) (by omega) (by omega) a0 (by omega) (by omega)]
 obtain ⟨u, hu⟩ : ∃ u, u = a + b * 256 := ⟨_, rfl⟩
 rw [← hu, or64' 16 (x := c * 65536) (by omega) (by omega) (by omega) (y := u) (by omega) (by omega) (by omega)]
 obtain ⟨v, hv⟩ : ∃ v, v = u + c * 65536 := ⟨_, rfl⟩
 rw [← hv, or64' 24 (x := d * 16777216) (by omega) (by omega) (by omega) (y := v) (by omega) (by omega) (by omega)]
 omega
theorem up_to (i : Nat) (h : i < 1000000000000) (c : Nat) (hc : c ≤ 10) : wrap64 ((i : Int) + (c : Int)) = ((i + c : Nat) : Int) := by rw [w64 (by omega) (by omega)]; omega
def recNums (t : ByteArray) : List Int := numsP (t.extract 4 t.size)
def bodyOK (t : ByteArray) (kind : Int) : Bool := decide ((t.extract 4 t.size).size % 4 = 0 ∧ intsOK (recNums t) = true ∧ sealP kind (recNums t) = t)
theorem bodyOK_iff {t : ByteArray} {kind : Int} : bodyOK t kind = true ↔ (t.extract 4 t.size).size % 4 = 0 ∧ intsOK (recNums t) = true ∧ sealP kind (recNums t) = t := by simp only [bodyOK, decide_eq_true_eq]
def recOK (t : ByteArray) (kind : Int) : Bool := decide (4 ≤ t.size) && (bt t 0 == kind && (inB kind 1 9 && bodyOK t kind))
theorem recOK_iff {t : ByteArray} {kind : Int} : recOK t kind = true ↔ 4 ≤ t.size ∧ bt t 0 = kind ∧ inB kind 1 9 = true ∧ (t.extract 4 t.size).size % 4 = 0 ∧ intsOK (recNums t) = true ∧ sealP kind (recNums t) = t := by
 simp only [recOK, Bool.and_eq_true, decide_eq_true_eq, beq_iff_eq, bodyOK_iff]
theorem recOK_no {t : ByteArray} {kind : Int} (h : ¬ (4 ≤ t.size ∧ bt t 0 = kind ∧ inB kind 1 9 = true ∧ (t.extract 4 t.size).size % 4 = 0 ∧ intsOK (recNums t) = true ∧ sealP kind (recNums t) = t)) : recOK t kind = false := by
  cases hr : recOK t kind with
  | false => rfl
  | true => exact absurd (recOK_iff.1 hr) h
theorem ext_size (t : ByteArray) : (t.extract 4 t.size).size = t.size - 4 := by simp
theorem bt0 (t : ByteArray) : wrap64 (bt t 0) = bt t 0 := by have := bt_nn t 0; have := bt_lt t 0; exact w64 (by omega) (by omega)
theorem packP_get? (l : List Int) : ∀ j c, c < 4 → (packP l)[4 * j + c]? = (l[j]?).bind (fun x => (quad x)[c]?) := by
  induction l with
  | nil => intro j c _; simp [packP]
  | cons x xs ih =>
    intro j c hc
    have e : packP (x :: xs) = quad x ++ packP xs := rfl
    have hq : (quad x).length = 4 := rfl
    rw [e]
    cases j with
    | zero => rw [List.getElem?_append_left (by rw [hq]; omega)]; simp
    | succ j =>
      rw [List.getElem?_append_right (by rw [hq]; omega), hq, show 4 * (j + 1) + c - 4 = 4 * j + c by omega, ih j c hc]
      simp
theorem quad_range (n : Int) : ∀ y ∈ quad n, 0 ≤ y ∧ y < 256 := by
 intro y hy
 simp only [quad, List.mem_cons, List.not_mem_nil, or_false] at hy
 rcases hy with rfl | rfl | rfl | rfl <;> omega
theorem packP_range (l : List Int) : ∀ y ∈ packP l, 0 ≤ y ∧ y < 256 := by
 intro y hy
 simp only [packP, List.mem_flatMap] at hy
 obtain ⟨x, _, hx⟩ := hy
 exact quad_range x y hx
theorem bt_str (l : List Int) (i : Nat) (y : Int) (h : l[i]? = some y) (h0 : 0 ≤ y) (h1 : y < 256) : bt (strOfNums l) (i : Int) = y := by
 obtain ⟨hi, rfl⟩ := List.getElem?_eq_some_iff.1 h
 have hs : ((i : Int)).toNat < (strOfNums l).size := by rw [strOfNums_size]; simpa using hi
 unfold bt
 rw [dif_pos hs]
 have : ((strOfNums l)[((i : Int)).toNat]'hs) = UInt8.ofNat (l[i]).toNat := by
  show (List.map _ l).toArray[((i : Int)).toNat] = _
  simp
 rw [this]
 simp only [UInt8.toNat_ofNat']
 omega
theorem numAt_pack (l : List Int) (j : Nat) (hj : j < l.length) (h0 : 0 ≤ l[j]) (h1 : l[j] < 4294967296) : numAt (strOfNums (packP l)) (4 * j) = l[j] := by
 have g : ∀ c, c < 4 → (packP l)[4 * j + c]? = (quad l[j])[c]? := by
  intro c hc; rw [packP_get? l j c hc, List.getElem?_eq_getElem hj]; rfl
 have b : ∀ c y, c < 4 → (quad l[j])[c]? = some y → bt (strOfNums (packP l)) ((4 * j + c : Nat) : Int) = y := by
  intro c y hc hy
  have hr := quad_range l[j] y (List.mem_of_getElem? hy)
  exact bt_str _ _ _ ((g c hc).trans hy) hr.1 hr.2
 unfold numAt
 have b0 := b 0 _ (by omega) (show (quad l[j])[0]? = some (l[j] % 256) from rfl); have b1 := b 1 _ (by omega) (show (quad l[j])[1]? = some (l[j] / 256 % 256) from rfl); have b2 := b 2 _ (by omega) (show (quad l[j])[2]? = some (l[j] / 65536 % 256) from rfl); have b3 := b 3 _ (by omega) (show (quad l[j])[3]? = some (l[j] / 16777216 % 256) from rfl)
 rw [Nat.add_zero] at b0
 rw [b0, b1, b2, b3]
 omega
theorem numsP_pack (l : List Int) (h : ∀ x ∈ l, 0 ≤ x ∧ x < 4294967296) : numsP (strOfNums (packP l)) = l := by
 have hs : (strOfNums (packP l)).size / 4 = l.length := by rw [strOfNums_size, packP_length]; omega
 refine List.ext_getElem (by rw [numsP_length, hs]) (fun i h1 h2 => ?_)
 simp only [numsP, List.getElem_map, List.getElem_range]
 exact numAt_pack l i h2 (h _ (List.getElem_mem h2)).1 (h _ (List.getElem_mem h2)).2
theorem recNums_seal (kind : Int) (l : List Int) (h : ∀ x ∈ l, 0 ≤ x ∧ x < 4294967296) : recNums (sealP kind l) = l := by
 have e : (sealP kind l).extract 4 (sealP kind l).size = strOfNums (packP l) := by
  unfold sealP
  rw [ByteArray.extract_append_eq_right]
  ·simp [headP_size, strOfNums_size]
  ·simp
 unfold recNums; rw [e]; exact numsP_pack l h
theorem bt_app (a b : ByteArray) (i : Nat) (h : i < a.size) : bt (a ++ b) (i : Int) = bt a (i : Int) := by
 have h1 : ((i : Int)).toNat < (a ++ b).size := by rw [ba_size_append]; omega
 have h2 : ((i : Int)).toNat < a.size := by omega
 unfold bt
 rw [dif_pos h1, dif_pos h2, ByteArray.getElem_append_left h2]
theorem bt_take (t : ByteArray) (n i : Nat) (h : i < n) (hn : n ≤ t.size) : bt (t.extract 0 n) (i : Int) = bt t (i : Int) := by
 have h1 : ((i : Int)).toNat < (t.extract 0 n).size := by rw [ByteArray.size_extract]; omega
 have h2 : ((i : Int)).toNat < t.size := by omega
 unfold bt
 rw [dif_pos h1, dif_pos h2, ByteArray.getElem_extract]
 simp only [Nat.zero_add]
theorem bt_head0 (kind : Int) (l : List Int) (h0 : 0 ≤ kind) (h1 : kind < 256) : bt (sealP kind l) 0 = kind := by
 have : bt (sealP kind l) ((0 : Nat) : Int) = bt (headP kind l) ((0 : Nat) : Int) := by
  unfold sealP; rw [bt_app _ _ 0 (by simp [headP_size, strOfNums_size]), bt_app _ _ 0 (by simp [headP_size])]
 rw [show (0 : Int) = ((0 : Nat) : Int) from rfl, this]
 unfold headP
 rw [bt_str _ 0 (kind % 256) rfl (by omega) (by omega)]; omega
theorem bt_head1 (kind : Int) (l : List Int) : bt (sealP kind l) 1 = (l.length : Int) % 256 := by
 have : bt (sealP kind l) ((1 : Nat) : Int) = bt (headP kind l) ((1 : Nat) : Int) := by
  unfold sealP; rw [bt_app _ _ 1 (by simp [headP_size, strOfNums_size]), bt_app _ _ 1 (by simp [headP_size])]
 rw [show (1 : Int) = ((1 : Nat) : Int) from rfl, this]
 unfold headP
 exact bt_str _ 1 _ rfl (by omega) (by omega)
theorem intsOK_of (l : List Int) (hl : l.length ≤ 16) (h : ∀ x ∈ l, 0 ≤ x ∧ x ≤ 2147483647) : intsOK l = true := by
 unfold intsOK
 rw [Bool.and_eq_true, List.all_eq_true]
 exact ⟨fun x hx => inB_iff.2 (h x hx), decide_eq_true (by omega)⟩
theorem recOK_seal (kind : Int) (l : List Int) (hk : inB kind 1 9 = true) (hl : l.length ≤ 16) (h : ∀ x ∈ l, 0 ≤ x ∧ x ≤ 2147483647) : recOK (sealP kind l) kind = true := by
 have hr := recNums_seal kind l (fun x hx => ⟨(h x hx).1, by have := (h x hx).2; omega⟩)
 have hk' := inB_iff.1 hk
 refine recOK_iff.2 ⟨by rw [sealP_size]; omega, bt_head0 kind l (by omega) (by omega), hk, ?_, by rw [hr]; exact intsOK_of l hl h, by rw [hr]⟩
 rw [ext_size, sealP_size]; omega
theorem recOK_cut (kind : Int) (l : List Int) (n : Nat) (hl : l.length ≤ 16) (hn : n < (sealP kind l).size) (kind' : Int) : recOK ((sealP kind l).extract 0 n) kind' = false := by
 refine recOK_no (fun hc => ?_)
 obtain ⟨h4, _, _, _, _, hs⟩ := hc
 have hz : ((sealP kind l).extract 0 n).size = n := by rw [ByteArray.size_extract]; omega
 rw [hz] at h4
 have h1 := bt_take (sealP kind l) n 1 (by omega) (by omega)
 have e1 : bt (sealP kind l) ((1 : Nat) : Int) = (l.length : Int) % 256 := bt_head1 kind l
 rw [e1] at h1
 have e2 := congrArg ByteArray.size hs
 rw [hz, sealP_size] at e2
 rw [sealP_size] at hn
 have e3 : bt (sealP kind' (recNums ((sealP kind l).extract 0 n))) ((1 : Nat) : Int) = _ := bt_head1 _ _
 rw [hs, h1] at e3
 omega
def srcOK (at_ seed : Int) (n : Nat) : Prop := 0 ≤ at_ ∧ at_ ≤ (n : Int) ∧ 0 ≤ seed ∧ seed < 2147483648
theorem rd_byte (l : List Int) (h : ∀ x ∈ l, 0 ≤ x ∧ x ≤ 255) (i : Int) : 0 ≤ rd l i ∧ rd l i ≤ 255 := by
 unfold rd
 by_cases hi : i.toNat < l.length
 ·have : l.getD i.toNat 0 = l[i.toNat] := by simp [hi]
  rw [this]; exact h _ (List.getElem_mem hi)
 ·have : l.getD i.toNat 0 = 0 := by simp [hi]
  rw [this]; omega
theorem byte_ok (l : List Int) (h : ∀ x ∈ l, 0 ≤ x ∧ x ≤ 255) (at_ seed : Int) (n : Nat) (hs : srcOK at_ seed n) (hn : n ≤ 1000000000000) :
  ∃ r a s, spec_l00Src_byte.f l at_ seed = some (r, a, s) ∧ 0 ≤ r ∧ r ≤ 255 ∧ srcOK a s (n + 1) := by
 obtain ⟨h0, h1, h2, h3⟩ := hs
 unfold spec_l00Src_byte.f
 have e1 : wrap64 (at_ + 1) = at_ + 1 := w64 (by omega) (by omega)
 have e2 : wrap64 (at_ + 1 - 1) = at_ := by rw [w64 (by omega) (by omega)]; omega
 rw [e1, e2]
 by_cases c1 : at_ + 1 ≤ (l.length : Int)
 ·rw [if_pos c1, if_pos h0, if_pos (by omega)]
  have hb := rd_byte l h at_
  generalize rd l at_ = v at hb ⊢
  have e3 : wrap64 v = v := w64 (by omega) (by omega)
  have e4 : wrap64 (seed * 31) = seed * 31 := w64 (by omega) (by omega)
  rw [e3, e4]
  have e5 : wrap64 (seed * 31 + v) = seed * 31 + v := w64 (by omega) (by omega)
  rw [e5]
  have e6 : wrap64 (seed * 31 + v + 7) = seed * 31 + v + 7 := w64 (by omega) (by omega)
  rw [e6]
  refine ⟨_, _, _, rfl, hb.1, hb.2, by omega, by omega, ?_, ?_⟩
  ·rw [Int.tmod_eq_emod_of_nonneg (by omega)]; omega
  ·rw [Int.tmod_eq_emod_of_nonneg (by omega)]; omega
 ·rw [if_neg c1]
  by_cases c2 : at_ + 1 > 3000
  ·rw [if_pos c2]; exact ⟨_, _, _, rfl, by omega, by omega, by omega, by omega, h2, h3⟩
  ·rw [if_neg c2]
   have e4 : wrap64 (seed * 1103515245) = seed * 1103515245 := w64 (by omega) (by omega)
   rw [e4]
   have e6 : wrap64 (seed * 1103515245 + 12345) = seed * 1103515245 + 12345 := w64 (by omega) (by omega)
   rw [e6, Int.tmod_eq_emod_of_nonneg (by omega : 0 ≤ seed * 1103515245 + 12345)]
   have hq0 : 0 ≤ (seed * 1103515245 + 12345) % 2147483648 := by omega
   have hq1 : (seed * 1103515245 + 12345) % 2147483648 < 2147483648 := by omega
   generalize (seed * 1103515245 + 12345) % 2147483648 = q at hq0 hq1 ⊢
   rw [Int.tdiv_eq_ediv_of_nonneg hq0]
   have e7 : wrap64 (q / 65536) = q / 65536 := w64 (by omega) (by omega)
   rw [e7, Int.tmod_eq_emod_of_nonneg (by omega)]
   exact ⟨_, _, _, rfl, by omega, by omega, by omega, by omega, hq0, hq1⟩
theorem srcOK_mono {a s : Int} {n m : Nat} (h : srcOK a s n) (hm : n ≤ m) : srcOK a s m := ⟨h.1, by have := h.2.1; omega, h.2.2.1, h.2.2.2⟩
theorem tmod_range {x n : Int} (h0 : 0 ≤ x) (hn : 0 < n) : 0 ≤ Int.tmod x n ∧ Int.tmod x n < n := by
 rw [Int.tmod_eq_emod_of_nonneg h0]; exact ⟨Int.emod_nonneg _ (by omega), Int.emod_lt_of_pos _ hn⟩
theorem next_ok (l : List Int) (h : ∀ x ∈ l, 0 ≤ x ∧ x ≤ 255) (at_ seed : Int) (n : Nat) (hs : srcOK at_ seed n) (hn : n ≤ 100000000000) (m : Int) :
  ∃ r a s, spec_l00Src_next.f l at_ seed m = some (r, a, s) ∧ 0 ≤ r ∧ (m ≤ 1 → r = 0) ∧ (1 ≤ m → r < m) ∧ srcOK a s (n + 3) := by
 unfold spec_l00Src_next.f
 by_cases c1 : m ≤ 1
 ·rw [if_pos c1]; exact ⟨_, _, _, rfl, by omega, fun _ => rfl, fun _ => by omega, srcOK_mono hs (by omega)⟩
 ·rw [if_neg c1]
  obtain ⟨r, a, s, e, r0, r1, ho⟩ := byte_ok l h at_ seed n hs (by omega)
  by_cases c2 : m ≤ 256
  ·rw [if_pos c2, e, Option.bind_some, if_neg (by omega)]
   have := tmod_range r0 (show 0 < m by omega)
   exact ⟨_, _, _, rfl, this.1, fun h => absurd h c1, fun _ => this.2, srcOK_mono ho (by omega)⟩
  ·rw [if_neg c2, e, Option.bind_some]
   obtain ⟨r', a', s', e', r0', r1', ho'⟩ := byte_ok l h a s (n + 1) ho (by omega)
   rw [e', Option.bind_some]
   obtain ⟨r'', a'', s'', e'', r0'', r1'', ho''⟩ := byte_ok l h a' s' (n + 2) ho' (by omega)
   rw [e'', Option.bind_some, if_neg (by omega)]
   dsimp only
   have x1 : wrap64 (r * 65536) = r * 65536 := w64 (by omega) (by omega)
   have x2 : wrap64 (r' * 256) = r' * 256 := w64 (by omega) (by omega)
   rw [x1, x2]
   have x3 : wrap64 (r * 65536 + r' * 256) = r * 65536 + r' * 256 := w64 (by omega) (by omega)
   rw [x3]
   have x4 : wrap64 (r * 65536 + r' * 256 + r'') = r * 65536 + r' * 256 + r'' := w64 (by omega) (by omega)
   rw [x4]
   have := tmod_range (show 0 ≤ r * 65536 + r' * 256 + r'' by omega) (show 0 < m by omega)
   exact ⟨_, _, _, rfl, this.1, fun h => absurd h c1, fun _ => this.2, ho''⟩
theorem source_ok (l : List Int) : srcOK 0 ((l.length : Int) % 1000) 0 := ⟨by omega, by omega, by omega, by omega⟩
theorem bytes_of {l : List Int} (h : ∀ x ∈ l, (Lit.int .u8 x).wf = true) : ∀ x ∈ l, 0 ≤ x ∧ x ≤ 255 := by
 intro x hx
 have := h x hx
 simp [Lit.wf, IntKind.min, IntKind.max, IntKind.signed, IntKind.bits] at this
 omega
theorem some_fill (l : List Int) (h : ∀ x ∈ l, 0 ≤ x ∧ x ≤ 255) (m : Nat) (hm : m ≤ 1000000) : ∀ (d i : Nat) (out : List Int) (at_ seed : Int) (n : Nat), i + d = m → out.length = i → n + 3 * d ≤ 10000000000 → srcOK at_ seed n →
    ∃ t a s, Ev (fun k => spec_l00Src_some.l0 k (m : Int) out (i : Int) l at_ seed) (t, a, s) ∧ t.size = m ∧ srcOK a s (n + 3 * d) := by
  intro d
  induction d with
  | zero =>
    intro i out at_ seed n hi ho hn hs
    refine ⟨strOfNums out, at_, seed, Ev.step (f := fun _ => some (strOfNums out, at_, seed)) (fun k => ?_) (ev_some _), by rw [strOfNums_size]; omega, hs⟩
    simp only [spec_l00Src_some.l0]; rw [if_neg (by omega)]
  | succ d ih =>
    intro i out at_ seed n hi ho hn hs
    obtain ⟨r, a, s, e, r0, -, r1, o⟩ := next_ok l h at_ seed n hs (by omega) 26
    obtain ⟨t, a', s', e', ht, ho'⟩ := ih (i + 1) (out ++ [(wrap64 (97 + r)) % 256]) a s (n + 3) (by omega) (by simp; omega) (by omega) o
    refine ⟨t, a', s', Ev.step (f := fun k => spec_l00Src_some.l0 k (m : Int) (out ++ [(wrap64 (97 + r)) % 256]) ((i + 1 : Nat) : Int) l a s) (fun k => ?_) e', ht, srcOK_mono ho' (by omega)⟩
    simp only [spec_l00Src_some.l0]
    rw [if_pos (by omega), e, Option.bind_some, if_pos (by omega), wnext i (by omega)]
theorem some_ev (l : List Int) (h : ∀ x ∈ l, 0 ≤ x ∧ x ≤ 255) (m : Nat) (hm : m ≤ 1000000) (at_ seed : Int) (n : Nat) (hs : srcOK at_ seed n) (hn : n + 3 * m ≤ 10000000000) :
  ∃ t a s, Ev (fun k => spec_l00Src_some.f k l at_ seed (m : Int)) (t, a, s) ∧ t.size = m ∧ srcOK a s (n + 3 * m) :=
 some_fill l h m hm m 0 [] at_ seed n (by omega) rfl hn hs
def updateOK (a : Int) (d : ByteArray) : Bool := inB a 9 38 && decide ((d.size : Int) ≤ 72)
theorem impl_updateOK_eq (a : Int) (d : ByteArray) : impl_updateOK.f a d = some (updateOK a d) := by
 simp only [impl_updateOK.f, within_eq, Option.bind_some]
 exact and_opt rfl
theorem updateOK_size {a : Int} {d : ByteArray} (h : updateOK a d = true) : d.size ≤ 72 := by
 simp [updateOK] at h; omega
theorem impl_Update_text_ev (a : Int) (d : ByteArray) (h : d.size ≤ 1000000) : Ev (fun k => impl_Update_text.f k a d) (sealP 8 [a] ++ d) := by
 unfold impl_Update_text.f
 refine ev_bind (impl_seal_ev 8 _ (by simp)) ?_
 exact ev_pos (by rw [sealP_size]; simp; omega) (ev_some _)
def updDrawn (x : S45) : Prop := 9 ≤ x.f0 ∧ x.f0 ≤ 28 ∧ x.f1.size ≤ 8
theorem update_drawn (l : List Int) (h : ∀ x ∈ l, 0 ≤ x ∧ x ≤ 255) (at_ seed : Int) (n : Nat) (hs : srcOK at_ seed n) (hn : n ≤ 1000000000) :
  ∃ p t a s, Ev (fun k => spec_l00Src_update.f k l at_ seed) (p, t, a, s) ∧ (9 ≤ p ∧ p ≤ 28 ∧ t.size ≤ 8) ∧ srcOK a s (n + 30) := by
 obtain ⟨p, a1, s1, e1, p0, -, p1, o1⟩ := next_ok l h at_ seed n hs (by omega) 20
 obtain ⟨m, a2, s2, e2, m0, -, m1, o2⟩ := next_ok l h a1 s1 _ o1 (by omega) 9
 have m1' := m1 (by omega)
 have p1' := p1 (by omega)
 obtain ⟨j, rfl⟩ : ∃ j : Nat, m = (j : Int) := ⟨m.toNat, by omega⟩
 obtain ⟨t, a3, s3, e3, ht, o3⟩ := some_ev l h j (by omega) a2 s2 _ o2 (by omega)
 refine ⟨9 + p, t, a3, s3, ?_, ⟨by omega, by omega, by omega⟩, srcOK_mono o3 (by omega)⟩
 unfold spec_l00Src_update.f
 simp only [e1, Option.bind_some, e2]
 refine ev_bind e3 ?_
 have hw : wrap64 (9 + p) = 9 + p := w64 (by omega) (by omega)
 simp only [hw]
 exact ev_some _
theorem updates_fill (l : List Int) (h : ∀ x ∈ l, 0 ≤ x ∧ x ≤ 255) : ∀ (d : Nat) (out : List S45) (at_ seed : Int) (n : Nat), out.length + d ≤ 100 → n + 30 * d ≤ 1000000000 → (∀ x ∈ out, updDrawn x) → srcOK at_ seed n →
    ∃ r a s, Ev (fun k => spec_l00Src_updates.l0 k out (d : Int) l at_ seed) (r, a, s) ∧ r.length ≤ out.length + d ∧ ∀ x ∈ r, updDrawn x := by
  intro d
  induction d with
  | zero =>
    intro out at_ seed n ho hn hx hs
    refine ⟨out, at_, seed, Ev.step (f := fun _ => some (out, at_, seed)) (fun k => ?_) (ev_some _), by omega, hx⟩
    simp only [spec_l00Src_updates.l0]; rw [if_neg (by omega)]
  | succ d ih =>
    intro out at_ seed n ho hn hx hs
    obtain ⟨p, t, a, s, e, hp, o⟩ := update_drawn l h at_ seed n hs (by omega)
    obtain ⟨r, a', s', e', h1, h2⟩ := ih (out ++ [(⟨p, t⟩ : S45)]) a s (n + 30) (by simp; omega) (by omega) (by
      intro x hm
      rcases List.mem_append.1 hm with hm | hm
      · exact hx x hm
      · rw [List.mem_singleton.1 hm]; exact hp) o
    refine ⟨r, a', s', Ev.succ ?_, by simp at h1; omega, h2⟩
    simp only [spec_l00Src_updates.l0]
    refine ev_pos (by omega) (ev_bind e (ev_pos (by omega) ?_))
    rw [w64 (n := ((d + 1 : Nat) : Int) - 1) (by omega) (by omega), show ((d + 1 : Nat) : Int) - 1 = (d : Int) by omega]
    exact e'
theorem updates_drawn (l : List Int) (h : ∀ x ∈ l, 0 ≤ x ∧ x ≤ 255) : ∃ r, Ev (fun k => spec_UpdatesOf.f k l) r ∧ r.length ≤ 4 ∧ ∀ x ∈ r, updDrawn x := by
 unfold spec_UpdatesOf.f spec_l00Source.f spec_l00Src_updates.f
 simp only [Option.bind_some]
 obtain ⟨m, a1, s1, e1, m0, -, m1, o1⟩ := next_ok l h _ _ _ (source_ok l) (by omega) 5
 have m1' := m1 (by omega)
 rw [e1]; simp only [Option.bind_some]
 obtain ⟨j, rfl⟩ : ∃ j : Nat, m = (j : Int) := ⟨m.toNat, by omega⟩
 obtain ⟨r, a, s, e, h1, h2⟩ := updates_fill l h j [] a1 s1 _ (by simp; omega) (by omega) (by simp) o1
 exact ⟨r, ev_bind e (ev_some _), by simp at h1; omega, h2⟩
theorem updDrawn_ok {x : S45} (h : updDrawn x) : updateOK x.f0 x.f1 = true := by
 unfold updDrawn at h
 unfold updateOK
 rw [inB_iff.2 ⟨h.1, by omega⟩, decide_eq_true (by omega)]; rfl
def encU (u : S45) : ByteArray := sealP 8 [u.f0] ++ u.f1
def flM : S52 := ⟨2, 0, (⟨#[]⟩ : ByteArray)⟩
def hdM (h n : Int) : S52 := ⟨1, 39 + 6 * h, sealP 7 [n, 5]⟩
def w1M (h : Int) (L : List S45) : List S52 := (List.range L.length).map (fun i : Nat => ⟨1, 39 + 6 * h + 1 + (i : Int), encU (L.getD i ⟨0, ByteArray.empty⟩)⟩)
def w2M (L : List S45) : List S52 := L.map (fun u => ⟨1, u.f0, u.f1⟩)
def appM (h : Int) (L : List S45) : List S52 := w2M L ++ [flM, hdM h 0, flM]
def planM (h : Int) (L : List S45) : List S52 := w1M h L ++ [flM, hdM h (L.length : Int), flM] ++ appM h L
theorem wr_w1 (h : Int) (L : List S45) : wrM (w1M h L) = w1M h L := by
 unfold wrM w1M
 rw [List.filter_eq_self]
 intro m hm
 obtain ⟨i, _, rfl⟩ := List.mem_map.1 hm
 rfl
theorem wr_w2 (L : List S45) : wrM (w2M L) = w2M L := by
 unfold wrM w2M
 rw [List.filter_eq_self]
 intro m hm
 obtain ⟨i, _, rfl⟩ := List.mem_map.1 hm
 rfl
theorem wr_app (h : Int) (L : List S45) : wrM (appM h L) = w2M L ++ [hdM h 0] := by
 unfold appM
 rw [wrM_app, wr_w2]
 rfl
theorem wr_plan (h : Int) (L : List S45) : wrM (planM h L) = w1M h L ++ (hdM h (L.length : Int) :: (w2M L ++ [hdM h 0])) := by
 unfold planM
 rw [wrM_app, wrM_app, wr_w1, wr_app]
 show w1M h L ++ [hdM h (L.length : Int)] ++ _ = _
 simp
/-- Whose place a slot is. -/
def slN (h : Int) : Nat := (39 + 6 * h).toNat
/-- A journal waits: its head tells how many, and the updates stand behind it. -/
def waitsB (h : Int) (L : List S45) (S : List ByteArray) : Prop := S[slN h]? = some (sealP 7 [(L.length : Int), 5]) ∧ ∀ i (hi : i < L.length), S[slN h + 1 + i]? = some (encU L[i])
theorem w1_pos (h : Int) (h0 : 0 ≤ h) (L : List S45) : ∀ m ∈ w1M h L, slN h < m.f1.toNat := by
 intro m hm
 obtain ⟨i, _, rfl⟩ := List.mem_map.1 hm
 show slN h < (39 + 6 * h + 1 + (i : Int)).toNat
 unfold slN; omega
theorem w2_pos (h : Int) (h0 : 0 ≤ h) (L : List S45) (hL : ∀ u ∈ L, updDrawn u) : ∀ m ∈ w2M L, m.f1.toNat < slN h := by
 intro m hm
 obtain ⟨u, hu, rfl⟩ := List.mem_map.1 hm
 show u.f0.toNat < slN h
 have := hL u hu
 unfold slN; unfold updDrawn at this; omega
theorem lastW_w1 (h : Int) (h0 : 0 ≤ h) (L : List S45) (i : Nat) (hi : i < L.length) : lastW (slN h + 1 + i) (w1M h L) = some (encU L[i]) := by
 have hs : w1M h L = w1M h (L.take (i + 1)) ++ ((List.range' (i + 1) (L.length - (i + 1))).map (fun i : Nat => (⟨1, 39 + 6 * h + 1 + (i : Int), encU (L.getD i ⟨0, ByteArray.empty⟩)⟩ : S52))) := by
  have e : List.range L.length = List.range (i + 1) ++ List.range' (i + 1) (L.length - (i + 1)) := by
   rw [List.range_eq_range', List.range_eq_range']
   have := List.range'_append_1 (s := 0) (m := i + 1) (n := L.length - (i + 1))
   rw [Nat.zero_add] at this
   rw [this]
   congr 1; omega
  unfold w1M
  rw [e, List.map_append]
  congr 1
  rw [List.length_take, Nat.min_eq_left (by omega)]
  apply List.map_congr_left
  intro j hj
  have hj := List.mem_range.1 hj
  rw [show (L.take (i + 1)).getD j ⟨0, ByteArray.empty⟩ = L.getD j ⟨0, ByteArray.empty⟩ by simp [List.getD_eq_getElem?_getD, List.getElem?_take, hj]]
 rw [hs, lastW_app, lastW_none]
 ·have e2 : w1M h (L.take (i + 1)) = w1M h (L.take i) ++ [(⟨1, 39 + 6 * h + 1 + (i : Int), encU L[i]⟩ : S52)] := by
   unfold w1M
   rw [List.length_take, List.length_take, Nat.min_eq_left (by omega), Nat.min_eq_left (by omega), List.range_succ, List.map_append]
   congr 1
   ·apply List.map_congr_left
    intro j hj
    have hj := List.mem_range.1 hj
    rw [show (L.take (i + 1)).getD j ⟨0, ByteArray.empty⟩ = (L.take i).getD j ⟨0, ByteArray.empty⟩ by simp [List.getD_eq_getElem?_getD, List.getElem?_take, hj, show j < i + 1 by omega]]
   ·simp [List.getD_eq_getElem?_getD, List.getElem?_take, hi]
  show lastW _ (w1M h (L.take (i + 1))) = _
  rw [e2, lastW_app]
  simp only [lastW]
  rw [if_pos (by unfold slN; omega)]
 ·intro m hm
  obtain ⟨j, hj, rfl⟩ := List.mem_map.1 hm
  have hj := List.mem_range'_1.1 hj
  show (39 + 6 * h + 1 + (j : Int)).toNat ≠ _
  unfold slN; omega
theorem lastW_w1_slot (h : Int) (h0 : 0 ≤ h) (L : List S45) (A : List S52) (hA : ∀ m ∈ A, m ∈ w1M h L) : lastW (slN h) A = none :=
 lastW_none _ _ (fun m hm => by have := w1_pos h h0 L m (hA m hm); omega)
theorem lastW_w2_slot (h : Int) (h0 : 0 ≤ h) (L : List S45) (hL : ∀ u ∈ L, updDrawn u) (A : List S52) (hA : ∀ m ∈ A, m ∈ w2M L) (p : Nat) (hp : slN h ≤ p) : lastW p A = none :=
 lastW_none _ _ (fun m hm => by have := w2_pos h h0 L hL m (hA m hm); omega)
theorem blank_get (p : Nat) (hp : p < 64) : (List.replicate 64 (⟨#[]⟩ : ByteArray)).getD p ByteArray.empty = (⟨#[]⟩ : ByteArray) := by
 rw [List.getD_eq_getElem?_getD, List.getElem?_replicate, if_pos hp]; rfl
theorem w1_len (h : Int) (L : List S45) : (w1M h L).length = L.length := by simp [w1M]
theorem w2_len (L : List S45) : (w2M L).length = L.length := by simp [w2M]
/-- What a crash in the midst of a journal leaves. -/
theorem crashed (h : Int) (h0 : 0 ≤ h) (h1 : h ≤ 3) (L : List S45) (hn : L.length ≤ 4) (hL : ∀ u ∈ L, updDrawn u) (j : Nat) : 
  (putM (List.replicate 64 (⟨#[]⟩ : ByteArray)) ((wrM (planM h L)).take j))[slN h]? = some (⟨#[]⟩ : ByteArray) ∨
  waitsB h L (putM (List.replicate 64 (⟨#[]⟩ : ByteArray)) ((wrM (planM h L)).take j)) ∨
  (putM (List.replicate 64 (⟨#[]⟩ : ByteArray)) ((wrM (planM h L)).take j))[slN h]? = some (sealP 7 [0, 5]) := by
 have hsl : slN h + 5 < 64 := by unfold slN; omega
 rw [wr_plan]
 by_cases c1 : j ≤ L.length
 ·refine .inl ?_
  rw [List.take_append_of_le_length (by rw [w1_len]; exact c1), putM_get _ _ _ (by simp; omega), lastW_w1_slot h h0 L _ (fun m hm => List.mem_of_mem_take hm)]
  exact congrArg some (blank_get _ (by omega))
 ·obtain ⟨i, rfl⟩ : ∃ i, j = L.length + (i + 1) := ⟨j - L.length - 1, by omega⟩
  have e : (w1M h L ++ (hdM h (L.length : Int) :: (w2M L ++ [hdM h 0]))).take (L.length + (i + 1)) = w1M h L ++ hdM h (L.length : Int) :: (w2M L ++ [hdM h 0]).take i := by
   have := List.take_length_add_append (l₁ := w1M h L) (l₂ := hdM h (L.length : Int) :: (w2M L ++ [hdM h 0])) (i := i + 1)
   rw [w1_len] at this
   rw [this]; rfl
  rw [e]
  by_cases c2 : i ≤ L.length
  ·refine .inr (.inl ⟨?_, fun q hq => ?_⟩)
   ·rw [List.take_append_of_le_length (by rw [w2_len]; exact c2), putM_get _ _ _ (by simp; omega), lastW_app]
    simp only [lastW]
    rw [lastW_w2_slot h h0 L hL _ (fun m hm => List.mem_of_mem_take hm) _ (Nat.le_refl _), if_pos (show (hdM h (L.length : Int)).f1.toNat = slN h from rfl)]
    rfl
   ·rw [List.take_append_of_le_length (by rw [w2_len]; exact c2), putM_get _ _ _ (by simp; omega), lastW_app]
    simp only [lastW]
    rw [lastW_w2_slot h h0 L hL _ (fun m hm => List.mem_of_mem_take hm) _ (by omega), if_neg (show ¬ (hdM h (L.length : Int)).f1.toNat = slN h + 1 + q by show ¬ slN h = _; omega)]
    rw [lastW_w1 h h0 L q hq]
  ·refine .inr (.inr ?_)
   rw [List.take_of_length_le (by simp [w2_len]; omega), putM_get _ _ _ (by simp; omega), lastW_app]
   have e2 : lastW (slN h) (hdM h (L.length : Int) :: (w2M L ++ [hdM h 0])) = some (sealP 7 [0, 5]) := by
    rw [show hdM h (L.length : Int) :: (w2M L ++ [hdM h 0]) = (hdM h (L.length : Int) :: w2M L) ++ [hdM h 0] from rfl, lastW_app]
    simp only [lastW]
    rw [if_pos (show (hdM h 0).f1.toNat = slN h from rfl)]; rfl
   rw [e2]
/-- A replay that is cut short leaves what waits, or is through. -/
theorem replayed (h : Int) (h0 : 0 ≤ h) (h1 : h ≤ 3) (L : List S45) (hn : L.length ≤ 4) (hL : ∀ u ∈ L, updDrawn u) (S : List ByteArray) (hS : S.length = 64) (hw : waitsB h L S) (j : Nat) :
  (waitsB h L (putM S ((w2M L ++ [hdM h 0]).take j)) ∧ ∃ i, (w2M L ++ [hdM h 0]).take j = (w2M L).take i) ∨
  ((w2M L ++ [hdM h 0]).take j = w2M L ++ [hdM h 0] ∧ (putM S (w2M L ++ [hdM h 0]))[slN h]? = some (sealP 7 [0, 5])) := by
 have hsl : slN h + 5 < 64 := by unfold slN; omega
 by_cases c : j ≤ L.length
 ·refine .inl ⟨?_, j, List.take_append_of_le_length (by rw [w2_len]; exact c)⟩
  rw [List.take_append_of_le_length (by rw [w2_len]; exact c)]
  have keep : ∀ p, slN h ≤ p → p < 64 → (putM S ((w2M L).take j))[p]? = S[p]? := by
   intro p hp hp2
   rw [putM_get _ _ _ (by omega), lastW_w2_slot h h0 L hL _ (fun m hm => List.mem_of_mem_take hm) _ hp]
   simp [List.getD_eq_getElem?_getD, show p < S.length by omega]
  exact ⟨by rw [keep _ (Nat.le_refl _) (by omega)]; exact hw.1, fun i hi => by rw [keep _ (by omega) (by omega)]; exact hw.2 i hi⟩
 ·refine .inr ⟨List.take_of_length_le (by simp [w2_len]; omega), ?_⟩
  rw [putM_get _ _ _ (by omega), lastW_app]
  simp only [lastW]
  rw [if_pos (show (hdM h 0).f1.toNat = slN h from rfl)]; rfl
def readP (d : List ByteArray) (l : List S75) (a b : Int) : ByteArray := match l.reverse.find? (fun x => x.f0 == a && x.f1 == b) with | some x => x.f2 | none => rdOf ByteArray.empty d b
theorem impl_read_eq (d : List ByteArray) (l : List S75) (a b : Int) (hl : l.length ≤ 1000000000) (h0 : 0 ≤ b) (h1 : b < (d.length : Int)) : impl_Disk_read.f d l a b = some (readP d l a b) := by
  unfold impl_Disk_read.f readP
  rw [if_pos hl]
  cases l.reverse.find? (fun x => x.f0 == a && x.f1 == b) with
  | some x => rfl
  | none => simp only [if_pos h0, if_pos h1]
theorem readP_size {d : List ByteArray} {l : List S75} (h : diskOK d l = true) (a b : Int) (h0 : 0 ≤ b) (h1 : b < 64) : (readP d l a b).size ≤ 80 := by
  unfold diskOK at h
  simp only [Bool.and_eq_true, decide_eq_true_eq, List.all_eq_true] at h
  obtain ⟨e1, e2, e3, e4⟩ := h
  unfold readP
  cases hf : l.reverse.find? (fun x => x.f0 == a && x.f1 == b) with
  | some x =>
    have := e4 x (by simpa using List.mem_of_find?_eq_some hf)
    unfold ioOK at this
    simp only [Bool.and_eq_true, decide_eq_true_eq] at this
    show x.f2.size ≤ 80
    omega
  | none =>
    have hb : b.toNat < d.length := by omega
    have e : rdOf ByteArray.empty d b = d[b.toNat] := by simp [rdOf, hb]
    have := e3 _ (List.getElem_mem hb)
    unfold secOK at this
    show (rdOf ByteArray.empty d b).size ≤ 80
    rw [e]
    have := of_decide_eq_true this
    omega
theorem disk_len {d : List ByteArray} {l : List S75} (h : diskOK d l = true) : d.length = 64 ∧ l.length ≤ 200 := by
 unfold diskOK at h
 simp only [Bool.and_eq_true, decide_eq_true_eq] at h
 omega
theorem isNumber_eq (n : Int) : impl_isNumber.f n = some (inB n 0 2147483647) := by simp only [impl_isNumber.f, within_eq, Option.bind_some]
theorem all_number (l : List Int) : all71_impl_isNumber.f l () = some (l.all (fun n => inB n 0 2147483647)) := by
 unfold all71_impl_isNumber.f; exact allO_some _ _ (fun x _ => isNumber_eq x)
theorem impl_areInts_eq (l : List Int) : impl_areInts.f l = some (intsOK l) := by
 unfold impl_areInts.f intsOK
 by_cases h : (l.length : Int) ≤ 16
 ·rw [if_pos h, all_number]; simp [h]
 ·rw [if_neg h]; simp [h]
theorem intsOK_take (l : List Int) : intsOK (l.take 17) = intsOK l := by
 by_cases h : l.length ≤ 16
 ·rw [List.take_of_length_le (by omega)]
 ·have h1 : intsOK l = false := by simp [intsOK]; intro _; omega
  have h2 : intsOK (l.take 17) = false := by simp [intsOK]; intro _; omega
  rw [h1, h2]
theorem impl_unpack_end (t : ByteArray) (l : List Int) : (if ((t.size : Int) % 4) = 0 then ((impl_areInts.f l).bind fun t529 => (some (l, t529))) else (some (l, false))) = some (l, decide (t.size % 4 = 0) && intsOK l) := by
 by_cases h : t.size % 4 = 0
 ·rw [if_pos (by omega), impl_areInts_eq]; simp [h]
 ·rw [if_neg (by omega)]; simp [h]
theorem impl_unpack_from (t : ByteArray) (ht : t.size ≤ 1000000000) (d : Nat) : ∀ (k j : Nat), j ≤ 17 → j ≤ t.size / 4 → 17 - j = d → d < k →
    impl_unpack.l0 k t ((numsP t).take j) ((4 * j : Nat) : Int) = some ((numsP t).take 17, decide (t.size % 4 = 0) && intsOK ((numsP t).take 17)) := by
  induction d with
  | zero =>
    intro k j hj hj2 hd hk
    obtain ⟨k, rfl⟩ : ∃ m, k = m + 1 := ⟨k - 1, by omega⟩
    obtain rfl : j = 17 := by omega
    simp only [impl_unpack.l0]
    by_cases h : wrap64 (((4 * 17 : Nat) : Int) + 4) ≤ (t.size : Int)
    · rw [if_pos h, if_neg (by omega)]; exact impl_unpack_end t _
    · rw [if_neg h]; exact impl_unpack_end t _
  | succ d ih =>
    intro k j hj hj2 hd hk
    obtain ⟨k, rfl⟩ : ∃ m, k = m + 1 := ⟨k - 1, by omega⟩
    have hi : 4 * j < 1000000000000 := by omega
    have hlen : ((numsP t).take j).length ≤ t.size / 4 := by rw [List.length_take, numsP_length]; omega
    have e4 : wrap64 (((4 * j : Nat) : Int) + 4) = ((4 * j + 4 : Nat) : Int) := up_to _ hi 4 (by omega)
    have e3 : wrap64 (((4 * j : Nat) : Int) + 3) = ((4 * j + 3 : Nat) : Int) := up_to _ hi 3 (by omega)
    have e2 : wrap64 (((4 * j : Nat) : Int) + 2) = ((4 * j + 2 : Nat) : Int) := up_to _ hi 2 (by omega)
    have e1 : wrap64 (((4 * j : Nat) : Int) + 1) = ((4 * j + 1 : Nat) : Int) := up_to _ hi 1 (by omega)
    simp only [impl_unpack.l0]
    rw [e4, e3, e2, e1]
    by_cases h : 4 * j + 4 ≤ t.size
    · rw [if_pos (by omega), if_pos (by omega), if_pos (by omega), if_pos (by omega), if_pos (by omega), if_pos (by omega), if_pos (by omega), if_pos (by omega), if_pos (by omega), if_pos (by omega), if_pos (by omega)]
      rw [four_down (bt_nn _ _) (bt_lt _ _) (bt_nn _ _) (bt_lt _ _) (bt_nn _ _) (bt_lt _ _) (bt_nn _ _) (bt_lt _ _)]
      have := ih k (j + 1) (by omega) (by omega) (by omega) (by omega)
      rw [numsP_take t j (by omega)] at this
      exact this
    · rw [if_neg (by omega)]
      have e : (numsP t).take j = (numsP t).take 17 := by
        rw [List.take_of_length_le (by rw [numsP_length]; omega), List.take_of_length_le (by rw [numsP_length]; omega)]
      rw [e]; exact impl_unpack_end t _
theorem impl_unpack_ev (t : ByteArray) (ht : t.size ≤ 1000000000) : Ev (fun k => impl_unpack.f k t) ((numsP t).take 17, decide (t.size % 4 = 0) && intsOK (numsP t)) :=
 ⟨18, fun k hk => by have := impl_unpack_from t ht 17 k 0 (by omega) (by omega) (by omega) (by omega); rw [intsOK_take] at this; simpa [impl_unpack.f] using this⟩
def openL (t : ByteArray) : List Int := if t.size < 4 ∨ t.size > 80 ∨ inB (bt t 0) 1 9 = false then [] else (recNums t).take 17
theorem recOK_openL {t : ByteArray} {kind : Int} (h : recOK t kind = true) : openL t = recNums t := by
 obtain ⟨h1, h2, h3, h4, h5, h6⟩ := recOK_iff.1 h
 have hl : (recNums t).length ≤ 16 := by
  simp only [intsOK, Bool.and_eq_true, decide_eq_true_eq] at h5
  omega
 have hs : t.size ≤ 80 := by
  unfold recNums at hl; rw [numsP_length] at hl; rw [ext_size] at hl h4; omega
 unfold openL
 rw [if_neg (by rw [h2]; simp [h3]; omega), List.take_of_length_le (by omega)]
theorem recOK_long {t : ByteArray} {kind : Int} (h : t.size > 80) : recOK t kind = false := by
 refine recOK_no (fun hr => ?_)
 obtain ⟨h1, h2, h3, h4, h5, h6⟩ := hr
 simp only [intsOK, Bool.and_eq_true, decide_eq_true_eq] at h5
 have := h5.2
 unfold recNums at this
 rw [numsP_length] at this; rw [ext_size] at this h4; omega
theorem impl_open_ev (t : ByteArray) (kind : Int) (ht : t.size ≤ 1000000000) : Ev (fun k => impl_open.f k t kind) (openL t, recOK t kind) := by
  unfold impl_open.f impl_opened.f
  have hbad : ∀ (g : Nat → Option (Int × List Int × Bool)), openL t = [] → recOK t kind = false → Ev g (0, [], false) → Ev (fun k => (g k).bind fun bt537 => (if bt537.2.2 = true then (some (bt537.2.1, (bt537.1 == kind))) else (some (bt537.2.1, false)))) (openL t, recOK t kind) := by
    intro g h1 h2 hg
    rw [h1, h2]
    exact ev_bind hg (ev_neg (by simp) (ev_some _))
  by_cases h1 : t.size < 4
  · refine hbad _ (by simp [openL, h1]) (recOK_no (by omega)) (ev_pos (by omega) (Ev.step (f := fun _ => some (0, [], false)) (fun k => by simp [impl_opened.j0]) (ev_some _)))
  · by_cases h2 : t.size > 80
    · refine hbad _ (by simp [openL, h2]) (recOK_long h2) (ev_neg (by omega) (ev_pos (by omega) (Ev.step (f := fun _ => some (0, [], false)) (fun k => by simp [impl_opened.j0]) (ev_some _))))
    · by_cases h3 : inB (bt t 0) 1 9 = true
      · have hL : openL t = (recNums t).take 17 := by unfold openL; rw [if_neg (by simp [h3]; omega)]
        have hO : Ev (fun k => if (t.size : Int) < 4 then impl_opened.j0 k t true else (if (t.size : Int) > 80 then impl_opened.j0 k t true else (if 0 < (t.size : Int) then ((impl_isKind.f (wrap64 (bt t 0))).bind fun t531 => (impl_opened.j0 k t (!t531))) else none))) (bt t 0, openL t, bodyOK t (bt t 0)) := by
          refine ev_neg (by omega) (ev_neg (by omega) (ev_pos (by omega) ?_))
          rw [bt0]
          simp only [impl_isKind.f, within_eq, Option.bind_some, h3, Bool.not_true]
          refine Ev.step (f := fun k => (impl_unpack.f k (t.extract 4 t.size)).bind fun bt532 => (if bt532.2 = true then ((impl_seal.f k (bt t 0) bt532.1).bind fun t536 => (some (bt t 0, bt532.1, (t536.toList == t.toList)))) else (some (bt t 0, bt532.1, false)))) (fun k => ?_) ?_
          · simp only [impl_opened.j0, Bool.false_eq_true, if_false, bt0]; rw [if_pos (by omega)]
            congr 1; funext b; rw [if_pos (by omega)]
          · refine ev_bind (impl_unpack_ev _ (by rw [ext_size]; omega)) ?_
            show Ev (fun n => if (decide ((t.extract 4 t.size).size % 4 = 0) && intsOK (recNums t)) = true then ((impl_seal.f n (bt t 0) ((recNums t).take 17)).bind fun t536 => (some (bt t 0, (recNums t).take 17, (t536.toList == t.toList)))) else some (bt t 0, (recNums t).take 17, false)) _
            rw [hL]
            by_cases h4 : (t.extract 4 t.size).size % 4 = 0 ∧ intsOK (recNums t) = true
            · have hl : (recNums t).length ≤ 16 := by
                have := h4.2
                simp only [intsOK, Bool.and_eq_true, decide_eq_true_eq] at this
                omega
              have ht17 : (recNums t).take 17 = recNums t := List.take_of_length_le (by omega)
              refine ev_pos (by simp only [h4.1, h4.2, decide_true, Bool.and_self]) ?_
              rw [ht17]
              refine ev_bind (impl_seal_ev (bt t 0) _ (by omega)) ?_
              have e : (((sealP (bt t 0) (recNums t)).toList == t.toList) : Bool) = bodyOK t (bt t 0) := by
                rw [Bool.eq_iff_iff, bodyOK_iff]; simp only [beq_iff_eq, toList_inj]
                exact ⟨fun h => ⟨h4.1, h4.2, h⟩, fun h => h.2.2⟩
              rw [e]
              exact ev_some _
            · refine ev_neg (by simp only [Bool.and_eq_true, decide_eq_true_eq]; exact h4) ?_
              have : bodyOK t (bt t 0) = false := by
                cases hb : bodyOK t (bt t 0) with
                | false => rfl
                | true => have := bodyOK_iff.1 hb; exact absurd ⟨this.1, this.2.1⟩ h4
              rw [this]
              exact ev_some _
        refine ev_bind hO ?_
        show Ev (fun n => if bodyOK t (bt t 0) = true then some (openL t, bt t 0 == kind) else some (openL t, false)) _
        by_cases h5 : bodyOK t (bt t 0) = true
        · refine ev_pos h5 ?_
          by_cases h6 : bt t 0 = kind
          · have hr : recOK t kind = true := recOK_iff.2 ⟨by omega, h6, by rw [← h6]; exact h3, by rw [← h6]; exact bodyOK_iff.1 h5⟩
            rw [hr]
            simp only [h6, beq_self_eq_true]
            exact ev_some _
          · rw [recOK_no (fun h => h6 h.2.1)]
            have : (bt t 0 == kind) = false := by simp [h6]
            rw [this]
            exact ev_some _
        · refine ev_neg h5 ?_
          rw [recOK_no (fun h => h5 (bodyOK_iff.2 (by have := h.2.2.2; rw [← h.2.1] at this; exact this)))]
          exact ev_some _
      · have h3' : inB (bt t 0) 1 9 = false := by simpa using h3
        refine hbad _ (by simp [openL, h3']) (recOK_no (fun h => h3 (by have := h.2.2.1; rw [← h.2.1] at this; exact this))) (ev_neg (by omega) (ev_neg (by omega) (ev_pos (by omega) ?_)))
        rw [bt0]
        simp only [impl_isKind.f, within_eq, Option.bind_some, h3', Bool.not_false]
        exact Ev.step (f := fun _ => some (0, [], false)) (fun k => by simp [impl_opened.j0]) (ev_some _)
def updHead (t : ByteArray) : ByteArray := t.extract 0 8
def updBody (t : ByteArray) : ByteArray := t.extract 8 t.size
def isUpdate (t : ByteArray) : Bool := decide (8 ≤ t.size) && (recOK (updHead t) 8 && (decide ((recNums (updHead t)).length = 1) && updateOK (rd (recNums (updHead t)) 0) (updBody t)))
def updateAt (t : ByteArray) : Int × ByteArray × Bool := if isUpdate t = true then (rd (recNums (updHead t)) 0, updBody t, true) else (0, (⟨#[]⟩ : ByteArray), false)
theorem updHead_size (t : ByteArray) (h : 8 ≤ t.size) : (updHead t).size = 8 := by unfold updHead; simp; omega
theorem impl_updateOf_ev (t : ByteArray) : Ev (fun k => impl_updateOf.f k t) (updateAt t) := by
 unfold impl_updateOf.f
 by_cases h0 : t.size < 8
 ·have : updateAt t = (0, (⟨#[]⟩ : ByteArray), false) := by unfold updateAt isUpdate; rw [decide_eq_false (by omega)]; rfl
  rw [this]
  exact ev_pos (by omega) (ev_some _)
 ·refine ev_neg (by omega) (ev_pos (by omega) (ev_pos (by omega) ?_))
  have e8 : decide (8 ≤ t.size) = true := decide_eq_true (by omega)
  refine ev_bind (impl_open_ev (updHead t) 8 (by rw [updHead_size t (by omega)]; omega)) ?_
  unfold updateAt isUpdate
  rw [e8]
  by_cases h1 : recOK (updHead t) 8 = true
  ·simp only [h1, if_true, Bool.true_and, recOK_openL h1]
   by_cases h2 : (recNums (updHead t)).length = 1
   ·refine ev_pos (by omega) (ev_pos (by omega) ?_)
    simp only [decide_eq_true h2, Bool.true_and, impl_updateOK_eq, Option.bind_some]
    show Ev (fun n => if updateOK (rd (recNums (updHead t)) 0) (updBody t) = true then some (rd (recNums (updHead t)) 0, updBody t, true) else some (0, (⟨#[]⟩ : ByteArray), false)) _
    cases updateOK (rd (recNums (updHead t)) 0) (updBody t)
    ·exact ev_some _
    ·exact ev_some _
   ·simp only [decide_eq_false h2, Bool.false_and, Bool.false_eq_true, if_false]
    exact ev_neg (by omega) (ev_some _)
  ·have h1' : recOK (updHead t) 8 = false := by simpa using h1
   simp only [h1', Bool.false_and, Bool.true_and, Bool.false_eq_true, if_false]
   exact ev_some _
def fineM (m : S52) : Prop := m = flM ∨ (m.f0 = 1 ∧ 0 ≤ m.f1 ∧ m.f1 ≤ 63 ∧ m.f2.size ≤ 80)
theorem moveOK_fine {m : S52} (h : fineM m) : impl_moveOK.f m.f0 m.f1 m.f2 = some true := by
 unfold impl_moveOK.f
 rcases h with rfl | ⟨h0, h1, h2, h3⟩
 ·rw [if_pos (show flM.f0 = 2 from rfl)]
  show some (((2 : Int) == 2) && (((0 : Int) == 0) && ((⟨#[]⟩ : ByteArray).toList == ([] : List UInt8)))) = _
  rw [show (⟨#[]⟩ : ByteArray).toList = [] by rw [ByteArray.toList_eq]]; rfl
 ·rw [if_neg (by omega), if_pos h0]
  simp only [impl_isPlace.f, impl_isSector.f, within_eq, Option.bind_some]
  rw [inB_iff.2 ⟨h1, h2⟩, if_pos rfl, decide_eq_true (by omega)]
theorem all_fine {l : List S52} (h : ∀ m ∈ l, fineM m) : all22_impl_moveOK.f l () = some true := by
 unfold all22_impl_moveOK.f
 have := allO_some (p := fun x : S52 => impl_moveOK.f x.f0 x.f1 x.f2) (fun _ => true) l (fun x hx => moveOK_fine (h x hx))
 rw [this]; simp
theorem rdE_Mv (l : List S52) (i : Nat) (h : i < l.length) : rd_T52 l (i : Int) = l[i] := by simp [rd_T52, h]
theorem moved_from (a : Int) (a0 : 0 ≤ a) (a1 : a ≤ 3) (l : List S52) (hf : ∀ m ∈ l, fineM m) (hl : l.length ≤ 1000) : ∀ d i (s : List ByteArray) (p : List S75), l.length - i = d → i ≤ l.length → diskOK s p = true → p.length + (l.length - i) ≤ 200 →
    Ev (fun k => impl_Disk_moved.l0 k a l (l.length : Int) (i : Int) s p) (mvS a (l.drop i) s p) ∧ diskOK (mvS a (l.drop i) s p).1 (mvS a (l.drop i) s p).2 = true := by
  intro d
  induction d with
  | zero =>
    intro i s p hd hi hk hp
    rw [List.drop_of_length_le (by omega)]
    refine ⟨Ev.succ ?_, hk⟩
    simp only [impl_Disk_moved.l0]
    exact ev_neg (by omega) (ev_some _)
  | succ d ih =>
    intro i s p hd hi hk hp
    have hlt : i < l.length := by omega
    have hm := hf _ (List.getElem_mem hlt)
    rw [List.drop_eq_getElem_cons hlt]
    simp only [mvS]
    have step : ∀ s' p', Ev (fun k => impl_Disk_moved.l0 k a l (l.length : Int) ((i + 1 : Nat) : Int) s' p') (mvS a (l.drop (i + 1)) s' p') → (mvS a (l.drop (i + 1)) s' p' = if l[i].f0 = 2 then mvS a (l.drop (i + 1)) (landS a p 400 s) (landP a false p 400) else mvS a (l.drop (i + 1)) s (p ++ [ioM a l[i]])) → True := fun _ _ _ _ => trivial
    by_cases c : l[i].f0 = 2
    · rw [if_pos c]
      have h1 := settle_imp hk a 400 (by omega) false
      obtain ⟨e1, e2⟩ := ih (i + 1) (landS a p 400 s) (landP a false p 400) (by omega) (by omega) (land_ok hk a 400 false) (by have := (landP_sub a false p 400).2; omega)
      refine ⟨Ev.succ ?_, e2⟩
      simp only [impl_Disk_moved.l0, rdE_Mv l i hlt, wnext i (show i < 1000000000000000000 by omega)]
      refine ev_pos (by omega) (ev_pos (by omega) (ev_pos (by omega) (ev_pos c ?_)))
      rw [show (400 : Int) = ((400 : Nat) : Int) from rfl, h1]
      simp only [Option.bind_some]
      exact e1
    · rw [if_neg c]
      obtain ⟨d1, d2, d3, d4⟩ := disk_in hk
      have hm' : l[i].f0 = 1 ∧ 0 ≤ l[i].f1 ∧ l[i].f1 ≤ 63 ∧ l[i].f2.size ≤ 80 := by
        rcases hm with h | h
        · exact absurd (congrArg (·.f0) h) c
        · exact h
      obtain ⟨e1, e2⟩ := ih (i + 1) s (p ++ [ioM a l[i]]) (by omega) (by omega) (disk_of d1 (by simp; omega) d3 (by
        intro x hx
        rcases List.mem_append.1 hx with hx | hx
        · exact d4 x hx
        · rw [List.mem_singleton.1 hx]; exact io_of a0 a1 hm'.2.1 hm'.2.2.1 hm'.2.2.2)) (by simp; omega)
      refine ⟨Ev.succ ?_, e2⟩
      simp only [impl_Disk_moved.l0, rdE_Mv l i hlt, wnext i (show i < 1000000000000000000 by omega)]
      exact ev_pos (by omega) (ev_pos (by omega) (ev_pos (by omega) (ev_neg c (ev_pos (by omega) e1))))
theorem movesDo_ev {s : List ByteArray} {p : List S75} (hk : diskOK s p = true) {a : Int} (a0 : 0 ≤ a) (a1 : a ≤ 3) (l : List S52) (hf : ∀ m ∈ l, fineM m) (hl : p.length + l.length ≤ 200) :
  Ev (fun k => impl_MovesDo.f k s p a l) ((mvS a l s p).1, (mvS a l s p).2, 0) ∧ diskOK (mvS a l s p).1 (mvS a l s p).2 = true := by
 obtain ⟨d1, d2, d3, d4⟩ := disk_in hk
 have hM := moved_from a a0 a1 l hf (by omega) l.length 0 s p (by omega) (by omega) hk (by omega)
 rw [List.drop_zero] at hM
 refine ⟨?_, hM.2⟩
 unfold impl_MovesDo.f
 simp only [impl_Move_20.f, codes0 hk a0 a1, all_fine hf, Option.bind_some]
 rw [decide_eq_false (show ¬ (l.length : Int) > 4096 by omega)]
 have e : (if (false : Bool) = true then (2 : Int) else if ((0 : Int) != 0) = true then 0 else if (!true) = true then 1 else 0) = 0 := by simp
 rw [first3, e]
 refine ev_bind (ev_some (0 : Int)) (ev_pos rfl ?_)
 rw [w64 (n := (p.length : Int) + (l.length : Int)) (by omega) (by omega)]
 refine ev_neg (by omega) (ev_bind ?_ (ev_some _))
 unfold impl_Disk_moved.f
 simp only [copied_eq s p (by omega) (by omega), Option.bind_some]
 exact hM.1
theorem slot_w (h : Int) (h0 : 0 ≤ h) (h1 : h ≤ 3) : wrap64 (39 + wrap64 (6 * h)) = 39 + 6 * h := by
 rw [w64 (n := 6 * h) (by omega) (by omega), w64 (by omega) (by omega)]
theorem rdOf_at {S : List ByteArray} {p : Nat} {t : ByteArray} (h : S[p]? = some t) : rdOf ByteArray.empty S (p : Int) = t := by
 simp [rdOf, h]
theorem slN_eq (h : Int) (h0 : 0 ≤ h) : (39 + 6 * h) = ((slN h : Nat) : Int) := by unfold slN; omega
theorem read_at {S : List ByteArray} (hS : S.length = 64) (o : Int) {p : Nat} {t : ByteArray} (h : S[p]? = some t) : impl_Disk_read.f S [] o (p : Int) = some t := by
 have hp : p < S.length := (List.getElem?_eq_some_iff.1 h).1
 rw [impl_read_eq S [] o (p : Int) (by simp) (by omega) (by omega)]
 show some (readP S [] o (p : Int)) = _
 unfold readP
 simp [rdOf_at h]
theorem enc_at (u : S45) (hu : updDrawn u) : updateAt (encU u) = (u.f0, u.f1, true) := by
 have h : updateOK u.f0 u.f1 = true := updDrawn_ok hu
 unfold encU
 have h1 : 9 ≤ u.f0 ∧ u.f0 ≤ 28 := ⟨hu.1, hu.2.1⟩
 have hz : (sealP 8 [u.f0]).size = 8 := sealP_size _ _
 have hh : updHead (sealP 8 [u.f0] ++ u.f1) = sealP 8 [u.f0] := by
  unfold updHead
  rw [← hz]
  exact ByteArray.extract_append_eq_left rfl
 have hb : updBody (sealP 8 [u.f0] ++ u.f1) = u.f1 := by
  unfold updBody
  rw [ba_size_append, ← hz]
  exact ByteArray.extract_append_eq_right rfl rfl
 have hr := recNums_seal 8 [u.f0] (fun x hx => by rw [List.mem_singleton.1 hx]; omega); have hk := recOK_seal 8 [u.f0] rfl (by simp) (fun x hx => by rw [List.mem_singleton.1 hx]; omega)
 have hi : isUpdate (sealP 8 [u.f0] ++ u.f1) = true := by
  unfold isUpdate
  rw [hh, hb, hr, hk]
  have e : rd [u.f0] 0 = u.f0 := rfl
  rw [e, h, decide_eq_true (show 8 ≤ (sealP 8 [u.f0] ++ u.f1).size by rw [ba_size_append]; omega)]; rfl
 unfold updateAt
 rw [if_pos hi, hh, hb, hr]; rfl
theorem head_open (n : Int) (n0 : 0 ≤ n) (n1 : n ≤ 100) : Ev (fun k => impl_open.f k (sealP 7 [n, 5]) 7) ([n, 5], true) := by
 have h := impl_open_ev (sealP 7 [n, 5]) 7 (by rw [sealP_size]; show 4 + 4 * 2 ≤ _; omega); have hk := recOK_seal 7 [n, 5] rfl (by simp) (fun x hx => by simp at hx; rcases hx with rfl | rfl <;> omega); have hr := recNums_seal 7 [n, 5] (fun x hx => by simp at hx; rcases hx with rfl | rfl <;> omega)
 rw [recOK_openL hk, hk, hr] at h
 exact h
theorem seal_ne (n : Int) : (sealP 7 [n, 5]).toList ≠ ([] : List UInt8) := by
 intro h
 have h2 := congrArg List.length h
 rw [ByteArray.toList_eq, Array.length_toList] at h2
 have h3 : (sealP 7 [n, 5]).data.size = 12 := sealP_size 7 [n, 5]
 rw [h3] at h2
 cases h2
theorem journalOf_ev {S : List ByteArray} (hk : diskOK S [] = true) {o h : Int} (o0 : 0 ≤ o) (o1 : o ≤ 3) (h0 : 0 ≤ h) (h1 : h ≤ 3) {l : List S45} {q : Int} (hw : Ev (fun k => impl_Disk_waiting.f k S [] o h) (l, q, true)) : Ev (fun k => impl_JournalOf.f k S [] o h) (l, q, 0) := by
 unfold impl_JournalOf.f
 simp only [impl_DiskOK_eq, impl_isHost.f, within_eq, Option.bind_some, hk, inB_iff.2 ⟨o0, o1⟩, inB_iff.2 ⟨h0, h1⟩, if_true]
 rw [show impl_first.f [Any.b (!true), Any.n 1, Any.b (!true), Any.n 4] = some 0 from rfl]
 simp only [Option.bind_some]
 refine Ev.succ ?_
 simp only [impl_JournalOf.j0]
 exact ev_pos (by first | rfl | trivial) (ev_bind hw (ev_pos rfl (ev_some _)))
theorem none_ev {S : List ByteArray} (hk : diskOK S [] = true) {o h : Int} (o0 : 0 ≤ o) (o1 : o ≤ 3) (h0 : 0 ≤ h) (h1 : h ≤ 3) (hA : S[slN h]? = some (⟨#[]⟩ : ByteArray) ∨ S[slN h]? = some (sealP 7 [0, 5])) : Ev (fun k => impl_ReplayPlan.f k S [] o h) ([], 0) := by
 have hS := (disk_in hk).1
 have hW : ∃ q, Ev (fun k => impl_Disk_waiting.f k S [] o h) ([], q, true) := by
  unfold impl_Disk_waiting.f impl_slot.f
  simp only [Option.bind_some]
  rw [slot_w h h0 h1, slN_eq h h0]
  rcases hA with hA | hA
  ·rw [read_at hS o hA]
   simp only [Option.bind_some]
   exact ⟨0, ev_pos (by rw [ByteArray.toList_eq]) (ev_some _)⟩
  ·rw [read_at hS o hA]
   simp only [Option.bind_some]
   refine ⟨5, ev_neg (seal_ne 0) (ev_bind (head_open 0 (by omega) (by omega)) (ev_pos rfl (ev_pos rfl (ev_pos (by show (0 : Int) < 2; omega) (Ev.succ ?_)))))⟩
   rw [show decide (rd [(0 : Int), 5] 0 > 5) = false from rfl]
   simp only [impl_Disk_waiting.j0]
   refine ev_neg (by decide) (ev_pos (by show (0 : Int) < 2; omega) (Ev.succ ?_))
   simp only [impl_Disk_waiting.l0]
   exact ev_neg (by show ¬ (0 : Int) < 0; omega) (ev_pos (by show (1 : Int) < 2; omega) (ev_some _))
 obtain ⟨q, hW⟩ := hW
 unfold impl_ReplayPlan.f
 exact ev_bind (journalOf_ev hk o0 o1 h0 h1 hW) (ev_pos rfl (ev_pos rfl (ev_some _)))
theorem rdE_Up (l : List S45) (i : Nat) (h : i < l.length) : rd_T45 l (i : Int) = l[i] := by simp [rd_T45, h]
theorem applied_ev (h : Int) (h0 : 0 ≤ h) (h1 : h ≤ 3) (L : List S45) (hn : L.length ≤ 1000) : Ev (fun k => impl_applied.f k h 5 L) (appM h L) := by
 unfold impl_applied.f
 have key := ev_down (g := fun k i => impl_applied.l0 k h 5 ((w2M L).take i) L (L.length : Int) (i : Int)) (r := appM h L) L.length ?_ ?_
 ·simpa using key
 ·refine Ev.succ ?_
  simp only [impl_applied.l0, impl_slot.f, Option.bind_some]
  rw [slot_w h h0 h1, List.take_of_length_le (by rw [w2_len]; omega)]
  exact ev_neg (by omega) (ev_bind (impl_seal_ev 7 [0, 5] (by show 2 ≤ _; omega)) (ev_pos (by rw [w2_len]; show L.length + 3 < _; omega) (ev_some _)))
 ·intro i hi hnx
  refine Ev.succ ?_
  simp only [impl_applied.l0, rdE_Up L i hi, wnext i (show i < 1000000000000000000 by omega)]
  refine ev_pos (by omega) (ev_pos (by omega) (ev_pos (by omega) (ev_pos (by rw [List.length_take]; omega) ?_)))
  rw [List.take_succ_eq_append_getElem (by rw [w2_len]; exact hi)] at hnx
  have e : (w2M L)[i]'(by rw [w2_len]; exact hi) = (⟨1, L[i].f0, L[i].f1⟩ : S52) := by simp [w2M]
  rw [e] at hnx
  exact hnx
theorem waits_ev {S : List ByteArray} (hk : diskOK S [] = true) {o h : Int} (o0 : 0 ≤ o) (o1 : o ≤ 3) (h0 : 0 ≤ h) (h1 : h ≤ 3) (L : List S45) (hn : L.length ≤ 4) (hL : ∀ u ∈ L, updDrawn u) (hw : waitsB h L S) : Ev (fun k => impl_Disk_waiting.f k S [] o h) (L, 5, true) := by
 have hS := (disk_in hk).1
 unfold impl_Disk_waiting.f impl_slot.f
 simp only [Option.bind_some]
 rw [slot_w h h0 h1, slN_eq h h0, read_at hS o hw.1]
 simp only [Option.bind_some]
 refine ev_neg (seal_ne _) (ev_bind (head_open (L.length : Int) (by omega) (by omega)) (ev_pos rfl (ev_pos rfl (ev_pos (by show (0 : Int) < 2; omega) (Ev.succ ?_)))))
 rw [show decide (rd [(L.length : Int), 5] 0 > 5) = false from decide_eq_false (by show ¬ (L.length : Int) > 5; omega)]
 simp only [impl_Disk_waiting.j0]
 refine ev_neg (by decide) (ev_pos (by show (0 : Int) < 2; omega) ?_)
 have key := ev_down (g := fun k i => impl_Disk_waiting.l0 k o h [(L.length : Int), 5] (L.take i) (L.length : Int) (i : Int) S []) (r := (L, 5, true)) L.length ?_ ?_
 ·rw [List.take_zero] at key; exact key
 ·refine Ev.succ ?_
  simp only [impl_Disk_waiting.l0]
  rw [List.take_of_length_le (Nat.le_refl _)]
  exact ev_neg (by omega) (ev_pos (by show (1 : Int) < 2; omega) (ev_some _))
 ·intro i hi hnx
  refine Ev.succ ?_
  simp only [impl_Disk_waiting.l0, impl_slot.f, Option.bind_some, wnext i (show i < 1000000000000000000 by omega)]
  have e : wrap64 (wrap64 (wrap64 (39 + wrap64 (6 * h)) + 1) + (i : Int)) = ((slN h + 1 + i : Nat) : Int) := by
   rw [slot_w h h0 h1, w64 (n := 39 + 6 * h + 1) (by omega) (by omega), w64 (by omega) (by omega)]
   unfold slN; omega
  rw [e, read_at hS o (hw.2 i hi)]
  simp only [Option.bind_some]
  have hU := impl_updateOf_ev (encU L[i])
  rw [enc_at _ (hL _ (List.getElem_mem hi))] at hU
  refine ev_pos (by omega) (ev_bind hU (ev_pos rfl (ev_pos (by rw [List.length_take]; omega) ?_)))
  rw [List.take_succ_eq_append_getElem hi] at hnx
  exact hnx
theorem some_ev2 {S : List ByteArray} (hk : diskOK S [] = true) {o h : Int} (o0 : 0 ≤ o) (o1 : o ≤ 3) (h0 : 0 ≤ h) (h1 : h ≤ 3) (L : List S45) (hp : 0 < L.length) (hn : L.length ≤ 4) (hL : ∀ u ∈ L, updDrawn u) (hw : waitsB h L S) : Ev (fun k => impl_ReplayPlan.f k S [] o h) (appM h L, 0) := by
 unfold impl_ReplayPlan.f
 exact ev_bind (journalOf_ev hk o0 o1 h0 h1 (waits_ev hk o0 o1 h0 h1 L hn hL hw)) (ev_pos rfl (ev_neg (by show ¬ (L.length : Int) = 0; omega) (ev_bind (applied_ev h h0 h1 L (by omega)) (ev_some _))))
theorem journal_plan {h : Int} (h0 : 0 ≤ h) (h1 : h ≤ 3) (L : List S45) (hp : 0 < L.length) (hn : L.length ≤ 4) (hL : ∀ u ∈ L, updDrawn u) : Ev (fun k => impl_journal.f k h 5 L) (planM h L) := by
 unfold impl_journal.f
 refine ev_neg (by omega) ?_
 have key := ev_down (g := fun k i => impl_journal.l0 k h 5 L ((w1M h L).take i) L (L.length : Int) (i : Int)) (r := planM h L) L.length ?_ ?_
 ·simpa using key
 ·refine Ev.succ ?_
  simp only [impl_journal.l0, impl_slot.f, Option.bind_some]
  rw [slot_w h h0 h1, List.take_of_length_le (by rw [w1_len]; omega)]
  refine ev_neg (by omega) (ev_bind (impl_seal_ev 7 [(L.length : Int), 5] (by show 2 ≤ _; omega)) (ev_pos (by rw [w1_len]; show L.length + 3 < _; omega) (ev_bind (applied_ev h h0 h1 L (by omega)) (ev_pos (by simp [w1_len, appM, w2_len]; omega) ?_))))
  exact ev_some _
 ·intro i hi hnx
  refine Ev.succ ?_
  simp only [impl_journal.l0, impl_slot.f, Option.bind_some, rdE_Up L i hi, wnext i (show i < 1000000000000000000 by omega)]
  have hz := hL _ (List.getElem_mem hi)
  rw [slot_w h h0 h1, w64 (n := 39 + 6 * h + 1) (by omega) (by omega), w64 (n := 39 + 6 * h + 1 + (i : Int)) (by omega) (by omega)]
  refine ev_pos (by omega) (ev_pos (by omega) (ev_pos (by omega) (ev_bind (impl_Update_text_ev _ _ (by have := hz.2.2; omega)) (ev_pos (by rw [List.length_take]; omega) ?_))))
  rw [List.take_succ_eq_append_getElem (by rw [w1_len]; exact hi)] at hnx
  have e : (w1M h L)[i]'(by rw [w1_len]; exact hi) = (⟨1, 39 + 6 * h + 1 + (i : Int), encU L[i]⟩ : S52) := by simp [w1M, hi]
  rw [e] at hnx
  exact hnx
theorem plan_ev2 {h : Int} (h0 : 0 ≤ h) (h1 : h ≤ 3) (L : List S45) (hn : L.length ≤ 4) (hL : ∀ u ∈ L, updDrawn u) : Ev (fun k => impl_JournalPlan.f k h 5 L) (if L.length = 0 then [] else planM h L, 0) := by
 have hA : all17_impl_updateOK.f L () = some true := by
  unfold all17_impl_updateOK.f
  have := allO_some (p := fun x : S45 => impl_updateOK.f x.f0 x.f1) (fun _ => true) L (fun x hx => by rw [impl_updateOK_eq, updDrawn_ok (hL x hx)])
  rw [this]; simp
 have hJ : Ev (fun k => impl_journal.f k h 5 L) (if L.length = 0 then [] else planM h L) := by
  by_cases c : L.length = 0
  ·rw [if_pos c]; unfold impl_journal.f; exact ev_pos (by omega) (ev_some _)
  ·rw [if_neg c]; exact journal_plan h0 h1 L (by omega) hn hL
 unfold impl_JournalPlan.f
 simp only [impl_Update_14.f, impl_isHost.f, impl_isNumber.f, within_eq, hA, Option.bind_some, inB_iff.2 ⟨h0, h1⟩, inB_iff.2 ⟨show (0 : Int) ≤ 5 by omega, show (5 : Int) ≤ 2147483647 by omega⟩, if_true]
 rw [decide_eq_false (show ¬ (L.length : Int) > 4096 by omega), decide_eq_false (show ¬ (L.length : Int) > 5 by omega)]
 rw [show impl_first.f [Any.b false, Any.n 2, Any.b (!true), Any.n 4, Any.b false, Any.n 6, Any.b (!true), Any.n 1] = some 0 from rfl]
 simp only [Option.bind_some]
 exact ev_pos (by first | rfl | trivial) (ev_bind hJ (ev_some _))
theorem at_ok (l : List Int) (h : ∀ x ∈ l, 0 ≤ x ∧ x ≤ 255) (i : Int) (hi0 : 0 ≤ i) (hi : i ≤ 1000000) (n : Int) : ∃ r, laws_at.f l i n = some r ∧ 0 ≤ r ∧ (n ≤ 1 → r = 0) ∧ (1 ≤ n → r < n) := by
 unfold laws_at.f
 by_cases c1 : n ≤ 1
 ·rw [if_pos c1]; exact ⟨0, rfl, by omega, fun _ => rfl, fun _ => by omega⟩
 ·rw [if_neg c1]
  by_cases c2 : (l.length : Int) = 0
  ·rw [if_pos c2, if_neg (by omega)]
   have x1 : wrap64 (i * 7) = i * 7 := w64 (by omega) (by omega)
   rw [x1]
   have := tmod_range (show 0 ≤ i * 7 by omega) (show 0 < n by omega)
   exact ⟨_, rfl, this.1, fun h => absurd h c1, fun _ => this.2⟩
  ·rw [if_neg c2]
   have x1 : wrap64 (i + 1) = i + 1 := w64 (by omega) (by omega)
   rw [x1]
   have m1 := tmod_range hi0 (show 0 < (l.length : Int) by omega); have m2 := tmod_range (show 0 ≤ i + 1 by omega) (show 0 < (l.length : Int) by omega)
   rw [if_pos m1.1, if_pos m1.2, if_pos m2.1, if_pos m2.2, if_neg (by omega)]
   have b1 := rd_byte l h (Int.tmod i (l.length : Int)); have b2 := rd_byte l h (Int.tmod (i + 1) (l.length : Int))
   generalize rd l (Int.tmod i (l.length : Int)) = u at b1 ⊢
   generalize rd l (Int.tmod (i + 1) (l.length : Int)) = v at b2 ⊢
   have d0 : 0 ≤ Int.tdiv i (l.length : Int) := by rw [Int.tdiv_eq_ediv_of_nonneg hi0]; exact Int.ediv_nonneg hi0 (by omega)
   have d1 : Int.tdiv i (l.length : Int) ≤ i := by rw [Int.tdiv_eq_ediv_of_nonneg hi0]; exact Int.ediv_le_self _ hi0
   generalize Int.tdiv i (l.length : Int) = q at d0 d1 ⊢
   have y1 : wrap64 u = u := w64 (by omega) (by omega)
   have y2 : wrap64 v = v := w64 (by omega) (by omega)
   have y3 : wrap64 q = q := w64 (by omega) (by omega)
   have y4 : wrap64 (u * 31) = u * 31 := w64 (by omega) (by omega)
   rw [y1, y2, y3, y4]
   have y5 : wrap64 (u * 31 + v) = u * 31 + v := w64 (by omega) (by omega)
   rw [y5]
   have y6 : wrap64 (u * 31 + v + q) = u * 31 + v + q := w64 (by omega) (by omega)
   rw [y6]
   have := tmod_range (show 0 ≤ u * 31 + v + q by omega) (show 0 < n by omega)
   exact ⟨_, rfl, this.1, fun h => absurd h c1, fun _ => this.2⟩
end Go.Proofs.Ytfmfbmcdikkijaa.Q
