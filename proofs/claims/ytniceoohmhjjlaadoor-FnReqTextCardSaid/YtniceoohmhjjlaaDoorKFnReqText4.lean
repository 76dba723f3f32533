/- What laws.FnReqText reaches, part 4: the functions as Lean functions, the proofs that the program's functions answer so, and plain laws about them. -/
import Derived.Test.YtniceoohmhjjlaaDoorKFnReqText1
import Derived.Test.YtniceoohmhjjlaaDoorKFnReqText2
import Derived.Test.YtniceoohmhjjlaaDoorKFnReqText3
namespace Go.Proofs.YtniceoohmhjjlaaDoor.Q
open Go.RowKit Go.Proofs.YtniceoohmhjjlaaDoor.Ext Go.Proofs.YtniceoohmhjjlaaDoorW.PrintWords Go.Proofs.YtniceoohmhjjlaaDoorW.PrintLast Go.Proofs.YtniceoohmhjjlaaDoorW.PrintMore
attribute [local go_sem] max2_int min2_int max_two min_two max_three min_three max_four min_four   -- for this text's walks alone
set_option linter.unusedVariables false
set_option linter.unusedSimpArgs false

set_option linter.unusedVariables false
set_option linter.unusedSimpArgs false
/-! ### impl_wordsOf_1: function 73 -/
def impl_wordsOf_1.f (a0 : ByteArray) : Option (Bool) := some (a0.toList == ([] : List UInt8))
set_option maxHeartbeats 8000000 in
set_option maxRecDepth 100000 in
theorem impl_wordsOf_1.calls (a0 : ByteArray) (r : Bool) (w : World) (h : impl_wordsOf_1.f a0 = some r) :
    Calls Tryd.prog 73 #[.string a0] w fun e w' => e = .returned (.bool r) ∧ Drawn0 w w' := by
  have H : (some (a0.toList == ([] : List UInt8))) = some r := h
  clear h
  obtain rfl := Option.some.inj H
  go_enter Tryd.func73, Tryd.ntmps73
  go_wp2
  go_ret
  exact ⟨by first | rfl | (simp; done) | (simp [*]; done), by repeat (first | exact Drawn0.refl _ | apply Drawn0.step)⟩
/-! ### impl_wordsOf: function 33 -/
def impl_wordsOf_go (p : ByteArray → Option Bool) : List ByteArray → Option (List ByteArray)
  | [] => some []
  | x :: r => (p x).bind fun b => (impl_wordsOf_go p r).bind fun q => some (if b = true then q else x :: q)
def impl_wordsOf_idx (p : ByteArray → Option Bool) : List ByteArray → Nat → Option Int
  | [], _ => some (-1)
  | x :: r, i => (p x).bind fun b => if b = true then some (i : Int) else impl_wordsOf_idx p r (i + 1)
theorem impl_wordsOf_go_mono {p q : ByteArray → Option Bool} (h : ∀ x, LeO (p x) (q x)) : ∀ l, LeO (impl_wordsOf_go p l) (impl_wordsOf_go q l)
  | [] => LeO.refl _
  | x :: xs => LeO.bind (h x) fun b => LeO.bind (impl_wordsOf_go_mono h xs) fun _ => LeO.refl _
theorem impl_wordsOf_go_idx (p : ByteArray → Option Bool) : ∀ (l : List ByteArray) (n : Nat) (out : List ByteArray), impl_wordsOf_go p l = some out →
    (impl_wordsOf_idx p l n = some (-1) ∧ out = l) ∨ ∃ (i : Nat) (rest : List ByteArray), i < l.length ∧ impl_wordsOf_idx p l n = some (((n + i : Nat) : Int)) ∧ impl_wordsOf_go p (l.drop (i + 1)) = some rest ∧ out = l.take i ++ rest := by
  intro l
  induction l with
  | nil =>
    intro n out h
    simp only [impl_wordsOf_go, Option.some.injEq] at h
    exact .inl ⟨rfl, h.symm⟩
  | cons x r ih =>
    intro n out h
    simp only [impl_wordsOf_go] at h
    obtain ⟨b, hst, h⟩ := Option.bind_eq_some_iff.mp h
    obtain ⟨o1, hgo, h⟩ := Option.bind_eq_some_iff.mp h
    simp only [Option.some.injEq] at h
    subst h
    cases b with
    | true =>
      refine .inr ⟨0, o1, by simp, ?_, by simpa using hgo, by simp⟩
      simp only [impl_wordsOf_idx, hst, Option.bind_some, if_true, Nat.add_zero]
    | false =>
      rcases ih (n + 1) o1 hgo with ⟨h1, h2⟩ | ⟨i, rest, h1, h2, h3, h4⟩
      · refine .inl ⟨?_, by simp [h2]⟩
        simp only [impl_wordsOf_idx, hst, Option.bind_some, Bool.false_eq_true, if_false]
        exact h1
      · refine .inr ⟨i + 1, rest, by simp; omega, ?_, by simpa using h3, by simp [h4]⟩
        simp only [impl_wordsOf_idx, hst, Option.bind_some, Bool.false_eq_true, if_false]
        rw [h2]; congr 1; omega
/-- What is known of a function that asks something of an element: it answers p, and leaves what lies below w0 as it is. -/
def impl_wordsOf_asks (w0 : World) (cap : Array Value) (p : ByteArray → Option Bool) : Prop := ∀ (W : World) (x : ByteArray) (b : Bool), Below w0.heap.size w0 W → p x = some b → Calls Tryd.prog 73 (#[.string x] ++ cap) W fun e W' => e = .returned (.bool b) ∧ Below W.heap.size W W'
set_option maxHeartbeats 4000000 in
set_option maxRecDepth 100000 in
theorem impl_wordsOf_index {w0 W : World} {cap : Array Value} {p : ByteArray → Option Bool} {v : Value} {pend : List ByteArray} (AS : impl_wordsOf_asks w0 cap p) (hB : Below w0.heap.size w0 W) {base : Nat} {ok : Nat → Prop}
    (RP : Kd.R Kd.string 9 W base ok v pend) (hl : pend.length ≤ 1000000000) (r : Int) (h : impl_wordsOf_idx p pend 0 = some r) :
    Calls Tryd.prog 97 #[v, .func (.func 73) #[] cap] W fun e W' => e = .returned (.int .i64 r) ∧ Below W.heap.size W W' := by
  obtain ⟨Ao, co, rfl⟩ := Kd.R_slice RP
  have PP := zm RP
  have ASK := zm AS
  have HB := zm hB
  have HW := zm (Below.refl W.heap.size W)
  have H := zm h
  have HL := zm hl
  clear RP AS hB h hl
  go_enter Tryd.func97, Tryd.ntmps97
  go_wp2
  go_loopg [8] pend.length (fun kq v8 w' => ∃ (x : Int), v8 = .int .i64 x ∧ Aside0 (0 ≤ x ∧ x.toNat ≤ pend.length ∧ kq = pend.length - x.toNat) ∧ Aside0 (impl_wordsOf_idx p (pend.drop x.toNat) x.toNat = some r) ∧ Aside0 (Below W.heap.size W w'))
  case atStart => exact ⟨0, rfl, ⟨by omega, by omega, by simp⟩, ⟨by rw [show (0 : Int).toNat = 0 from rfl, List.drop_zero]; exact H.out⟩, HW⟩
  case round =>
    try clear c1
    try clear p2
    clear HW H
    obtain ⟨x, rfl, HM, H, HW⟩ := hrel
    by_cases hc : x < (pend.length : Int)
    · have hd : decide (x < (pend.length : Int)) = true := decide_eq_true hc
      have hlt : x.toNat < pend.length := by have := HM.out; omega
      have h0x : 0 ≤ x := HM.out.1
      have h := H.out
      rw [List.drop_eq_getElem_cons hlt] at h
      simp only [impl_wordsOf_idx] at h
      have h2 := Option.bind_eq_some_iff.mp h
      clear h
      obtain ⟨b, hst, h⟩ := h2
      have PQ := zm (Kd.R_below PP.out HW.out)
      obtain ⟨gp, cp, ep, _, _, _, _⟩ := Kd.R_form PQ.out (by omega)
      (first | cases ep | (injection ep with ea_ en_ ec_; (first | subst ea_ | (injection ea_ with ea_; subst ea_)); subst ec_; clear en_))
      obtain ⟨ce, hcl, hM, hcc, hfr⟩ := Kd.R_elem PQ.out ByteArray.empty x h0x hc
      obtain rfl : ce = [.string _] := hM
      have hx0 : wr.cell? ⟨gp, x.toNat, none⟩ = some (.string (rdOf ByteArray.empty pend x)) := by have h_ := hcc 0 _ rfl; simp only [show Kd.string.sz = 1 from rfl, Nat.mul_one, Nat.add_zero] at h_; exact h_
      clear hcl hcc hfr
      have hr0 : rdOf ByteArray.empty pend x = pend[x.toNat] := by simp [rdOf, hlt]
      have ST := zm (show p (rdOf ByteArray.empty pend x) = some b from by rw [hr0]; exact hst)
      have HT := zm hlt
      have HH := zm h
      have WN : Aside0 (wrap64 (x + 1) = x + 1) := ⟨by unfold wrap64; have := HL.out; omega⟩
      have HC := zm hc
      have p0 := eq_true h0x
      have p1 := eq_true hc
      have d0 : decide (0 ≤ x) = true := decide_eq_true h0x
      clear h hst hr0 hlt H h0x hc
      cases b with
      | true =>
        go_wp2_with (first
          | ((with_reducible refine gate_dst (N := 16) rfl ?_); refine goesV (some 16) rfl rfl Tryd.func73 (by kernel_rfl) rfl (#[.string (rdOf ByteArray.empty pend x)] ++ cap) rfl (cap := cap) ?hx ?hargs ?_; (case hx => rfl); (case hargs => simp [Act.eval]); refine (ASK.out wr (rdOf ByteArray.empty pend x) true (below_step HB.out HW.out) ST.out).mono ?_; rintro e w2 ⟨rfl, hb⟩; refine ⟨_, rfl, ?_⟩; have HW2 := zm (below_step HW.out hb); clear hb hx0))
        have h := HH.out
        simp only [if_true, Option.some.injEq] at h
        have e2 : x = r := by have := HM.out; omega
        subst e2
        go_ret
        exact ⟨rfl, HW2.out⟩
      | false =>
        go_wp2_with (first
          | ((with_reducible refine gate_dst (N := 16) rfl ?_); refine goesV (some 16) rfl rfl Tryd.func73 (by kernel_rfl) rfl (#[.string (rdOf ByteArray.empty pend x)] ++ cap) rfl (cap := cap) ?hx ?hargs ?_; (case hx => rfl); (case hargs => simp [Act.eval]); refine (ASK.out wr (rdOf ByteArray.empty pend x) false (below_step HB.out HW.out) ST.out).mono ?_; rintro e w2 ⟨rfl, hb⟩; refine ⟨_, rfl, ?_⟩; have HW2 := zm (below_step HW.out hb); clear hb hx0))
        go_roundg (pend.length - (x + 1).toNat)
        case measure => have := HM.out; have := HT.out; omega
        case rel => exact ⟨x + 1, by rw [WN.out], ⟨by have := HM.out; omega, by have := HM.out; have := HT.out; omega, rfl⟩, ⟨by have h := HH.out; simp only [Bool.false_eq_true, if_false] at h; rw [show (x + 1).toNat = x.toNat + 1 from by have := HM.out; omega]; exact h⟩, HW2⟩
    · have hd : decide (x < (pend.length : Int)) = false := decide_eq_false hc
      have e : pend.drop x.toNat = [] := List.drop_of_length_le (by omega)
      have h := H.out
      rw [e] at h
      simp only [impl_wordsOf_idx, Option.some.injEq] at h
      subst h
      clear e hc H
      go_wp2
      go_ret
      exact ⟨rfl, HW.out⟩
theorem impl_wordsOf_blk {g : Nat} {t : TypeId} : ∀ (vs : List Value) (o : Nat) {w : World} {cs : Array Value}, w.heap[g]? = some (.cells cs t (0, 0)) → ∃ cs', (w.setCells g o vs).heap[g]? = some (.cells cs' t (0, 0)) ∧ cs'.size = cs.size ∧ ∀ j, j < o → cs'[j]? = cs[j]? := by
  intro vs
  induction vs with
  | nil => intro o w cs h; exact ⟨cs, h, rfl, fun _ _ => rfl⟩
  | cons v r ih =>
    intro o w cs h
    obtain ⟨cs', h1, h2, h3⟩ := ih (o + 1) (blk_set h o v)
    refine ⟨cs', h1, by rw [h2, Array.size_setIfInBounds], fun j hj => ?_⟩
    rw [h3 j (by omega)]
    exact Array.getElem?_setIfInBounds_ne (by omega)
theorem impl_wordsOf_cut {W : World} {base gp i cap : Nat} {ok : Nat → Prop} {xs : List ByteArray} (h : Kd.R Kd.string 9 W base ok (.slice (some ⟨gp, 0, none⟩) i cap) xs) (vs : List Value) (o : Nat) (ho : i * 1 ≤ o) : Kd.R Kd.string 9 (W.setCells gp o vs) base ok (.slice (some ⟨gp, 0, none⟩) i cap) xs := by
  have hn := (Kd.R_reads' h).1
  obtain ⟨h0, inner, ⟨hl, ho'⟩, hr⟩ := h
  refine ⟨h0, inner, ⟨hl, ?_⟩, hr.imp_ (fun p c hp => by exact hp)⟩
  rcases ho' with ⟨e, _⟩ | ⟨g, cap', cur, e, hb, hh, h1, h2, h3, h4⟩
  · cases e
  · injection e with e1 e2 e3
    injection e1 with e1
    injection e1 with e1
    subst e1 e3
    obtain ⟨cs', q1, q2, q3⟩ := impl_wordsOf_blk vs o hh
    refine .inr ⟨gp, _, cs', by rw [hn], hb, q1, h1, h2, q2.trans h3, ?_⟩
    rw [← h4]
    refine List.ext_getElem? (fun j => ?_)
    rw [List.getElem?_take, List.getElem?_take]
    by_cases c : j < xs.length * (Kd.string).sz
    · rw [if_pos c, if_pos c, Array.getElem?_toList, Array.getElem?_toList]
      exact q3 j (Nat.lt_of_lt_of_le c (by rw [← hn]; exact ho))
    · rw [if_neg c, if_neg c]
theorem impl_wordsOf_bel {g : Nat} {w0 : World} (hg : w0.heap.size ≤ g) : ∀ (vs : List Value) (o : Nat) (w : World), Below w0.heap.size w0 w → Below w0.heap.size w0 (w.setCells g o vs) := by
  intro vs
  induction vs with
  | nil => intro o w h; exact h
  | cons v r ih => intro o w h; exact ih (o + 1) _ (below_set h hg)
/-- clear of the rest of a row: some cells from there on are written. -/
theorem impl_wordsOf_clear {W : World} {base gp n cap : Nat} {ok : Nat → Prop} {xs : List ByteArray} (h : Kd.R Kd.string 9 W base ok (.slice (some ⟨gp, 0, none⟩) n cap) xs) (a : Nat) (ha : a < n) (cc : Nat) (ty : TypeId) :
    ∃ vs, (Builtin.clear_ #[37] ty #[.slice (some ⟨gp, a * 1, none⟩) (n - a) cc]).run Tryd.prog W = .ok (.tuple #[]) (W.setCells gp (a * 1) vs) := by
  have hz : ∀ w, (zeroValue 9).run Tryd.prog w = .ok (.string ByteArray.empty) w := Tryd.zeroValue9
  obtain ⟨m, hm⟩ : ∃ m, n - a = m + 1 := ⟨n - a - 1, by omega⟩
  refine ⟨(Builtin.zeroCells (Value.string ByteArray.empty).cells (n - a)).toList, ?_⟩
  have hlen : (Builtin.zeroCells (Value.string ByteArray.empty).cells (n - a)).toList.length = (n - a) * 1 := by simp [Builtin.zeroCells, Value.cells]
  have hn := (Kd.R_reads' h).1
  have hst := run_storeCells_cells (P := Tryd.prog) gp (a * 1) (Builtin.zeroCells (Value.string ByteArray.empty).cells (n - a)).toList 0 W (by
    intro j hj
    rw [hlen] at hj
    obtain ⟨c, hcl, hM, hcc, hfr⟩ := Kd.R_elem h ByteArray.empty ((a + j / 1 : Nat) : Int) (by omega) (by omega)
    have hj3 : j % 1 < c.length := by rw [hcl]; exact Nat.mod_lt _ (by decide)
    have := hcc (j % 1) _ (List.getElem?_eq_getElem hj3)
    rw [Int.toNat_natCast] at this
    have e : a * 1 + 0 + j = (a + j / 1) * (Kd.string).sz + j % 1 := by show a * 1 + 0 + j = (a + j / 1) * 1 + j % 1; omega
    rw [e, this]; rfl) (by
    intro j hj
    rw [hlen] at hj
    obtain ⟨c, hcl, hM, hcc, hfr⟩ := Kd.R_elem h ByteArray.empty ((a + j / 1 : Nat) : Int) (by omega) (by omega)
    have := hfr (j % 1)
    rw [Int.toNat_natCast] at this
    have e : a * 1 + 0 + j = (a + j / 1) * (Kd.string).sz + j % 1 := by show a * 1 + 0 + j = (a + j / 1) * 1 + j % 1; omega
    rw [e]; exact this) (by
    intro v hv
    simp only [Builtin.zeroCells, Array.toList_map, List.mem_map] at hv
    obtain ⟨q, _, rfl⟩ := hv
    have hq : q % 1 < 1 := Nat.mod_lt _ (by decide)
    show ((#[.string ByteArray.empty] : Array Value)[q % 1]!).oneCell' = true
    rcases (show q % 1 = 0 by omega) with e <;> rw [e] <;> rfl)
  simp only [Nat.add_zero] at hst
  rw [hm] at hst ⊢
  simp only [Nat.mul_one] at hst ⊢
  simp [Builtin.clear_, run_underlying Tryd.underlying37, hz, hst]
set_option maxHeartbeats 8000000 in
set_option maxRecDepth 100000 in
theorem impl_wordsOf_delete {w0 W : World} {cap : Array Value} {p : ByteArray → Option Bool} {v : Value} {pend : List ByteArray} (AS : impl_wordsOf_asks w0 cap p) (hB : Below w0.heap.size w0 W) (RP : Kd.R Kd.string 9 W w0.heap.size (fun _ => True) v pend) (hl : pend.length ≤ 1000000000) (out : List ByteArray) (h : impl_wordsOf_go p pend = some out) :
    Calls Tryd.prog 71 #[v, .func (.func 73) #[] cap] W fun e W' => ∃ v', e = .returned v' ∧ Kd.R Kd.string 9 W' w0.heap.size (fun _ => True) v' out ∧ Below w0.heap.size w0 W' := by
 have hidx := impl_wordsOf_index AS hB RP hl
 have PP := zm RP
 have ASK := zm AS
 have HB := zm hB
 have HL := zm hl
 obtain ⟨Ao, co, rfl⟩ := Kd.R_slice RP
 rcases impl_wordsOf_go_idx p pend 0 out h with ⟨h1, rfl⟩ | ⟨i0, rest0, h1, h2, h3, rfl⟩
 ·have HX := zm (hidx (-1) h1)
  clear AS hB RP hl hidx h h1
  go_enter Tryd.func71, Tryd.ntmps71
  go_wp2_with (first
   | ((with_reducible refine gate_callee (f := 97) rfl ?_); refine goesL_ (some 10) rfl rfl Tryd.func97 (by kernel_rfl) rfl #[.slice Ao out.length co, .func (.func 73) #[] cap] rfl (by (try simp only [List.map_toArray, List.map_cons, List.map_nil]); first | done | rfl) ?_; refine HX.out.mono ?_; rintro e w2 ⟨rfl, hb⟩; refine ⟨_, rfl, ?_⟩; have HB2 := zm (below_step HB.out hb); have P2 := zm (Kd.R_below PP.out hb); clear hb))
  go_ret
  exact ⟨_, rfl, P2.out, HB2.out⟩
 ·have HX := zm (hidx _ h2)
  have H3 := zm h3
  have H1 := zm h1
  clear AS hB RP hl hidx h h1 h2 h3
  obtain ⟨gp, cp, ep, gb1, _, gc1, _⟩ := Kd.R_form PP.out (by have := H1.out; omega)
  (first | cases ep | (injection ep with ea_ en_ ec_; (first | subst ea_ | (injection ea_ with ea_; subst ea_)); subst ec_; clear en_))
  have GP := zm gb1
  have NE : ((((0 + i0 : Nat) : Int)) == -1) = false := beq_eq_false_iff_ne.2 (by omega)
  have NE2 : decide ((((0 + i0 : Nat) : Int)) = -1) = false := decide_eq_false (by omega)
  clear gb1
  go_enter Tryd.func71, Tryd.ntmps71
  go_wp2_with (first
   | ((with_reducible refine gate_callee (f := 97) rfl ?_); refine goesL_ (some 10) rfl rfl Tryd.func97 (by kernel_rfl) rfl #[.slice (some ⟨gp, 0, none⟩) pend.length co, .func (.func 73) #[] cap] rfl (by (try simp only [List.map_toArray, List.map_cons, List.map_nil]); first | done | rfl) ?_; refine HX.out.mono ?_; rintro e w2 ⟨rfl, hb⟩; refine ⟨_, rfl, ?_⟩; have HB2 := zm (below_step HB.out hb); have P2 := zm (Kd.R_below PP.out hb); clear hb))
  go_loopg [5, 6] pend.length (fun kq v5 v6 w' => ∃ (a j : Int) (dk rest : List ByteArray), v5 = .int .i64 a ∧ v6 = .int .i64 j ∧ Aside0 (0 ≤ a ∧ a < j ∧ j.toNat ≤ pend.length ∧ pend.length - j.toNat ≤ kq ∧ dk.length = pend.length) ∧ Aside0 (pend.take i0 ++ rest0 = dk.take a.toNat ++ rest ∧ dk.drop j.toNat = pend.drop j.toNat) ∧ Aside0 (impl_wordsOf_go p (pend.drop j.toNat) = some rest) ∧ Aside0 (Kd.R Kd.string 9 w' w0.heap.size (fun _ => True) (.slice (some ⟨gp, 0, none⟩) pend.length co) dk) ∧ Aside0 (Below w0.heap.size w0 w'))
  case atStart =>
   have h1 := H1.out
   have hL := HL.out
   refine ⟨(i0 : Int), ((i0 + 1 : Nat) : Int), pend, rest0, by simp, ?_, ⟨by omega, by omega, by omega, ?_, rfl⟩, ⟨by simp, rfl⟩, ⟨by simpa using H3.out⟩, P2, HB2⟩
   ·have e : wrap64 ((((0 + i0 : Nat) : Int)) + 1) = ((i0 + 1 : Nat) : Int) := by unfold wrap64; omega
    first | rw [e] | (simp only [Nat.zero_add] at e; rw [e]) | simp [e]
   ·omega
  case round =>
   try clear c1
   try clear p2
   clear HX PP H3 P2 HB2 HB
   obtain ⟨a, j, dk, rest, rfl, rfl, HM, HO, HGo, HR, HB⟩ := hrel
   by_cases hj : j < (pend.length : Int)
   ·have hd : decide (j < (pend.length : Int)) = true := decide_eq_true hj
    have h0j : 0 ≤ j := by have := HM.out; omega
    have hjp : j.toNat < pend.length := by omega
    have hjd : j.toNat < dk.length := by have := HM.out; omega
    have he : dk[j.toNat] = pend[j.toNat] ∧ dk.drop (j.toNat + 1) = pend.drop (j.toNat + 1) := by
     have := HO.out.2
     rw [List.drop_eq_getElem_cons hjd, List.drop_eq_getElem_cons hjp] at this
     injection this with e1 e2
     exact ⟨e1, e2⟩
    have h := HGo.out
    rw [List.drop_eq_getElem_cons hjp] at h
    simp only [impl_wordsOf_go] at h
    have hh := Option.bind_eq_some_iff.mp h
    clear h
    obtain ⟨b, hst, hh⟩ := hh
    have hh2 := Option.bind_eq_some_iff.mp hh
    clear hh
    obtain ⟨o1, hgo, hh⟩ := hh2
    simp only [Option.some.injEq] at hh
    have hrest := hh
    clear hh
    obtain ⟨ce, hcl, hM, hcc, hfr⟩ := Kd.R_elem HR.out ByteArray.empty j h0j hj
    obtain rfl : ce = [.string _] := hM
    obtain ⟨x, hx⟩ : ∃ x, x = rdOf ByteArray.empty dk j := ⟨_, rfl⟩
    have hxp : x = pend[j.toNat] := by rw [hx, ← he.1]; simp [rdOf, hjd]
    have hx0 : wr.cell? ⟨gp, j.toNat, none⟩ = some (.string x) := by rw [hx]; have h_ := hcc 0 _ rfl; simp only [show Kd.string.sz = 1 from rfl, Nat.mul_one, Nat.add_zero] at h_; exact h_
    clear hcl hcc hfr hx
    have ST := zm (show p x = some b from by rw [hxp]; exact hst)
    have RS := zm (show rest = if b = true then o1 else x :: o1 from by rw [hxp]; exact hrest.symm)
    have GO := zm hgo
    have HE := zm he.2
    have HJ := zm hj
    have A0 := zm (show 0 ≤ a from HM.out.1)
    have A1 := zm (show a < (pend.length : Int) from by have := HM.out; omega)
    have WJ : Aside0 (wrap64 (j + 1) = j + 1) := ⟨by unfold wrap64; have := HL.out; omega⟩
    have WA : Aside0 (wrap64 (a + 1) = a + 1) := ⟨by unfold wrap64; have := HL.out; have := HM.out; omega⟩
    have p0 := eq_true h0j
    have p1 := eq_true hj
    have p3 := eq_true A0.out
    have p4 := eq_true A1.out
    clear h0j hj hjd he hst hrest hgo hxp hjp HGo
    cases b with
    | true =>
     go_wp2_with (first
      | ((with_reducible refine gate_dst (N := 28) rfl ?_); refine goesV (some 28) rfl rfl Tryd.func73 (by kernel_rfl) rfl (#[.string x] ++ cap) rfl (cap := cap) ?hx ?hargs ?_; (case hx => rfl); (case hargs => simp [Act.eval]); refine (ASK.out wr x true HB.out ST.out).mono ?_; rintro e w6 ⟨rfl, hb⟩; refine ⟨_, rfl, ?_⟩; have R6 := zm (Kd.R_below HR.out hb); have B6 := zm (below_step HB.out hb); clear hb HR HB hx0))
     go_roundg (pend.length - (j + 1).toNat)
     case measure => have := HM.out; have := HJ.out; omega
     case rel =>
      have hm := HM.out
      have hjl := HJ.out
      refine ⟨a, j + 1, dk, o1, rfl, by rw [WJ.out], ⟨hm.1, by omega, by omega, Nat.le_refl _, hm.2.2.2.2⟩, ⟨by rw [HO.out.1, RS.out]; simp, by rw [show (j + 1).toNat = j.toNat + 1 by omega]; exact HE.out⟩, ⟨by rw [show (j + 1).toNat = j.toNat + 1 by omega]; exact GO.out⟩, ⟨Kd.R_mono R6.out (fun _ _ => trivial)⟩, B6⟩
    | false =>
     go_wp2_with (first
      | ((with_reducible refine gate_dst (N := 28) rfl ?_); refine goesV (some 28) rfl rfl Tryd.func73 (by kernel_rfl) rfl (#[.string x] ++ cap) rfl (cap := cap) ?hx ?hargs ?_; (case hx => rfl); (case hargs => simp [Act.eval]); refine (ASK.out wr x false HB.out ST.out).mono ?_; rintro e w6 ⟨rfl, hb⟩; refine ⟨_, rfl, ?_⟩; have R6 := zm (Kd.R_below HR.out hb); have B6 := zm (below_step HB.out hb); clear hb HR HB hx0; obtain ⟨ce, hcl, hM, hcc, hfr⟩ := Kd.R_elem R6.out ByteArray.empty a A0.out A1.out; obtain rfl : ce = [.string _] := hM; have hy0 := hcc 0 _ rfl; have hg0 := hfr 0; (try simp only [show Kd.string.sz = 1 from rfl, Nat.add_zero, Nat.mul_one] at hy0 hg0); have HP := zm (Kd.R_seg R6.out a A0.out A1.out (seg := [.string x]) (j := 0) hcl hcc (show 1 ≤ 1 from by decide) (x' := x) (okp := fun _ => False) rfl (fun _ hk => hk.elim)); clear hcl hcc hfr)
      | ((with_reducible refine gate_store (t := 9) (p := 33) rfl ?_); refine store_event (t := 9) (p := 33) (v := ?vo2) (w1 := (w6.setCell ⟨gp, a.toNat, none⟩ (.string x))) ?hg ?ho ?hn ?hr ?_; (case ho => rfl); (case hg => rfl); (case hn => rfl); (case hr => first | (go_simp; done) | (go_simp; rfl)); intro w7 hw; have R7 := zm (show Kd.R Kd.string 9 w7 w0.heap.size (fun _ => True) (.slice (some ⟨gp, 0, none⟩) pend.length co) (dk.set a.toNat x) from by rw [hw]; have h_ := HP.out.1; simp only [show Kd.string.sz = 1 from rfl, Nat.mul_one, Nat.add_zero] at h_; exact Kd.R_mono h_ (fun _ _ => trivial)); have B7 := zm (show Below w0.heap.size w0 w7 from by rw [hw]; exact below_set B6.out GP.out); clear hw HP R6 B6 hy0 hg0))
     go_roundg (pend.length - (j + 1).toNat)
     case measure => have := HM.out; have := HJ.out; omega
     case rel =>
      have hm := HM.out
      have hjl := HJ.out
      refine ⟨a + 1, j + 1, dk.set a.toNat x, o1, by rw [WA.out], by rw [WJ.out], ⟨by omega, by omega, by omega, Nat.le_refl _, by rw [List.length_set]; exact hm.2.2.2.2⟩, ⟨?_, ?_⟩, ⟨by rw [show (j + 1).toNat = j.toNat + 1 by omega]; exact GO.out⟩, R7, B7⟩
      ·rw [HO.out.1, RS.out, show (a + 1).toNat = a.toNat + 1 by omega, List.take_succ_eq_append_getElem (by rw [List.length_set]; omega), List.getElem_set_self, List.take_set_of_le (Nat.le_refl _)]
       simp
      ·rw [show (j + 1).toNat = j.toNat + 1 by omega, List.drop_set_of_lt (by omega)]; exact HE.out
   ·have hd : decide (j < (pend.length : Int)) = false := decide_eq_false hj
    have ej : j.toNat = pend.length := by have := HM.out; omega
    have h := HGo.out
    rw [ej, List.drop_of_length_le (Nat.le_refl _)] at h
    simp only [impl_wordsOf_go, Option.some.injEq] at h
    have HOUT := zm (show pend.take i0 ++ rest0 = dk.take a.toNat from by rw [HO.out.1, ← h, List.append_nil])
    have A0 := zm (show 0 ≤ a from HM.out.1)
    have A1 := zm (show a.toNat < pend.length from by have := HM.out; omega)
    obtain ⟨vs, hclr⟩ := impl_wordsOf_clear HR.out a.toNat A1.out (co - a.toNat) 0
    simp only [Nat.mul_one] at hclr
    clear h ej hj HGo HO
    have hco : pend.length ≤ co := (Kd.R_reads' HR.out).2.1
    have n1 : (co = a.toNat) = False := eq_false (by have := A1.out; omega)
    have n2 : (a.toNat = co) = False := eq_false (by have := A1.out; omega)
    have n3 : ¬ co = a.toNat := by have := A1.out; omega
    have p3 := eq_true A0.out
    have p4 : (a ≤ (pend.length : Int)) = True := eq_true (by have := A1.out; omega)
    have p5 : (a.toNat ≤ pend.length) = True := eq_true (by have := A1.out; omega)
    have p6 : (a.toNat ≤ co) = True := eq_true (by have := A1.out; omega)
    have p7 : ((co : Int) < a) = False := eq_false (by have := A1.out; omega)
    have p8 : (a ≤ (co : Int)) = True := eq_true (by have := A1.out; omega)
    go_wp2
    go_ret
    refine ⟨_, rfl, ?_, impl_wordsOf_bel GP.out vs _ _ HB.out⟩
    rw [HOUT.out]
    exact impl_wordsOf_cut (Kd.R_take HR.out (by have := HM.out; omega)) vs _ (by first | exact Nat.le_refl _ | exact Nat.le_of_eq (Nat.mul_one _))
def impl_wordsOf_ps (a0 : ByteArray) : List ByteArray := Lib.splitB (⟨#[32]⟩ : ByteArray) 0 (Lib.countB a0 (⟨#[32]⟩ : ByteArray)) a0
def impl_wordsOf.f (a0 : ByteArray) : Option (List ByteArray) := if a0.size ≤ 1000000 then impl_wordsOf_go (fun x => impl_wordsOf_1.f x) (impl_wordsOf_ps a0) else none
theorem Reps_map {w : World} {base : Nat} {ok : Nat → Prop} : ∀ l : List ByteArray, Reps (Kd.string.M w base ok) 1 l (l.map Value.string)
 | [] => Reps.none _ _
 | x :: r => Reps.one (show Kd.M Kd.string _ _ _ x [.string x] from rfl) (Reps_map r)
theorem impl_wordsOf_row (w : World) (a0 : ByteArray) (hn : (impl_wordsOf_ps a0).length = Lib.countB a0 (⟨#[32]⟩ : ByteArray) + 1) (hl : (impl_wordsOf_ps a0).length ≤ 1000001) :
 Kd.R Kd.string 9 (w.alloc (.cells ((impl_wordsOf_ps a0).map Value.string).toArray 9)) w.heap.size (fun _ => True) (.slice (some ⟨w.heap.size, 0, none⟩) (Lib.countB a0 (⟨#[32]⟩ : ByteArray) + 1) (Lib.countB a0 (⟨#[32]⟩ : ByteArray) + 1)) (impl_wordsOf_ps a0) := by
 rw [← hn]
 have h2 := World.ownsRow_lit (base := w.heap.size) (e := 9) (size := 1) w ((impl_wordsOf_ps a0).map Value.string).toArray (impl_wordsOf_ps a0).length (Nat.le_refl _) (by have : maxLen = 9223372036854775807 := rfl; omega) (by simp)
 refine ⟨fun _ _ => trivial, (impl_wordsOf_ps a0).map Value.string, by simp at h2; exact h2, ?_⟩
 exact Reps_map (impl_wordsOf_ps a0)
theorem impl_wordsOf.calls (a0 : ByteArray) (r : List ByteArray) (w : World) (h : impl_wordsOf.f a0 = some r) (HTB_ : TrydTab w := by first | exact HTB_ | exact TrydTab.to HTB_ HB.out | exact TrydTab.to HTB_ (by repeat (first | exact HB.out | apply below_alloc | apply pw_below_drewN | apply below_drew1 | refine below_set ?_ (Aside0.out (by assumption))))) :
 Calls Tryd.prog 33 #[.string a0] w fun e w' => ∃ v : Value, e = .returned v ∧ Kd.R Kd.string 9 w' w.heap.size (fun _ => True) v r ∧ Below w.heap.size w w' := by
 unfold impl_wordsOf.f at h
 by_cases hs : a0.size ≤ 1000000
 ·rw [if_pos hs] at h
  have H := zm h
  have HS := zm hs
  have h1 : 1 ≤ (⟨#[32]⟩ : ByteArray).size := by decide
  have hlen := Lib.splitB_all (⟨#[32]⟩ : ByteArray) h1 0 _ a0 rfl
  have hle := Lib.countB_le (⟨#[32]⟩ : ByteArray) h1 a0.size a0 (Nat.le_refl _)
  have HN := zm (show (impl_wordsOf_ps a0).length = Lib.countB a0 (⟨#[32]⟩ : ByteArray) + 1 from hlen)
  have HL := zm (show (impl_wordsOf_ps a0).length ≤ 1000001 by rw [HN.out]; omega)
  obtain ⟨m, hm⟩ := HTB_.2.1
  have HM := zm hm
  have AS : impl_wordsOf_asks w #[] (fun x => impl_wordsOf_1.f x) := fun W x b hb hp => (impl_wordsOf_1.calls x b W hp).mono (fun e w' hh => ⟨hh.1, hh.2.below⟩)
  have ASK := zm AS
  clear h hs hlen hle hm AS h1
  go_enter Tryd.func33, Tryd.ntmps33
  go_wp2_with (first
   | ((with_reducible refine gate_callee (f := 72) rfl ?_); refine goesL_ (some 4) rfl rfl Tryd.func72 (by kernel_rfl) rfl #[.string a0, .string (⟨#[32]⟩ : ByteArray)] rfl (by (try simp only [List.map_toArray, List.map_cons, List.map_nil]); first | done | rfl) ?_; refine (Any.strings_Split Tryd.laysSplit (by kernel_rfl) a0 (⟨#[32]⟩ : ByteArray) m _ (by have := HS.out; omega) HM.out (by decide)).mono ?_; rintro e w2 ⟨rfl, hw⟩; refine ⟨_, rfl, ?_⟩; have R2 := zm (show Kd.R Kd.string 9 w2 w.heap.size (fun _ => True) (.slice (some ⟨w.heap.size, 0, none⟩) (Lib.countB a0 (⟨#[32]⟩ : ByteArray) + 1) (Lib.countB a0 (⟨#[32]⟩ : ByteArray) + 1)) (impl_wordsOf_ps a0) from by rw [hw]; exact impl_wordsOf_row w a0 HN.out HL.out); have B2 := zm (show Below w.heap.size w w2 from by rw [hw]; exact below_alloc (Below.refl _ _) _); clear hw)
   | ((with_reducible refine gate_callee (f := 71) rfl ?_); refine goesL_ (some 5) rfl rfl Tryd.func71 (by kernel_rfl) rfl #[.slice (some ⟨w.heap.size, 0, none⟩) (Lib.countB a0 (⟨#[32]⟩ : ByteArray) + 1) (Lib.countB a0 (⟨#[32]⟩ : ByteArray) + 1), .func (.func 73) #[] #[]] rfl (by (try simp only [List.map_toArray, List.map_cons, List.map_nil]); first | done | rfl) ?_; refine (impl_wordsOf_delete ASK.out B2.out R2.out (by have := HL.out; omega) r H.out).mono ?_; rintro e w3 ⟨v', rfl, hR, hb⟩; refine ⟨_, rfl, ?_⟩; have R3 := zm hR; have B3 := zm hb; clear hR hb))
  go_ret
  exact ⟨_, rfl, R3.out, B3.out⟩
 ·rw [if_neg hs] at h; cases h
/-! ### impl_ReadReq: function 9 -/
def impl_ReadReq.f (k : Nat) (a0 : ByteArray) : Option (Int × Int × Int × ByteArray × Int) := (impl_isLongText.f a0).bind fun t219 => (if t219 = true then (some (0, 0, 0, (⟨#[]⟩ : ByteArray), 2)) else ((impl_wordsOf.f a0).bind fun t220 => ((impl_reqOf.f k t220).bind fun bt223 => (if bt223.2.2.2.2 = true then (some (bt223.1, bt223.2.1, bt223.2.2.1, bt223.2.2.2.1, 0)) else (some (0, 0, 0, (⟨#[]⟩ : ByteArray), 3))))))
theorem impl_ReadReq.mono : ∀ a0 k, LeO (impl_ReadReq.f k a0) (impl_ReadReq.f (k + 1) a0) := by
  intro a0 k
  unfold impl_ReadReq.f
  repeat' first
      | (with_reducible exact impl_reqOf.mono _ _)
      | (with_reducible exact LeO.refl _)
      | (with_reducible exact LeO.none _)
      | (with_reducible refine LeO.ite ?_ ?_)
      | (with_reducible refine LeO.bind ?_ (fun _ => ?_))
      | exact impl_reqOf.mono _ _
      | exact LeO.none _
      | refine LeO.ite ?_ ?_
      | refine LeO.bind ?_ (fun _ => ?_)
set_option maxHeartbeats 8000000 in
set_option maxRecDepth 100000 in
theorem impl_ReadReq.calls (k : Nat) (a0 : ByteArray) (r1 : Int) (r2 : Int) (r3 : Int) (r4 : ByteArray) (r5 : Int) (w : World) (h : impl_ReadReq.f k a0 = some (r1, r2, r3, r4, r5)) (HTB_ : TrydTab w := by first | exact HTB_ | exact TrydTab.to HTB_ HB.out | exact TrydTab.to HTB_ (by repeat (first | exact HB.out | apply below_alloc | apply pw_below_drewN | apply below_drew1 | refine below_set ?_ (Aside0.out (by assumption))))) :
    Calls Tryd.prog 9 #[.string a0] w fun e w' => e = .returned (.tuple #[.agg #[.int .i64 r1, .int .i64 r2, .int .i64 r3, .string r4], .int .i64 r5]) ∧ Below w.heap.size w w' := by
 have hu23 := Tryd.underlying23
 have HB := zm (Below.refl w.heap.size w)
 have H : ((impl_isLongText.f a0).bind fun t219 => (if t219 = true then (some (0, 0, 0, (⟨#[]⟩ : ByteArray), 2)) else ((impl_wordsOf.f a0).bind fun t220 => ((impl_reqOf.f k t220).bind fun bt223 => (if bt223.2.2.2.2 = true then (some (bt223.1, bt223.2.1, bt223.2.2.1, bt223.2.2.2.1, 0)) else (some (0, 0, 0, (⟨#[]⟩ : ByteArray), 3))))))) = some (r1, r2, r3, r4, r5) := h
 clear h
 replace H := Option.bind_eq_some_iff.mp H
 obtain ⟨t219, A20, H⟩ := H
 replace H : (if t219 = true then (some (0, 0, 0, (⟨#[]⟩ : ByteArray), 2)) else ((impl_wordsOf.f a0).bind fun t220 => ((impl_reqOf.f k t220).bind fun bt223 => (if bt223.2.2.2.2 = true then (some (bt223.1, bt223.2.1, bt223.2.2.1, bt223.2.2.2.1, 0)) else (some (0, 0, 0, (⟨#[]⟩ : ByteArray), 3)))))) = some (r1, r2, r3, r4, r5) := H
 have A2 := zm A20
 clear A20
 by_cases c3 : t219 = true
 ·subst c3
  have H1 : (some (0, 0, 0, (⟨#[]⟩ : ByteArray), 2)) = some (r1, r2, r3, r4, r5) := by rw [if_pos rfl] at H; exact H
  clear H
  have H := H1
  clear H1
  simp only [Option.some.injEq, Prod.mk.injEq] at H
  obtain ⟨rfl, rfl, rfl, rfl, rfl⟩ := H
  go_enter Tryd.func9, Tryd.ntmps9
  go_wp2_with (first | ((with_reducible refine gate_dst (N := 2) rfl ?_); refine box_event ?hg (N := 2) ?hd (cs := #[.int .i64 0, .int .i64 0, .int .i64 0, .string (⟨#[]⟩ : ByteArray)]) (t := 23) ?hr ?_; (case hd => rfl); (case hg => rfl); (case hr => first | (go_simp; done) | (go_simp; rfl)); intro gb218 hg w4 hbox hb; have n0_ := zm (below_step (zg_0 HB.out) hb); have n1_ := zm (hbox); have n2_ := zm ((by rw [hg]; exact (below_size (zg_0 HB.out)) : w.heap.size ≤ gb218)); have n3_ := zm ((by rw [hg]; exact (below_size (zg_0 HB.out)) : w.heap.size ≤ gb218)); clear HB; have HB := n0_; have Za := n1_; have Zh := n2_; have Zc := n3_; clear n0_ n1_ n2_ n3_; clear hb hbox hg) | ((with_reducible refine gate_callee (f := 31) rfl ?_); refine goesL_ (some 7) rfl rfl Tryd.func31 (by kernel_rfl) rfl #[.string a0] rfl zq ?_; (with_reducible refine (impl_isLongText.calls a0 true _ A2.out).mono ?_); rintro e w' ⟨rfl, ⟨nd, rfl⟩⟩; refine ⟨_, rfl, ?_⟩; (try (rw [drewN_self w4]; generalize hq_ : World.drewN w4 _ = w4; have n0_ : Aside0 (w4.heap[gb218]? = some (.cells #[.int .i64 0, .int .i64 0, .int .i64 0, .string (⟨#[]⟩ : ByteArray)] 23 (0, 0))) := ⟨by rw [← hq_]; exact (zg_1 Za.out)⟩; have n1_ : Aside0 (Below w.heap.size w w4) := ⟨by rw [← hq_]; exact (zg_2 HB.out Zc.out)⟩; clear Za HB hq_; have Za := n0_; have HB := n1_; clear n0_ n1_)); have hcz5_0 : w4.cell? ⟨gb218, 0, none⟩ = some (.int .i64 0) := (blk_cell Za.out 0).trans rfl; have hcz5_1 : w4.cell? ⟨gb218, 1, none⟩ = some (.int .i64 0) := (blk_cell Za.out 1).trans rfl; have hcz5_2 : w4.cell? ⟨gb218, 2, none⟩ = some (.int .i64 0) := (blk_cell Za.out 2).trans rfl; have hcz5_3 : w4.cell? ⟨gb218, 3, none⟩ = some (.string (⟨#[]⟩ : ByteArray)) := (blk_cell Za.out 3).trans rfl; have hfz5_0 := blk_frozen Za.out 0; have hfz5_1 := blk_frozen Za.out 1; have hfz5_2 := blk_frozen Za.out 2; have hfz5_3 := blk_frozen Za.out 3))
  refine bodyPost_ret (results_ct rfl _ _ gb218 23 #[.int .i64 0, .int .i64 0, .int .i64 0, .string (⟨#[]⟩ : ByteArray)] (0, 0) _ rfl (by (with_reducible repeat (first | refine blk_drewN ?_ _ | refine blk_drew ?_ | refine blk_alloc ?_ _)); refine blk_put (cs := #[.int .i64 0, .int .i64 0, .int .i64 0, .string (⟨#[]⟩ : ByteArray)]) ?_ 3 _ rfl; (with_reducible repeat (first | refine blk_drewN ?_ _ | refine blk_drew ?_ | refine blk_alloc ?_ _)); refine blk_put (cs := #[.int .i64 0, .int .i64 0, .int .i64 0, .string (⟨#[]⟩ : ByteArray)]) ?_ 2 _ rfl; (with_reducible repeat (first | refine blk_drewN ?_ _ | refine blk_drew ?_ | refine blk_alloc ?_ _)); refine blk_put (cs := #[.int .i64 0, .int .i64 0, .int .i64 0, .string (⟨#[]⟩ : ByteArray)]) ?_ 1 _ rfl; (with_reducible repeat (first | refine blk_drewN ?_ _ | refine blk_drew ?_ | refine blk_alloc ?_ _)); refine blk_put (cs := #[.int .i64 0, .int .i64 0, .int .i64 0, .string (⟨#[]⟩ : ByteArray)]) ?_ 0 _ rfl; (with_reducible repeat (first | refine blk_drewN ?_ _ | refine blk_drew ?_ | refine blk_alloc ?_ _)); exact Za.out) Tryd.underlying23 rfl (by kernel_rfl)) rfl ?_
  exact ⟨by first | rfl | (simp [errW_none, errW_some] <;> rfl) | (simp [*, errW_none, errW_some] <;> rfl), zg_2 HB.out Zc.out⟩
 ·replace c3 := Bool.eq_false_iff.mpr c3
  subst c3
  have H1 : ((impl_wordsOf.f a0).bind fun t220 => ((impl_reqOf.f k t220).bind fun bt223 => (if bt223.2.2.2.2 = true then (some (bt223.1, bt223.2.1, bt223.2.2.1, bt223.2.2.2.1, 0)) else (some (0, 0, 0, (⟨#[]⟩ : ByteArray), 3))))) = some (r1, r2, r3, r4, r5) := by rw [if_neg (show ¬ (false = true) by decide)] at H; exact H
  clear H
  have H := H1
  clear H1
  replace H := Option.bind_eq_some_iff.mp H
  obtain ⟨t220, A60, H⟩ := H
  replace H : ((impl_reqOf.f k t220).bind fun bt223 => (if bt223.2.2.2.2 = true then (some (bt223.1, bt223.2.1, bt223.2.2.1, bt223.2.2.2.1, 0)) else (some (0, 0, 0, (⟨#[]⟩ : ByteArray), 3)))) = some (r1, r2, r3, r4, r5) := H
  have A6 := zm A60
  clear A60
  replace H := Option.bind_eq_some_iff.mp H
  obtain ⟨⟨t223, t224, t225, t226, t227⟩, A70, H⟩ := H
  replace H : (if t227 = true then (some (t223, t224, t225, t226, 0)) else (some (0, 0, 0, (⟨#[]⟩ : ByteArray), 3))) = some (r1, r2, r3, r4, r5) := H
  have A7 := zm A70
  clear A70
  by_cases c8 : t227 = true
  ·subst c8
   have H1 : (some (t223, t224, t225, t226, 0)) = some (r1, r2, r3, r4, r5) := by rw [if_pos rfl] at H; exact H
   clear H
   have H := H1
   clear H1
   simp only [Option.some.injEq, Prod.mk.injEq] at H
   obtain ⟨rfl, rfl, rfl, rfl, rfl⟩ := H
   go_enter Tryd.func9, Tryd.ntmps9
   go_wp2_with (first | ((with_reducible refine gate_dst (N := 2) rfl ?_); refine box_event ?hg (N := 2) ?hd (cs := #[.int .i64 0, .int .i64 0, .int .i64 0, .string (⟨#[]⟩ : ByteArray)]) (t := 23) ?hr ?_; (case hd => rfl); (case hg => rfl); (case hr => first | (go_simp; done) | (go_simp; rfl)); intro gb218 hg w9 hbox hb; have n0_ := zm (below_step (zg_0 HB.out) hb); have n1_ := zm (hbox); have n2_ := zm ((by rw [hg]; exact (below_size (zg_0 HB.out)) : w.heap.size ≤ gb218)); have n3_ := zm ((by rw [hg]; exact (below_size (zg_0 HB.out)) : w.heap.size ≤ gb218)); clear HB; have HB := n0_; have Za := n1_; have Zh := n2_; have Zc := n3_; clear n0_ n1_ n2_ n3_; clear hb hbox hg) | ((with_reducible refine gate_callee (f := 31) rfl ?_); refine goesL_ (some 7) rfl rfl Tryd.func31 (by kernel_rfl) rfl #[.string a0] rfl zq ?_; (with_reducible refine (impl_isLongText.calls a0 false _ A2.out).mono ?_); rintro e w' ⟨rfl, ⟨nd, rfl⟩⟩; refine ⟨_, rfl, ?_⟩; (try (rw [drewN_self w9]; generalize hq_ : World.drewN w9 _ = w9; have n0_ : Aside0 (w9.heap[gb218]? = some (.cells #[.int .i64 0, .int .i64 0, .int .i64 0, .string (⟨#[]⟩ : ByteArray)] 23 (0, 0))) := ⟨by rw [← hq_]; exact (zg_1 Za.out)⟩; have n1_ : Aside0 (Below w.heap.size w w9) := ⟨by rw [← hq_]; exact (zg_2 HB.out Zc.out)⟩; clear Za HB hq_; have Za := n0_; have HB := n1_; clear n0_ n1_))) | ((with_reducible refine gate_callee (f := 33) rfl ?_); refine goesL_ (some 11) rfl rfl Tryd.func33 (by kernel_rfl) rfl #[.string a0] rfl zq ?_; (with_reducible refine (impl_wordsOf.calls a0 t220 _ A6.out).mono ?_); rintro e w10 ⟨v221, rfl, ho0, hb⟩; refine ⟨_, rfl, ?_⟩; have n0_ := zm (Kd.R_lower ho0 (below_size (zg_2 HB.out Zc.out))); have n1_ := zm (blk_below (g := gb218) (o := .cells #[.int .i64 0, .int .i64 0, .int .i64 0, .string (⟨#[]⟩ : ByteArray)] 23 (0, 0)) (zg_1 Za.out) hb); have n2_ := zm (below_step (zg_2 HB.out Zc.out) hb); clear Za; clear HB; have Zd := n0_; have Za := n1_; have HB := n2_; clear n0_ n1_ n2_; (try clear hb); (try clear hb2); (try clear hk); (try clear hi); (try clear ho0); obtain ⟨Ao11, co11, eo11⟩ := Kd.R_slice Zd.out; subst eo11) | ((with_reducible refine gate_callee (f := 32) rfl ?_); refine goesL_ (some 12) rfl rfl Tryd.func32 (by kernel_rfl) rfl #[.slice Ao11 t220.length co11] rfl zq ?_; (with_reducible refine (impl_reqOf.calls k _ _ t220 t223 t224 t225 t226 true _ ?side1 ?side2 A7.out).mono ?_); (case side1 => exact zC ((Kd.R_reads' Zd.out).2.2)); (case side2 => exact (Kd.R_reads' Zd.out).2.1); rintro e w12 ⟨rfl, hb⟩; refine ⟨_, rfl, ?_⟩; have n0_ := zm (Kd.R_below (zg_4 Zd.out) hb); have n1_ := zm (blk_below (g := gb218) (o := .cells #[.int .i64 0, .int .i64 0, .int .i64 0, .string (⟨#[]⟩ : ByteArray)] 23 (0, 0)) (zg_1 Za.out) hb); have n2_ := zm (below_step (zg_2 HB.out Zc.out) hb); clear Zd; clear Za; clear HB; have Zd := n0_; have Za := n1_; have HB := n2_; clear n0_ n1_ n2_; (try clear hb); (try clear hb2); (try clear hk); (try clear hi)) | ((with_reducible refine gate_dst (N := 4) rfl ?_); refine box_event ?hg (N := 4) ?hd (cs := #[.int .i64 0, .int .i64 0, .int .i64 0, .string (⟨#[]⟩ : ByteArray)]) (t := 23) ?hr ?_; (case hd => rfl); (case hg => rfl); (case hr => first | (go_simp; done) | (go_simp; rfl)); intro gb228 hg w13 hbox hb; have n0_ := zm (Kd.R_below (zg_4 Zd.out) hb); have n1_ := zm (blk_below (g := gb218) (o := .cells #[.int .i64 0, .int .i64 0, .int .i64 0, .string (⟨#[]⟩ : ByteArray)] 23 (0, 0)) (zg_1 Za.out) hb); have n2_ := zm (below_step (zg_2 HB.out Zc.out) hb); have n3_ := zm (hbox); have n4_ := zm ((by rw [hg]; exact (below_size (zg_2 HB.out Zc.out)) : w.heap.size ≤ gb228)); have n5_ := zm ((by rw [hg]; exact (below_size (zg_2 HB.out Zc.out)) : w.heap.size ≤ gb228)); have n6_ := zm ((by rw [hg]; exact Nat.ne_of_lt (blk_lt (g := gb218) (o := .cells #[.int .i64 0, .int .i64 0, .int .i64 0, .string (⟨#[]⟩ : ByteArray)] 23 (0, 0)) (zg_1 Za.out)) : gb218 ≠ gb228)); have n7_ := zm ((by rw [hg]; exact Nat.ne_of_gt (blk_lt (g := gb218) (o := .cells #[.int .i64 0, .int .i64 0, .int .i64 0, .string (⟨#[]⟩ : ByteArray)] 23 (0, 0)) (zg_1 Za.out)) : gb228 ≠ gb218)); clear Zd; clear Za; clear HB; have Zd := n0_; have Za := n1_; have HB := n2_; have Ze := n3_; have Zi := n4_; have Zg := n5_; have Zb := n6_; have Zf := n7_; clear n0_ n1_ n2_ n3_ n4_ n5_ n6_ n7_; clear hb hbox hg; have hnb14 := Zf.out; have hnc14 := Zb.out; have hcz15_0 : w13.cell? ⟨gb228, 0, none⟩ = some (.int .i64 0) := (blk_cell Ze.out 0).trans rfl; have hcz15_1 : w13.cell? ⟨gb228, 1, none⟩ = some (.int .i64 0) := (blk_cell Ze.out 1).trans rfl; have hcz15_2 : w13.cell? ⟨gb228, 2, none⟩ = some (.int .i64 0) := (blk_cell Ze.out 2).trans rfl; have hcz15_3 : w13.cell? ⟨gb228, 3, none⟩ = some (.string (⟨#[]⟩ : ByteArray)) := (blk_cell Ze.out 3).trans rfl; have hfz15_0 := blk_frozen Ze.out 0; have hfz15_1 := blk_frozen Ze.out 1; have hfz15_2 := blk_frozen Ze.out 2; have hfz15_3 := blk_frozen Ze.out 3; have hcz16_0 : w13.cell? ⟨gb218, 0, none⟩ = some (.int .i64 0) := (blk_cell Za.out 0).trans rfl; have hcz16_1 : w13.cell? ⟨gb218, 1, none⟩ = some (.int .i64 0) := (blk_cell Za.out 1).trans rfl; have hcz16_2 : w13.cell? ⟨gb218, 2, none⟩ = some (.int .i64 0) := (blk_cell Za.out 2).trans rfl; have hcz16_3 : w13.cell? ⟨gb218, 3, none⟩ = some (.string (⟨#[]⟩ : ByteArray)) := (blk_cell Za.out 3).trans rfl; have hfz16_0 := blk_frozen Za.out 0; have hfz16_1 := blk_frozen Za.out 1; have hfz16_2 := blk_frozen Za.out 2; have hfz16_3 := blk_frozen Za.out 3))
   refine bodyPost_ret (results_ct rfl _ _ gb218 23 #[.int .i64 t223, .int .i64 t224, .int .i64 t225, .string t226] (0, 0) _ rfl (by (with_reducible repeat (first | refine blk_drewN ?_ _ | refine blk_drew ?_ | refine blk_alloc ?_ _)); refine blk_put (cs := #[.int .i64 t223, .int .i64 t224, .int .i64 t225, .string (⟨#[]⟩ : ByteArray)]) ?_ 3 _ rfl; (with_reducible repeat (first | refine blk_drewN ?_ _ | refine blk_drew ?_ | refine blk_alloc ?_ _)); refine blk_put (cs := #[.int .i64 t223, .int .i64 t224, .int .i64 0, .string (⟨#[]⟩ : ByteArray)]) ?_ 2 _ rfl; (with_reducible repeat (first | refine blk_drewN ?_ _ | refine blk_drew ?_ | refine blk_alloc ?_ _)); refine blk_put (cs := #[.int .i64 t223, .int .i64 0, .int .i64 0, .string (⟨#[]⟩ : ByteArray)]) ?_ 1 _ rfl; (with_reducible repeat (first | refine blk_drewN ?_ _ | refine blk_drew ?_ | refine blk_alloc ?_ _)); refine blk_put (cs := #[.int .i64 0, .int .i64 0, .int .i64 0, .string (⟨#[]⟩ : ByteArray)]) ?_ 0 _ rfl; (with_reducible repeat (first | refine blk_drewN ?_ _ | refine blk_drew ?_ | refine blk_alloc ?_ _)); refine blk_far ?_ Zb.out _; (with_reducible repeat (first | refine blk_drewN ?_ _ | refine blk_drew ?_ | refine blk_alloc ?_ _)); refine blk_far ?_ Zb.out _; (with_reducible repeat (first | refine blk_drewN ?_ _ | refine blk_drew ?_ | refine blk_alloc ?_ _)); refine blk_far ?_ Zb.out _; (with_reducible repeat (first | refine blk_drewN ?_ _ | refine blk_drew ?_ | refine blk_alloc ?_ _)); refine blk_far ?_ Zb.out _; (with_reducible repeat (first | refine blk_drewN ?_ _ | refine blk_drew ?_ | refine blk_alloc ?_ _)); exact Za.out) Tryd.underlying23 rfl (by kernel_rfl)) rfl ?_
   exact ⟨by first | rfl | (simp [errW_none, errW_some] <;> rfl) | (simp [*, errW_none, errW_some] <;> rfl), zg_3 HB.out Zc.out Zg.out⟩
  ·replace c8 := Bool.eq_false_iff.mpr c8
   subst c8
   have H1 : (some (0, 0, 0, (⟨#[]⟩ : ByteArray), 3)) = some (r1, r2, r3, r4, r5) := by rw [if_neg (show ¬ (false = true) by decide)] at H; exact H
   clear H
   have H := H1
   clear H1
   simp only [Option.some.injEq, Prod.mk.injEq] at H
   obtain ⟨rfl, rfl, rfl, rfl, rfl⟩ := H
   go_enter Tryd.func9, Tryd.ntmps9
   go_wp2_with (first | ((with_reducible refine gate_dst (N := 2) rfl ?_); refine box_event ?hg (N := 2) ?hd (cs := #[.int .i64 0, .int .i64 0, .int .i64 0, .string (⟨#[]⟩ : ByteArray)]) (t := 23) ?hr ?_; (case hd => rfl); (case hg => rfl); (case hr => first | (go_simp; done) | (go_simp; rfl)); intro gb218 hg w17 hbox hb; have n0_ := zm (below_step (zg_0 HB.out) hb); have n1_ := zm (hbox); have n2_ := zm ((by rw [hg]; exact (below_size (zg_0 HB.out)) : w.heap.size ≤ gb218)); have n3_ := zm ((by rw [hg]; exact (below_size (zg_0 HB.out)) : w.heap.size ≤ gb218)); clear HB; have HB := n0_; have Za := n1_; have Zh := n2_; have Zc := n3_; clear n0_ n1_ n2_ n3_; clear hb hbox hg) | ((with_reducible refine gate_callee (f := 31) rfl ?_); refine goesL_ (some 7) rfl rfl Tryd.func31 (by kernel_rfl) rfl #[.string a0] rfl zq ?_; (with_reducible refine (impl_isLongText.calls a0 false _ A2.out).mono ?_); rintro e w' ⟨rfl, ⟨nd, rfl⟩⟩; refine ⟨_, rfl, ?_⟩; (try (rw [drewN_self w17]; generalize hq_ : World.drewN w17 _ = w17; have n0_ : Aside0 (w17.heap[gb218]? = some (.cells #[.int .i64 0, .int .i64 0, .int .i64 0, .string (⟨#[]⟩ : ByteArray)] 23 (0, 0))) := ⟨by rw [← hq_]; exact (zg_1 Za.out)⟩; have n1_ : Aside0 (Below w.heap.size w w17) := ⟨by rw [← hq_]; exact (zg_2 HB.out Zc.out)⟩; clear Za HB hq_; have Za := n0_; have HB := n1_; clear n0_ n1_))) | ((with_reducible refine gate_callee (f := 33) rfl ?_); refine goesL_ (some 11) rfl rfl Tryd.func33 (by kernel_rfl) rfl #[.string a0] rfl zq ?_; (with_reducible refine (impl_wordsOf.calls a0 t220 _ A6.out).mono ?_); rintro e w18 ⟨v221, rfl, ho0, hb⟩; refine ⟨_, rfl, ?_⟩; have n0_ := zm (Kd.R_lower ho0 (below_size (zg_2 HB.out Zc.out))); have n1_ := zm (blk_below (g := gb218) (o := .cells #[.int .i64 0, .int .i64 0, .int .i64 0, .string (⟨#[]⟩ : ByteArray)] 23 (0, 0)) (zg_1 Za.out) hb); have n2_ := zm (below_step (zg_2 HB.out Zc.out) hb); clear Za; clear HB; have Zd := n0_; have Za := n1_; have HB := n2_; clear n0_ n1_ n2_; (try clear hb); (try clear hb2); (try clear hk); (try clear hi); (try clear ho0); obtain ⟨Ao19, co19, eo19⟩ := Kd.R_slice Zd.out; subst eo19) | ((with_reducible refine gate_callee (f := 32) rfl ?_); refine goesL_ (some 12) rfl rfl Tryd.func32 (by kernel_rfl) rfl #[.slice Ao19 t220.length co19] rfl zq ?_; (with_reducible refine (impl_reqOf.calls k _ _ t220 t223 t224 t225 t226 false _ ?side1 ?side2 A7.out).mono ?_); (case side1 => exact zC ((Kd.R_reads' Zd.out).2.2)); (case side2 => exact (Kd.R_reads' Zd.out).2.1); rintro e w20 ⟨rfl, hb⟩; refine ⟨_, rfl, ?_⟩; have n0_ := zm (Kd.R_below (zg_4 Zd.out) hb); have n1_ := zm (blk_below (g := gb218) (o := .cells #[.int .i64 0, .int .i64 0, .int .i64 0, .string (⟨#[]⟩ : ByteArray)] 23 (0, 0)) (zg_1 Za.out) hb); have n2_ := zm (below_step (zg_2 HB.out Zc.out) hb); clear Zd; clear Za; clear HB; have Zd := n0_; have Za := n1_; have HB := n2_; clear n0_ n1_ n2_; (try clear hb); (try clear hb2); (try clear hk); (try clear hi)) | ((with_reducible refine gate_dst (N := 4) rfl ?_); refine box_event ?hg (N := 4) ?hd (cs := #[.int .i64 0, .int .i64 0, .int .i64 0, .string (⟨#[]⟩ : ByteArray)]) (t := 23) ?hr ?_; (case hd => rfl); (case hg => rfl); (case hr => first | (go_simp; done) | (go_simp; rfl)); intro gb228 hg w21 hbox hb; have n0_ := zm (Kd.R_below (zg_4 Zd.out) hb); have n1_ := zm (blk_below (g := gb218) (o := .cells #[.int .i64 0, .int .i64 0, .int .i64 0, .string (⟨#[]⟩ : ByteArray)] 23 (0, 0)) (zg_1 Za.out) hb); have n2_ := zm (below_step (zg_2 HB.out Zc.out) hb); have n3_ := zm (hbox); have n4_ := zm ((by rw [hg]; exact (below_size (zg_2 HB.out Zc.out)) : w.heap.size ≤ gb228)); have n5_ := zm ((by rw [hg]; exact (below_size (zg_2 HB.out Zc.out)) : w.heap.size ≤ gb228)); have n6_ := zm ((by rw [hg]; exact Nat.ne_of_lt (blk_lt (g := gb218) (o := .cells #[.int .i64 0, .int .i64 0, .int .i64 0, .string (⟨#[]⟩ : ByteArray)] 23 (0, 0)) (zg_1 Za.out)) : gb218 ≠ gb228)); have n7_ := zm ((by rw [hg]; exact Nat.ne_of_gt (blk_lt (g := gb218) (o := .cells #[.int .i64 0, .int .i64 0, .int .i64 0, .string (⟨#[]⟩ : ByteArray)] 23 (0, 0)) (zg_1 Za.out)) : gb228 ≠ gb218)); clear Zd; clear Za; clear HB; have Zd := n0_; have Za := n1_; have HB := n2_; have Ze := n3_; have Zi := n4_; have Zg := n5_; have Zb := n6_; have Zf := n7_; clear n0_ n1_ n2_ n3_ n4_ n5_ n6_ n7_; clear hb hbox hg; have hnb22 := Zf.out; have hnc22 := Zb.out; have hcz23_0 : w21.cell? ⟨gb228, 0, none⟩ = some (.int .i64 0) := (blk_cell Ze.out 0).trans rfl; have hcz23_1 : w21.cell? ⟨gb228, 1, none⟩ = some (.int .i64 0) := (blk_cell Ze.out 1).trans rfl; have hcz23_2 : w21.cell? ⟨gb228, 2, none⟩ = some (.int .i64 0) := (blk_cell Ze.out 2).trans rfl; have hcz23_3 : w21.cell? ⟨gb228, 3, none⟩ = some (.string (⟨#[]⟩ : ByteArray)) := (blk_cell Ze.out 3).trans rfl; have hfz23_0 := blk_frozen Ze.out 0; have hfz23_1 := blk_frozen Ze.out 1; have hfz23_2 := blk_frozen Ze.out 2; have hfz23_3 := blk_frozen Ze.out 3; have hcz24_0 : w21.cell? ⟨gb218, 0, none⟩ = some (.int .i64 0) := (blk_cell Za.out 0).trans rfl; have hcz24_1 : w21.cell? ⟨gb218, 1, none⟩ = some (.int .i64 0) := (blk_cell Za.out 1).trans rfl; have hcz24_2 : w21.cell? ⟨gb218, 2, none⟩ = some (.int .i64 0) := (blk_cell Za.out 2).trans rfl; have hcz24_3 : w21.cell? ⟨gb218, 3, none⟩ = some (.string (⟨#[]⟩ : ByteArray)) := (blk_cell Za.out 3).trans rfl; have hfz24_0 := blk_frozen Za.out 0; have hfz24_1 := blk_frozen Za.out 1; have hfz24_2 := blk_frozen Za.out 2; have hfz24_3 := blk_frozen Za.out 3))
   refine bodyPost_ret (results_ct rfl _ _ gb218 23 #[.int .i64 0, .int .i64 0, .int .i64 0, .string (⟨#[]⟩ : ByteArray)] (0, 0) _ rfl (by (with_reducible repeat (first | refine blk_drewN ?_ _ | refine blk_drew ?_ | refine blk_alloc ?_ _)); refine blk_put (cs := #[.int .i64 0, .int .i64 0, .int .i64 0, .string (⟨#[]⟩ : ByteArray)]) ?_ 3 _ rfl; (with_reducible repeat (first | refine blk_drewN ?_ _ | refine blk_drew ?_ | refine blk_alloc ?_ _)); refine blk_put (cs := #[.int .i64 0, .int .i64 0, .int .i64 0, .string (⟨#[]⟩ : ByteArray)]) ?_ 2 _ rfl; (with_reducible repeat (first | refine blk_drewN ?_ _ | refine blk_drew ?_ | refine blk_alloc ?_ _)); refine blk_put (cs := #[.int .i64 0, .int .i64 0, .int .i64 0, .string (⟨#[]⟩ : ByteArray)]) ?_ 1 _ rfl; (with_reducible repeat (first | refine blk_drewN ?_ _ | refine blk_drew ?_ | refine blk_alloc ?_ _)); refine blk_put (cs := #[.int .i64 0, .int .i64 0, .int .i64 0, .string (⟨#[]⟩ : ByteArray)]) ?_ 0 _ rfl; (with_reducible repeat (first | refine blk_drewN ?_ _ | refine blk_drew ?_ | refine blk_alloc ?_ _)); refine blk_far ?_ Zb.out _; (with_reducible repeat (first | refine blk_drewN ?_ _ | refine blk_drew ?_ | refine blk_alloc ?_ _)); refine blk_far ?_ Zb.out _; (with_reducible repeat (first | refine blk_drewN ?_ _ | refine blk_drew ?_ | refine blk_alloc ?_ _)); refine blk_far ?_ Zb.out _; (with_reducible repeat (first | refine blk_drewN ?_ _ | refine blk_drew ?_ | refine blk_alloc ?_ _)); refine blk_far ?_ Zb.out _; (with_reducible repeat (first | refine blk_drewN ?_ _ | refine blk_drew ?_ | refine blk_alloc ?_ _)); exact Za.out) Tryd.underlying23 rfl (by kernel_rfl)) rfl ?_
   exact ⟨by first | rfl | (simp [errW_none, errW_some] <;> rfl) | (simp [*, errW_none, errW_some] <;> rfl), zg_3 HB.out Zc.out Zg.out⟩
/-! ### impl_ReqText: function 12 -/
def impl_ReqText.f (k : Nat) (a0_0 : Int) (a0_1 : Int) (a0_2 : Int) (a0_3 : ByteArray) : Option (ByteArray × Int) := (impl_ReqOK.f k a0_0 a0_1 a0_2 a0_3).bind fun t316 => (if t316 = true then ((impl_Req_isTold.f k a0_0 a0_1 a0_2 a0_3).bind fun t317 => (if t317 = true then ((impl_Req_text.f k a0_0 a0_1 a0_2 a0_3).bind fun t318 => (some (t318, 0))) else (some ((⟨#[]⟩ : ByteArray), 1)))) else (some ((⟨#[]⟩ : ByteArray), 1)))
theorem impl_ReqText.mono : ∀ a0 a1 a2 a3 k, LeO (impl_ReqText.f k a0 a1 a2 a3) (impl_ReqText.f (k + 1) a0 a1 a2 a3) := by
  intro a0 a1 a2 a3 k
  unfold impl_ReqText.f
  repeat' first
      | (with_reducible exact impl_ReqOK.mono _ _ _ _ _)
      | (with_reducible exact impl_Req_isTold.mono _ _ _ _ _)
      | (with_reducible exact impl_Req_text.mono _ _ _ _ _)
      | (with_reducible exact LeO.refl _)
      | (with_reducible exact LeO.none _)
      | (with_reducible refine LeO.ite ?_ ?_)
      | (with_reducible refine LeO.bind ?_ (fun _ => ?_))
      | exact impl_ReqOK.mono _ _ _ _ _
      | exact impl_Req_isTold.mono _ _ _ _ _
      | exact impl_Req_text.mono _ _ _ _ _
      | exact LeO.none _
      | refine LeO.ite ?_ ?_
      | refine LeO.bind ?_ (fun _ => ?_)
set_option maxHeartbeats 8000000 in
set_option maxRecDepth 100000 in
theorem impl_ReqText.calls (k : Nat) (a0_0 : Int) (a0_1 : Int) (a0_2 : Int) (a0_3 : ByteArray) (r1 : ByteArray) (r2 : Int) (w : World) (h : impl_ReqText.f k a0_0 a0_1 a0_2 a0_3 = some (r1, r2)) (HTB_ : TrydTab w := by first | exact HTB_ | exact TrydTab.to HTB_ HB.out | exact TrydTab.to HTB_ (by repeat (first | exact HB.out | apply below_alloc | apply pw_below_drewN | apply below_drew1 | refine below_set ?_ (Aside0.out (by assumption))))) :
    Calls Tryd.prog 12 #[.agg #[.int .i64 a0_0, .int .i64 a0_1, .int .i64 a0_2, .string a0_3]] w fun e w' => e = .returned (.tuple #[.string r1, .int .i64 r2]) ∧ Below w.heap.size w w' := by
 have hu23 := Tryd.underlying23
 have HB := zm (Below.refl w.heap.size w)
 have H : ((impl_ReqOK.f k a0_0 a0_1 a0_2 a0_3).bind fun t316 => (if t316 = true then ((impl_Req_isTold.f k a0_0 a0_1 a0_2 a0_3).bind fun t317 => (if t317 = true then ((impl_Req_text.f k a0_0 a0_1 a0_2 a0_3).bind fun t318 => (some (t318, 0))) else (some ((⟨#[]⟩ : ByteArray), 1)))) else (some ((⟨#[]⟩ : ByteArray), 1)))) = some (r1, r2) := h
 clear h
 replace H := Option.bind_eq_some_iff.mp H
 obtain ⟨t316, A20, H⟩ := H
 replace H : (if t316 = true then ((impl_Req_isTold.f k a0_0 a0_1 a0_2 a0_3).bind fun t317 => (if t317 = true then ((impl_Req_text.f k a0_0 a0_1 a0_2 a0_3).bind fun t318 => (some (t318, 0))) else (some ((⟨#[]⟩ : ByteArray), 1)))) else (some ((⟨#[]⟩ : ByteArray), 1))) = some (r1, r2) := H
 have A2 := zm A20
 clear A20
 by_cases c3 : t316 = true
 ·subst c3
  have H1 : ((impl_Req_isTold.f k a0_0 a0_1 a0_2 a0_3).bind fun t317 => (if t317 = true then ((impl_Req_text.f k a0_0 a0_1 a0_2 a0_3).bind fun t318 => (some (t318, 0))) else (some ((⟨#[]⟩ : ByteArray), 1)))) = some (r1, r2) := by rw [if_pos rfl] at H; exact H
  clear H
  have H := H1
  clear H1
  replace H := Option.bind_eq_some_iff.mp H
  obtain ⟨t317, A40, H⟩ := H
  replace H : (if t317 = true then ((impl_Req_text.f k a0_0 a0_1 a0_2 a0_3).bind fun t318 => (some (t318, 0))) else (some ((⟨#[]⟩ : ByteArray), 1))) = some (r1, r2) := H
  have A4 := zm A40
  clear A40
  by_cases c5 : t317 = true
  ·subst c5
   have H1 : ((impl_Req_text.f k a0_0 a0_1 a0_2 a0_3).bind fun t318 => (some (t318, 0))) = some (r1, r2) := by rw [if_pos rfl] at H; exact H
   clear H
   have H := H1
   clear H1
   replace H := Option.bind_eq_some_iff.mp H
   obtain ⟨t318, A60, H⟩ := H
   replace H : (some (t318, 0)) = some (r1, r2) := H
   have A6 := zm A60
   clear A60
   simp only [Option.some.injEq, Prod.mk.injEq] at H
   obtain ⟨rfl, rfl⟩ := H
   go_enter Tryd.func12, Tryd.ntmps12
   go_wp2_with (first | ((with_reducible refine gate_dst (N := 1) rfl ?_); refine box_event ?hg (N := 1) ?hd (cs := #[.int .i64 a0_0, .int .i64 a0_1, .int .i64 a0_2, .string a0_3]) (t := 23) ?hr ?_; (case hd => rfl); (case hg => rfl); (case hr => first | (go_simp; done) | (go_simp; rfl)); intro gb315 hg w7 hbox hb; have n0_ := zm (below_step (zg_0 HB.out) hb); have n1_ := zm (hbox); have n2_ := zm ((by rw [hg]; exact (below_size (zg_0 HB.out)) : w.heap.size ≤ gb315)); have n3_ := zm ((by rw [hg]; exact (below_size (zg_0 HB.out)) : w.heap.size ≤ gb315)); clear HB; have HB := n0_; have Za := n1_; have Zc := n2_; have Zb := n3_; clear n0_ n1_ n2_ n3_; clear hb hbox hg; have hcz8_0 : w7.cell? ⟨gb315, 0, none⟩ = some (.int .i64 a0_0) := (blk_cell Za.out 0).trans rfl; have hcz8_1 : w7.cell? ⟨gb315, 1, none⟩ = some (.int .i64 a0_1) := (blk_cell Za.out 1).trans rfl; have hcz8_2 : w7.cell? ⟨gb315, 2, none⟩ = some (.int .i64 a0_2) := (blk_cell Za.out 2).trans rfl; have hcz8_3 : w7.cell? ⟨gb315, 3, none⟩ = some (.string a0_3) := (blk_cell Za.out 3).trans rfl; have hfz8_0 := blk_frozen Za.out 0; have hfz8_1 := blk_frozen Za.out 1; have hfz8_2 := blk_frozen Za.out 2; have hfz8_3 := blk_frozen Za.out 3) | ((with_reducible refine gate_callee (f := 36) rfl ?_); refine goesL_ (some 5) rfl rfl Tryd.func36 (by kernel_rfl) rfl #[.agg #[.int .i64 a0_0, .int .i64 a0_1, .int .i64 a0_2, .string a0_3]] rfl zq ?_; (with_reducible refine (impl_ReqOK.calls k a0_0 a0_1 a0_2 a0_3 true _ A2.out).mono ?_); rintro e w9 ⟨rfl, hb⟩; refine ⟨_, rfl, ?_⟩; have n0_ := zm (blk_below (g := gb315) (o := .cells #[.int .i64 a0_0, .int .i64 a0_1, .int .i64 a0_2, .string a0_3] 23 (0, 0)) (zg_1 Za.out) hb); have n1_ := zm (below_step (zg_2 HB.out Zb.out) hb); clear Za; clear HB; have Za := n0_; have HB := n1_; clear n0_ n1_; (try clear hb); (try clear hb2); (try clear hk); (try clear hi); have hcz10_0 : w9.cell? ⟨gb315, 0, none⟩ = some (.int .i64 a0_0) := (blk_cell Za.out 0).trans rfl; have hcz10_1 : w9.cell? ⟨gb315, 1, none⟩ = some (.int .i64 a0_1) := (blk_cell Za.out 1).trans rfl; have hcz10_2 : w9.cell? ⟨gb315, 2, none⟩ = some (.int .i64 a0_2) := (blk_cell Za.out 2).trans rfl; have hcz10_3 : w9.cell? ⟨gb315, 3, none⟩ = some (.string a0_3) := (blk_cell Za.out 3).trans rfl; have hfz10_0 := blk_frozen Za.out 0; have hfz10_1 := blk_frozen Za.out 1; have hfz10_2 := blk_frozen Za.out 2; have hfz10_3 := blk_frozen Za.out 3) | (go_at_call 37; (with_reducible refine (impl_Req_isTold.calls k a0_0 a0_1 a0_2 a0_3 true _ A4.out).mono ?_); rintro e w11 ⟨rfl, hb⟩; have n0_ := zm (blk_below (g := gb315) (o := .cells #[.int .i64 a0_0, .int .i64 a0_1, .int .i64 a0_2, .string a0_3] 23 (0, 0)) (zg_1 Za.out) hb); have n1_ := zm (below_step (zg_2 HB.out Zb.out) hb); clear Za; clear HB; have Za := n0_; have HB := n1_; clear n0_ n1_; (try clear hb); (try clear hb2); (try clear hk); (try clear hi); have hcz12_0 : w11.cell? ⟨gb315, 0, none⟩ = some (.int .i64 a0_0) := (blk_cell Za.out 0).trans rfl; have hcz12_1 : w11.cell? ⟨gb315, 1, none⟩ = some (.int .i64 a0_1) := (blk_cell Za.out 1).trans rfl; have hcz12_2 : w11.cell? ⟨gb315, 2, none⟩ = some (.int .i64 a0_2) := (blk_cell Za.out 2).trans rfl; have hcz12_3 : w11.cell? ⟨gb315, 3, none⟩ = some (.string a0_3) := (blk_cell Za.out 3).trans rfl; have hfz12_0 := blk_frozen Za.out 0; have hfz12_1 := blk_frozen Za.out 1; have hfz12_2 := blk_frozen Za.out 2; have hfz12_3 := blk_frozen Za.out 3) | ((with_reducible refine gate_callee (f := 38) rfl ?_); refine goesL_ (some 13) rfl rfl Tryd.func38 (by kernel_rfl) rfl #[.agg #[.int .i64 a0_0, .int .i64 a0_1, .int .i64 a0_2, .string a0_3]] rfl zq ?_; (with_reducible refine (impl_Req_text.calls k a0_0 a0_1 a0_2 a0_3 t318 _ A6.out).mono ?_); rintro e w13 ⟨rfl, hb⟩; refine ⟨_, rfl, ?_⟩; have n0_ := zm (blk_below (g := gb315) (o := .cells #[.int .i64 a0_0, .int .i64 a0_1, .int .i64 a0_2, .string a0_3] 23 (0, 0)) (zg_1 Za.out) hb); have n1_ := zm (below_step (zg_2 HB.out Zb.out) hb); clear Za; clear HB; have Za := n0_; have HB := n1_; clear n0_ n1_; (try clear hb); (try clear hb2); (try clear hk); (try clear hi)))
   go_ret2
   exact ⟨by first | rfl | (simp [errW_none, errW_some] <;> rfl) | (simp [*, errW_none, errW_some] <;> rfl), zg_2 HB.out Zb.out⟩
  ·replace c5 := Bool.eq_false_iff.mpr c5
   subst c5
   have H1 : (some ((⟨#[]⟩ : ByteArray), 1)) = some (r1, r2) := by rw [if_neg (show ¬ (false = true) by decide)] at H; exact H
   clear H
   have H := H1
   clear H1
   simp only [Option.some.injEq, Prod.mk.injEq] at H
   obtain ⟨rfl, rfl⟩ := H
   go_enter Tryd.func12, Tryd.ntmps12
   go_wp2_with (first | ((with_reducible refine gate_dst (N := 1) rfl ?_); refine box_event ?hg (N := 1) ?hd (cs := #[.int .i64 a0_0, .int .i64 a0_1, .int .i64 a0_2, .string a0_3]) (t := 23) ?hr ?_; (case hd => rfl); (case hg => rfl); (case hr => first | (go_simp; done) | (go_simp; rfl)); intro gb315 hg w14 hbox hb; have n0_ := zm (below_step (zg_0 HB.out) hb); have n1_ := zm (hbox); have n2_ := zm ((by rw [hg]; exact (below_size (zg_0 HB.out)) : w.heap.size ≤ gb315)); have n3_ := zm ((by rw [hg]; exact (below_size (zg_0 HB.out)) : w.heap.size ≤ gb315)); clear HB; have HB := n0_; have Za := n1_; have Zc := n2_; have Zb := n3_; clear n0_ n1_ n2_ n3_; clear hb hbox hg; have hcz15_0 : w14.cell? ⟨gb315, 0, none⟩ = some (.int .i64 a0_0) := (blk_cell Za.out 0).trans rfl; have hcz15_1 : w14.cell? ⟨gb315, 1, none⟩ = some (.int .i64 a0_1) := (blk_cell Za.out 1).trans rfl; have hcz15_2 : w14.cell? ⟨gb315, 2, none⟩ = some (.int .i64 a0_2) := (blk_cell Za.out 2).trans rfl; have hcz15_3 : w14.cell? ⟨gb315, 3, none⟩ = some (.string a0_3) := (blk_cell Za.out 3).trans rfl; have hfz15_0 := blk_frozen Za.out 0; have hfz15_1 := blk_frozen Za.out 1; have hfz15_2 := blk_frozen Za.out 2; have hfz15_3 := blk_frozen Za.out 3) | ((with_reducible refine gate_callee (f := 36) rfl ?_); refine goesL_ (some 5) rfl rfl Tryd.func36 (by kernel_rfl) rfl #[.agg #[.int .i64 a0_0, .int .i64 a0_1, .int .i64 a0_2, .string a0_3]] rfl zq ?_; (with_reducible refine (impl_ReqOK.calls k a0_0 a0_1 a0_2 a0_3 true _ A2.out).mono ?_); rintro e w16 ⟨rfl, hb⟩; refine ⟨_, rfl, ?_⟩; have n0_ := zm (blk_below (g := gb315) (o := .cells #[.int .i64 a0_0, .int .i64 a0_1, .int .i64 a0_2, .string a0_3] 23 (0, 0)) (zg_1 Za.out) hb); have n1_ := zm (below_step (zg_2 HB.out Zb.out) hb); clear Za; clear HB; have Za := n0_; have HB := n1_; clear n0_ n1_; (try clear hb); (try clear hb2); (try clear hk); (try clear hi); have hcz17_0 : w16.cell? ⟨gb315, 0, none⟩ = some (.int .i64 a0_0) := (blk_cell Za.out 0).trans rfl; have hcz17_1 : w16.cell? ⟨gb315, 1, none⟩ = some (.int .i64 a0_1) := (blk_cell Za.out 1).trans rfl; have hcz17_2 : w16.cell? ⟨gb315, 2, none⟩ = some (.int .i64 a0_2) := (blk_cell Za.out 2).trans rfl; have hcz17_3 : w16.cell? ⟨gb315, 3, none⟩ = some (.string a0_3) := (blk_cell Za.out 3).trans rfl; have hfz17_0 := blk_frozen Za.out 0; have hfz17_1 := blk_frozen Za.out 1; have hfz17_2 := blk_frozen Za.out 2; have hfz17_3 := blk_frozen Za.out 3) | (go_at_call 37; (with_reducible refine (impl_Req_isTold.calls k a0_0 a0_1 a0_2 a0_3 false _ A4.out).mono ?_); rintro e w18 ⟨rfl, hb⟩; have n0_ := zm (blk_below (g := gb315) (o := .cells #[.int .i64 a0_0, .int .i64 a0_1, .int .i64 a0_2, .string a0_3] 23 (0, 0)) (zg_1 Za.out) hb); have n1_ := zm (below_step (zg_2 HB.out Zb.out) hb); clear Za; clear HB; have Za := n0_; have HB := n1_; clear n0_ n1_; (try clear hb); (try clear hb2); (try clear hk); (try clear hi)))
   go_ret2
   exact ⟨by first | rfl | (simp [errW_none, errW_some] <;> rfl) | (simp [*, errW_none, errW_some] <;> rfl), zg_2 HB.out Zb.out⟩
 ·replace c3 := Bool.eq_false_iff.mpr c3
  subst c3
  have H1 : (some ((⟨#[]⟩ : ByteArray), 1)) = some (r1, r2) := by rw [if_neg (show ¬ (false = true) by decide)] at H; exact H
  clear H
  have H := H1
  clear H1
  simp only [Option.some.injEq, Prod.mk.injEq] at H
  obtain ⟨rfl, rfl⟩ := H
  go_enter Tryd.func12, Tryd.ntmps12
  go_wp2_with (first | ((with_reducible refine gate_dst (N := 1) rfl ?_); refine box_event ?hg (N := 1) ?hd (cs := #[.int .i64 a0_0, .int .i64 a0_1, .int .i64 a0_2, .string a0_3]) (t := 23) ?hr ?_; (case hd => rfl); (case hg => rfl); (case hr => first | (go_simp; done) | (go_simp; rfl)); intro gb315 hg w19 hbox hb; have n0_ := zm (below_step (zg_0 HB.out) hb); have n1_ := zm (hbox); have n2_ := zm ((by rw [hg]; exact (below_size (zg_0 HB.out)) : w.heap.size ≤ gb315)); have n3_ := zm ((by rw [hg]; exact (below_size (zg_0 HB.out)) : w.heap.size ≤ gb315)); clear HB; have HB := n0_; have Za := n1_; have Zc := n2_; have Zb := n3_; clear n0_ n1_ n2_ n3_; clear hb hbox hg; have hcz20_0 : w19.cell? ⟨gb315, 0, none⟩ = some (.int .i64 a0_0) := (blk_cell Za.out 0).trans rfl; have hcz20_1 : w19.cell? ⟨gb315, 1, none⟩ = some (.int .i64 a0_1) := (blk_cell Za.out 1).trans rfl; have hcz20_2 : w19.cell? ⟨gb315, 2, none⟩ = some (.int .i64 a0_2) := (blk_cell Za.out 2).trans rfl; have hcz20_3 : w19.cell? ⟨gb315, 3, none⟩ = some (.string a0_3) := (blk_cell Za.out 3).trans rfl; have hfz20_0 := blk_frozen Za.out 0; have hfz20_1 := blk_frozen Za.out 1; have hfz20_2 := blk_frozen Za.out 2; have hfz20_3 := blk_frozen Za.out 3) | ((with_reducible refine gate_callee (f := 36) rfl ?_); refine goesL_ (some 5) rfl rfl Tryd.func36 (by kernel_rfl) rfl #[.agg #[.int .i64 a0_0, .int .i64 a0_1, .int .i64 a0_2, .string a0_3]] rfl zq ?_; (with_reducible refine (impl_ReqOK.calls k a0_0 a0_1 a0_2 a0_3 false _ A2.out).mono ?_); rintro e w21 ⟨rfl, hb⟩; refine ⟨_, rfl, ?_⟩; have n0_ := zm (blk_below (g := gb315) (o := .cells #[.int .i64 a0_0, .int .i64 a0_1, .int .i64 a0_2, .string a0_3] 23 (0, 0)) (zg_1 Za.out) hb); have n1_ := zm (below_step (zg_2 HB.out Zb.out) hb); clear Za; clear HB; have Za := n0_; have HB := n1_; clear n0_ n1_; (try clear hb); (try clear hb2); (try clear hk); (try clear hi)))
  go_ret2
  exact ⟨by first | rfl | (simp [errW_none, errW_some] <;> rfl) | (simp [*, errW_none, errW_some] <;> rfl), zg_2 HB.out Zb.out⟩
/-! ### laws_eqReq: function 10 -/
def laws_eqReq.f (a0_0 : Int) (a0_1 : Int) (a0_2 : Int) (a0_3 : ByteArray) (a1_0 : Int) (a1_1 : Int) (a1_2 : Int) (a1_3 : ByteArray) : Option (Bool) := if a0_0 = a1_0 then (if a0_1 = a1_1 then (if a0_2 = a1_2 then (if a0_3.toList = a1_3.toList then (some true) else (some false)) else (some false)) else (some false)) else (some false)
set_option maxHeartbeats 8000000 in
set_option maxRecDepth 100000 in
theorem laws_eqReq.calls (a0_0 : Int) (a0_1 : Int) (a0_2 : Int) (a0_3 : ByteArray) (a1_0 : Int) (a1_1 : Int) (a1_2 : Int) (a1_3 : ByteArray) (r : Bool) (w : World) (h : laws_eqReq.f a0_0 a0_1 a0_2 a0_3 a1_0 a1_1 a1_2 a1_3 = some r) :
    Calls Tryd.prog 10 #[.agg #[.int .i64 a0_0, .int .i64 a0_1, .int .i64 a0_2, .string a0_3], .agg #[.int .i64 a1_0, .int .i64 a1_1, .int .i64 a1_2, .string a1_3]] w fun e w' => e = .returned (.bool r) ∧ Below w.heap.size w w' := by
 have hu23 := Tryd.underlying23
 have HB := zm (Below.refl w.heap.size w)
 have H : (if a0_0 = a1_0 then (if a0_1 = a1_1 then (if a0_2 = a1_2 then (if a0_3.toList = a1_3.toList then (some true) else (some false)) else (some false)) else (some false)) else (some false)) = some r := h
 clear h
 by_cases c3 : a0_0 = a1_0
 ·rw [if_pos c3] at H
  have c3b0 : (a0_0 == a1_0) = true := beq_iff_eq.mpr c3
  have c3b1 : (a0_0 != a1_0) = false := bne_eq_false_iff_eq.mpr c3
  clear c3
  by_cases c4 : a0_1 = a1_1
  ·rw [if_pos c4] at H
   have c4b0 : (a0_1 == a1_1) = true := beq_iff_eq.mpr c4
   have c4b1 : (a0_1 != a1_1) = false := bne_eq_false_iff_eq.mpr c4
   clear c4
   by_cases c5 : a0_2 = a1_2
   ·rw [if_pos c5] at H
    have c5b0 : (a0_2 == a1_2) = true := beq_iff_eq.mpr c5
    have c5b1 : (a0_2 != a1_2) = false := bne_eq_false_iff_eq.mpr c5
    clear c5
    by_cases c6 : a0_3.toList = a1_3.toList
    ·rw [if_pos c6] at H
     have c6b0 : (a0_3.toList == a1_3.toList) = true := beq_iff_eq.mpr c6
     have c6b1 : (a0_3.toList != a1_3.toList) = false := bne_eq_false_iff_eq.mpr c6
     clear c6
     obtain rfl := Option.some.inj H
     go_enter Tryd.func10, Tryd.ntmps10
     go_wp2_with (first | ((with_reducible refine gate_dst (N := 2) rfl ?_); refine box_event ?hg (N := 2) ?hd (cs := #[.int .i64 a0_0, .int .i64 a0_1, .int .i64 a0_2, .string a0_3]) (t := 23) ?hr ?_; (case hd => rfl); (case hg => rfl); (case hr => first | (go_simp; done) | (go_simp; rfl)); intro gb229 hg w7 hbox hb; have n0_ := zm (below_step (zg_0 HB.out) hb); have n1_ := zm (hbox); have n2_ := zm ((by rw [hg]; exact (below_size (zg_0 HB.out)) : w.heap.size ≤ gb229)); have n3_ := zm ((by rw [hg]; exact (below_size (zg_0 HB.out)) : w.heap.size ≤ gb229)); clear HB; have HB := n0_; have Za := n1_; have Zg := n2_; have Zc := n3_; clear n0_ n1_ n2_ n3_; clear hb hbox hg) | ((with_reducible refine gate_dst (N := 3) rfl ?_); refine box_event ?hg (N := 3) ?hd (cs := #[.int .i64 a1_0, .int .i64 a1_1, .int .i64 a1_2, .string a1_3]) (t := 23) ?hr ?_; (case hd => rfl); (case hg => rfl); (case hr => first | (go_simp; done) | (go_simp; rfl)); intro gb230 hg w8 hbox hb; have n0_ := zm (blk_below (g := gb229) (o := .cells #[.int .i64 a0_0, .int .i64 a0_1, .int .i64 a0_2, .string a0_3] 23 (0, 0)) (zg_1 Za.out) hb); have n1_ := zm (below_step (zg_2 HB.out Zc.out) hb); have n2_ := zm (hbox); have n3_ := zm ((by rw [hg]; exact (below_size (zg_2 HB.out Zc.out)) : w.heap.size ≤ gb230)); have n4_ := zm ((by rw [hg]; exact (below_size (zg_2 HB.out Zc.out)) : w.heap.size ≤ gb230)); have n5_ := zm ((by rw [hg]; exact Nat.ne_of_lt (blk_lt (g := gb229) (o := .cells #[.int .i64 a0_0, .int .i64 a0_1, .int .i64 a0_2, .string a0_3] 23 (0, 0)) (zg_1 Za.out)) : gb229 ≠ gb230)); have n6_ := zm ((by rw [hg]; exact Nat.ne_of_gt (blk_lt (g := gb229) (o := .cells #[.int .i64 a0_0, .int .i64 a0_1, .int .i64 a0_2, .string a0_3] 23 (0, 0)) (zg_1 Za.out)) : gb230 ≠ gb229)); clear Za; clear HB; have Za := n0_; have HB := n1_; have Zb := n2_; have Zh := n3_; have Zf := n4_; have Zd := n5_; have Ze := n6_; clear n0_ n1_ n2_ n3_ n4_ n5_ n6_; clear hb hbox hg; have hnb9 := Zd.out; have hnc9 := Ze.out; have hcz10_0 : w8.cell? ⟨gb229, 0, none⟩ = some (.int .i64 a0_0) := (blk_cell Za.out 0).trans rfl; have hcz10_1 : w8.cell? ⟨gb229, 1, none⟩ = some (.int .i64 a0_1) := (blk_cell Za.out 1).trans rfl; have hcz10_2 : w8.cell? ⟨gb229, 2, none⟩ = some (.int .i64 a0_2) := (blk_cell Za.out 2).trans rfl; have hcz10_3 : w8.cell? ⟨gb229, 3, none⟩ = some (.string a0_3) := (blk_cell Za.out 3).trans rfl; have hfz10_0 := blk_frozen Za.out 0; have hfz10_1 := blk_frozen Za.out 1; have hfz10_2 := blk_frozen Za.out 2; have hfz10_3 := blk_frozen Za.out 3; have hcz11_0 : w8.cell? ⟨gb230, 0, none⟩ = some (.int .i64 a1_0) := (blk_cell Zb.out 0).trans rfl; have hcz11_1 : w8.cell? ⟨gb230, 1, none⟩ = some (.int .i64 a1_1) := (blk_cell Zb.out 1).trans rfl; have hcz11_2 : w8.cell? ⟨gb230, 2, none⟩ = some (.int .i64 a1_2) := (blk_cell Zb.out 2).trans rfl; have hcz11_3 : w8.cell? ⟨gb230, 3, none⟩ = some (.string a1_3) := (blk_cell Zb.out 3).trans rfl; have hfz11_0 := blk_frozen Zb.out 0; have hfz11_1 := blk_frozen Zb.out 1; have hfz11_2 := blk_frozen Zb.out 2; have hfz11_3 := blk_frozen Zb.out 3))
     go_ret
     exact ⟨by first | rfl | (simp [errW_none, errW_some] <;> rfl) | (simp [*, errW_none, errW_some] <;> rfl), zg_3 HB.out Zc.out Zf.out⟩
    ·rw [if_neg c6] at H
     have c6b0 : (a0_3.toList == a1_3.toList) = false := beq_eq_false_iff_ne.mpr c6
     have c6b1 : (a0_3.toList != a1_3.toList) = true := bne_iff_ne.mpr c6
     obtain rfl := Option.some.inj H
     go_enter Tryd.func10, Tryd.ntmps10
     go_wp2_with (first | ((with_reducible refine gate_dst (N := 2) rfl ?_); refine box_event ?hg (N := 2) ?hd (cs := #[.int .i64 a0_0, .int .i64 a0_1, .int .i64 a0_2, .string a0_3]) (t := 23) ?hr ?_; (case hd => rfl); (case hg => rfl); (case hr => first | (go_simp; done) | (go_simp; rfl)); intro gb229 hg w12 hbox hb; have n0_ := zm (below_step (zg_0 HB.out) hb); have n1_ := zm (hbox); have n2_ := zm ((by rw [hg]; exact (below_size (zg_0 HB.out)) : w.heap.size ≤ gb229)); have n3_ := zm ((by rw [hg]; exact (below_size (zg_0 HB.out)) : w.heap.size ≤ gb229)); clear HB; have HB := n0_; have Za := n1_; have Zg := n2_; have Zc := n3_; clear n0_ n1_ n2_ n3_; clear hb hbox hg) | ((with_reducible refine gate_dst (N := 3) rfl ?_); refine box_event ?hg (N := 3) ?hd (cs := #[.int .i64 a1_0, .int .i64 a1_1, .int .i64 a1_2, .string a1_3]) (t := 23) ?hr ?_; (case hd => rfl); (case hg => rfl); (case hr => first | (go_simp; done) | (go_simp; rfl)); intro gb230 hg w13 hbox hb; have n0_ := zm (blk_below (g := gb229) (o := .cells #[.int .i64 a0_0, .int .i64 a0_1, .int .i64 a0_2, .string a0_3] 23 (0, 0)) (zg_1 Za.out) hb); have n1_ := zm (below_step (zg_2 HB.out Zc.out) hb); have n2_ := zm (hbox); have n3_ := zm ((by rw [hg]; exact (below_size (zg_2 HB.out Zc.out)) : w.heap.size ≤ gb230)); have n4_ := zm ((by rw [hg]; exact (below_size (zg_2 HB.out Zc.out)) : w.heap.size ≤ gb230)); have n5_ := zm ((by rw [hg]; exact Nat.ne_of_lt (blk_lt (g := gb229) (o := .cells #[.int .i64 a0_0, .int .i64 a0_1, .int .i64 a0_2, .string a0_3] 23 (0, 0)) (zg_1 Za.out)) : gb229 ≠ gb230)); have n6_ := zm ((by rw [hg]; exact Nat.ne_of_gt (blk_lt (g := gb229) (o := .cells #[.int .i64 a0_0, .int .i64 a0_1, .int .i64 a0_2, .string a0_3] 23 (0, 0)) (zg_1 Za.out)) : gb230 ≠ gb229)); clear Za; clear HB; have Za := n0_; have HB := n1_; have Zb := n2_; have Zh := n3_; have Zf := n4_; have Zd := n5_; have Ze := n6_; clear n0_ n1_ n2_ n3_ n4_ n5_ n6_; clear hb hbox hg; have hnb14 := Zd.out; have hnc14 := Ze.out; have hcz15_0 : w13.cell? ⟨gb229, 0, none⟩ = some (.int .i64 a0_0) := (blk_cell Za.out 0).trans rfl; have hcz15_1 : w13.cell? ⟨gb229, 1, none⟩ = some (.int .i64 a0_1) := (blk_cell Za.out 1).trans rfl; have hcz15_2 : w13.cell? ⟨gb229, 2, none⟩ = some (.int .i64 a0_2) := (blk_cell Za.out 2).trans rfl; have hcz15_3 : w13.cell? ⟨gb229, 3, none⟩ = some (.string a0_3) := (blk_cell Za.out 3).trans rfl; have hfz15_0 := blk_frozen Za.out 0; have hfz15_1 := blk_frozen Za.out 1; have hfz15_2 := blk_frozen Za.out 2; have hfz15_3 := blk_frozen Za.out 3; have hcz16_0 : w13.cell? ⟨gb230, 0, none⟩ = some (.int .i64 a1_0) := (blk_cell Zb.out 0).trans rfl; have hcz16_1 : w13.cell? ⟨gb230, 1, none⟩ = some (.int .i64 a1_1) := (blk_cell Zb.out 1).trans rfl; have hcz16_2 : w13.cell? ⟨gb230, 2, none⟩ = some (.int .i64 a1_2) := (blk_cell Zb.out 2).trans rfl; have hcz16_3 : w13.cell? ⟨gb230, 3, none⟩ = some (.string a1_3) := (blk_cell Zb.out 3).trans rfl; have hfz16_0 := blk_frozen Zb.out 0; have hfz16_1 := blk_frozen Zb.out 1; have hfz16_2 := blk_frozen Zb.out 2; have hfz16_3 := blk_frozen Zb.out 3))
     go_ret
     exact ⟨by first | rfl | (simp [errW_none, errW_some] <;> rfl) | (simp [*, errW_none, errW_some] <;> rfl), zg_3 HB.out Zc.out Zf.out⟩
   ·rw [if_neg c5] at H
    have c5b0 : (a0_2 == a1_2) = false := beq_eq_false_iff_ne.mpr c5
    have c5b1 : (a0_2 != a1_2) = true := bne_iff_ne.mpr c5
    obtain rfl := Option.some.inj H
    go_enter Tryd.func10, Tryd.ntmps10
    go_wp2_with (first | ((with_reducible refine gate_dst (N := 2) rfl ?_); refine box_event ?hg (N := 2) ?hd (cs := #[.int .i64 a0_0, .int .i64 a0_1, .int .i64 a0_2, .string a0_3]) (t := 23) ?hr ?_; (case hd => rfl); (case hg => rfl); (case hr => first | (go_simp; done) | (go_simp; rfl)); intro gb229 hg w17 hbox hb; have n0_ := zm (below_step (zg_0 HB.out) hb); have n1_ := zm (hbox); have n2_ := zm ((by rw [hg]; exact (below_size (zg_0 HB.out)) : w.heap.size ≤ gb229)); have n3_ := zm ((by rw [hg]; exact (below_size (zg_0 HB.out)) : w.heap.size ≤ gb229)); clear HB; have HB := n0_; have Za := n1_; have Zg := n2_; have Zc := n3_; clear n0_ n1_ n2_ n3_; clear hb hbox hg) | ((with_reducible refine gate_dst (N := 3) rfl ?_); refine box_event ?hg (N := 3) ?hd (cs := #[.int .i64 a1_0, .int .i64 a1_1, .int .i64 a1_2, .string a1_3]) (t := 23) ?hr ?_; (case hd => rfl); (case hg => rfl); (case hr => first | (go_simp; done) | (go_simp; rfl)); intro gb230 hg w18 hbox hb; have n0_ := zm (blk_below (g := gb229) (o := .cells #[.int .i64 a0_0, .int .i64 a0_1, .int .i64 a0_2, .string a0_3] 23 (0, 0)) (zg_1 Za.out) hb); have n1_ := zm (below_step (zg_2 HB.out Zc.out) hb); have n2_ := zm (hbox); have n3_ := zm ((by rw [hg]; exact (below_size (zg_2 HB.out Zc.out)) : w.heap.size ≤ gb230)); have n4_ := zm ((by rw [hg]; exact (below_size (zg_2 HB.out Zc.out)) : w.heap.size ≤ gb230)); have n5_ := zm ((by rw [hg]; exact Nat.ne_of_lt (blk_lt (g := gb229) (o := .cells #[.int .i64 a0_0, .int .i64 a0_1, .int .i64 a0_2, .string a0_3] 23 (0, 0)) (zg_1 Za.out)) : gb229 ≠ gb230)); have n6_ := zm ((by rw [hg]; exact Nat.ne_of_gt (blk_lt (g := gb229) (o := .cells #[.int .i64 a0_0, .int .i64 a0_1, .int .i64 a0_2, .string a0_3] 23 (0, 0)) (zg_1 Za.out)) : gb230 ≠ gb229)); clear Za; clear HB; have Za := n0_; have HB := n1_; have Zb := n2_; have Zh := n3_; have Zf := n4_; have Zd := n5_; have Ze := n6_; clear n0_ n1_ n2_ n3_ n4_ n5_ n6_; clear hb hbox hg; have hnb19 := Zd.out; have hnc19 := Ze.out; have hcz20_0 : w18.cell? ⟨gb229, 0, none⟩ = some (.int .i64 a0_0) := (blk_cell Za.out 0).trans rfl; have hcz20_1 : w18.cell? ⟨gb229, 1, none⟩ = some (.int .i64 a0_1) := (blk_cell Za.out 1).trans rfl; have hcz20_2 : w18.cell? ⟨gb229, 2, none⟩ = some (.int .i64 a0_2) := (blk_cell Za.out 2).trans rfl; have hcz20_3 : w18.cell? ⟨gb229, 3, none⟩ = some (.string a0_3) := (blk_cell Za.out 3).trans rfl; have hfz20_0 := blk_frozen Za.out 0; have hfz20_1 := blk_frozen Za.out 1; have hfz20_2 := blk_frozen Za.out 2; have hfz20_3 := blk_frozen Za.out 3; have hcz21_0 : w18.cell? ⟨gb230, 0, none⟩ = some (.int .i64 a1_0) := (blk_cell Zb.out 0).trans rfl; have hcz21_1 : w18.cell? ⟨gb230, 1, none⟩ = some (.int .i64 a1_1) := (blk_cell Zb.out 1).trans rfl; have hcz21_2 : w18.cell? ⟨gb230, 2, none⟩ = some (.int .i64 a1_2) := (blk_cell Zb.out 2).trans rfl; have hcz21_3 : w18.cell? ⟨gb230, 3, none⟩ = some (.string a1_3) := (blk_cell Zb.out 3).trans rfl; have hfz21_0 := blk_frozen Zb.out 0; have hfz21_1 := blk_frozen Zb.out 1; have hfz21_2 := blk_frozen Zb.out 2; have hfz21_3 := blk_frozen Zb.out 3))
    go_ret
    exact ⟨by first | rfl | (simp [errW_none, errW_some] <;> rfl) | (simp [*, errW_none, errW_some] <;> rfl), zg_3 HB.out Zc.out Zf.out⟩
  ·rw [if_neg c4] at H
   have c4b0 : (a0_1 == a1_1) = false := beq_eq_false_iff_ne.mpr c4
   have c4b1 : (a0_1 != a1_1) = true := bne_iff_ne.mpr c4
   obtain rfl := Option.some.inj H
   go_enter Tryd.func10, Tryd.ntmps10
   go_wp2_with (first | ((with_reducible refine gate_dst (N := 2) rfl ?_); refine box_event ?hg (N := 2) ?hd (cs := #[.int .i64 a0_0, .int .i64 a0_1, .int .i64 a0_2, .string a0_3]) (t := 23) ?hr ?_; (case hd => rfl); (case hg => rfl); (case hr => first | (go_simp; done) | (go_simp; rfl)); intro gb229 hg w22 hbox hb; have n0_ := zm (below_step (zg_0 HB.out) hb); have n1_ := zm (hbox); have n2_ := zm ((by rw [hg]; exact (below_size (zg_0 HB.out)) : w.heap.size ≤ gb229)); have n3_ := zm ((by rw [hg]; exact (below_size (zg_0 HB.out)) : w.heap.size ≤ gb229)); clear HB; have HB := n0_; have Za := n1_; have Zg := n2_; have Zc := n3_; clear n0_ n1_ n2_ n3_; clear hb hbox hg) | ((with_reducible refine gate_dst (N := 3) rfl ?_); refine box_event ?hg (N := 3) ?hd (cs := #[.int .i64 a1_0, .int .i64 a1_1, .int .i64 a1_2, .string a1_3]) (t := 23) ?hr ?_; (case hd => rfl); (case hg => rfl); (case hr => first | (go_simp; done) | (go_simp; rfl)); intro gb230 hg w23 hbox hb; have n0_ := zm (blk_below (g := gb229) (o := .cells #[.int .i64 a0_0, .int .i64 a0_1, .int .i64 a0_2, .string a0_3] 23 (0, 0)) (zg_1 Za.out) hb); have n1_ := zm (below_step (zg_2 HB.out Zc.out) hb); have n2_ := zm (hbox); have n3_ := zm ((by rw [hg]; exact (below_size (zg_2 HB.out Zc.out)) : w.heap.size ≤ gb230)); have n4_ := zm ((by rw [hg]; exact (below_size (zg_2 HB.out Zc.out)) : w.heap.size ≤ gb230)); have n5_ := zm ((by rw [hg]; exact Nat.ne_of_lt (blk_lt (g := gb229) (o := .cells #[.int .i64 a0_0, .int .i64 a0_1, .int .i64 a0_2, .string a0_3] 23 (0, 0)) (zg_1 Za.out)) : gb229 ≠ gb230)); have n6_ := zm ((by rw [hg]; exact Nat.ne_of_gt (blk_lt (g := gb229) (o := .cells #[.int .i64 a0_0, .int .i64 a0_1, .int .i64 a0_2, .string a0_3] 23 (0, 0)) (zg_1 Za.out)) : gb230 ≠ gb229)); clear Za; clear HB; have Za := n0_; have HB := n1_; have Zb := n2_; have Zh := n3_; have Zf := n4_; have Zd := n5_; have Ze := n6_; clear n0_ n1_ n2_ n3_ n4_ n5_ n6_; clear hb hbox hg; have hnb24 := Zd.out; have hnc24 := Ze.out; have hcz25_0 : w23.cell? ⟨gb229, 0, none⟩ = some (.int .i64 a0_0) := (blk_cell Za.out 0).trans rfl; have hcz25_1 : w23.cell? ⟨gb229, 1, none⟩ = some (.int .i64 a0_1) := (blk_cell Za.out 1).trans rfl; have hcz25_2 : w23.cell? ⟨gb229, 2, none⟩ = some (.int .i64 a0_2) := (blk_cell Za.out 2).trans rfl; have hcz25_3 : w23.cell? ⟨gb229, 3, none⟩ = some (.string a0_3) := (blk_cell Za.out 3).trans rfl; have hfz25_0 := blk_frozen Za.out 0; have hfz25_1 := blk_frozen Za.out 1; have hfz25_2 := blk_frozen Za.out 2; have hfz25_3 := blk_frozen Za.out 3; have hcz26_0 : w23.cell? ⟨gb230, 0, none⟩ = some (.int .i64 a1_0) := (blk_cell Zb.out 0).trans rfl; have hcz26_1 : w23.cell? ⟨gb230, 1, none⟩ = some (.int .i64 a1_1) := (blk_cell Zb.out 1).trans rfl; have hcz26_2 : w23.cell? ⟨gb230, 2, none⟩ = some (.int .i64 a1_2) := (blk_cell Zb.out 2).trans rfl; have hcz26_3 : w23.cell? ⟨gb230, 3, none⟩ = some (.string a1_3) := (blk_cell Zb.out 3).trans rfl; have hfz26_0 := blk_frozen Zb.out 0; have hfz26_1 := blk_frozen Zb.out 1; have hfz26_2 := blk_frozen Zb.out 2; have hfz26_3 := blk_frozen Zb.out 3))
   go_ret
   exact ⟨by first | rfl | (simp [errW_none, errW_some] <;> rfl) | (simp [*, errW_none, errW_some] <;> rfl), zg_3 HB.out Zc.out Zf.out⟩
 ·rw [if_neg c3] at H
  have c3b0 : (a0_0 == a1_0) = false := beq_eq_false_iff_ne.mpr c3
  have c3b1 : (a0_0 != a1_0) = true := bne_iff_ne.mpr c3
  obtain rfl := Option.some.inj H
  go_enter Tryd.func10, Tryd.ntmps10
  go_wp2_with (first | ((with_reducible refine gate_dst (N := 2) rfl ?_); refine box_event ?hg (N := 2) ?hd (cs := #[.int .i64 a0_0, .int .i64 a0_1, .int .i64 a0_2, .string a0_3]) (t := 23) ?hr ?_; (case hd => rfl); (case hg => rfl); (case hr => first | (go_simp; done) | (go_simp; rfl)); intro gb229 hg w27 hbox hb; have n0_ := zm (below_step (zg_0 HB.out) hb); have n1_ := zm (hbox); have n2_ := zm ((by rw [hg]; exact (below_size (zg_0 HB.out)) : w.heap.size ≤ gb229)); have n3_ := zm ((by rw [hg]; exact (below_size (zg_0 HB.out)) : w.heap.size ≤ gb229)); clear HB; have HB := n0_; have Za := n1_; have Zg := n2_; have Zc := n3_; clear n0_ n1_ n2_ n3_; clear hb hbox hg) | ((with_reducible refine gate_dst (N := 3) rfl ?_); refine box_event ?hg (N := 3) ?hd (cs := #[.int .i64 a1_0, .int .i64 a1_1, .int .i64 a1_2, .string a1_3]) (t := 23) ?hr ?_; (case hd => rfl); (case hg => rfl); (case hr => first | (go_simp; done) | (go_simp; rfl)); intro gb230 hg w28 hbox hb; have n0_ := zm (blk_below (g := gb229) (o := .cells #[.int .i64 a0_0, .int .i64 a0_1, .int .i64 a0_2, .string a0_3] 23 (0, 0)) (zg_1 Za.out) hb); have n1_ := zm (below_step (zg_2 HB.out Zc.out) hb); have n2_ := zm (hbox); have n3_ := zm ((by rw [hg]; exact (below_size (zg_2 HB.out Zc.out)) : w.heap.size ≤ gb230)); have n4_ := zm ((by rw [hg]; exact (below_size (zg_2 HB.out Zc.out)) : w.heap.size ≤ gb230)); have n5_ := zm ((by rw [hg]; exact Nat.ne_of_lt (blk_lt (g := gb229) (o := .cells #[.int .i64 a0_0, .int .i64 a0_1, .int .i64 a0_2, .string a0_3] 23 (0, 0)) (zg_1 Za.out)) : gb229 ≠ gb230)); have n6_ := zm ((by rw [hg]; exact Nat.ne_of_gt (blk_lt (g := gb229) (o := .cells #[.int .i64 a0_0, .int .i64 a0_1, .int .i64 a0_2, .string a0_3] 23 (0, 0)) (zg_1 Za.out)) : gb230 ≠ gb229)); clear Za; clear HB; have Za := n0_; have HB := n1_; have Zb := n2_; have Zh := n3_; have Zf := n4_; have Zd := n5_; have Ze := n6_; clear n0_ n1_ n2_ n3_ n4_ n5_ n6_; clear hb hbox hg; have hnb29 := Zd.out; have hnc29 := Ze.out; have hcz30_0 : w28.cell? ⟨gb229, 0, none⟩ = some (.int .i64 a0_0) := (blk_cell Za.out 0).trans rfl; have hcz30_1 : w28.cell? ⟨gb229, 1, none⟩ = some (.int .i64 a0_1) := (blk_cell Za.out 1).trans rfl; have hcz30_2 : w28.cell? ⟨gb229, 2, none⟩ = some (.int .i64 a0_2) := (blk_cell Za.out 2).trans rfl; have hcz30_3 : w28.cell? ⟨gb229, 3, none⟩ = some (.string a0_3) := (blk_cell Za.out 3).trans rfl; have hfz30_0 := blk_frozen Za.out 0; have hfz30_1 := blk_frozen Za.out 1; have hfz30_2 := blk_frozen Za.out 2; have hfz30_3 := blk_frozen Za.out 3; have hcz31_0 : w28.cell? ⟨gb230, 0, none⟩ = some (.int .i64 a1_0) := (blk_cell Zb.out 0).trans rfl; have hcz31_1 : w28.cell? ⟨gb230, 1, none⟩ = some (.int .i64 a1_1) := (blk_cell Zb.out 1).trans rfl; have hcz31_2 : w28.cell? ⟨gb230, 2, none⟩ = some (.int .i64 a1_2) := (blk_cell Zb.out 2).trans rfl; have hcz31_3 : w28.cell? ⟨gb230, 3, none⟩ = some (.string a1_3) := (blk_cell Zb.out 3).trans rfl; have hfz31_0 := blk_frozen Zb.out 0; have hfz31_1 := blk_frozen Zb.out 1; have hfz31_2 := blk_frozen Zb.out 2; have hfz31_3 := blk_frozen Zb.out 3))
  go_ret
  exact ⟨by first | rfl | (simp [errW_none, errW_some] <;> rfl) | (simp [*, errW_none, errW_some] <;> rfl), zg_3 HB.out Zc.out Zf.out⟩
/-! ### spec_l00Number: function 67 -/
mutual
def spec_l00Number.j0 : Nat → ByteArray → Int → Bool → Option (Int × Bool)
  | 0, _, _, _ => none
  | k + 1, x0, x4, x14 => if x14 = true then (if 1 ≤ (x0.size : Int) then (spec_l00Number.j1 k (x0.extract 1 x0.size) (-1)) else (none)) else (spec_l00Number.j1 k x0 x4)
def spec_l00Number.j1 : Nat → ByteArray → Int → Option (Int × Bool)
  | 0, _, _ => none
  | k + 1, x0, x4 => if (x0.size : Int) = 0 then (spec_l00Number.j2 k x0 x4 true) else (if (x0.size : Int) > 18 then (spec_l00Number.j2 k x0 x4 true) else (if 0 < (x0.size : Int) then (if (bt x0 0) = 48 then (if (x0.size : Int) > 1 then (spec_l00Number.j2 k x0 x4 true) else (spec_l00Number.j2 k x0 x4 (decide (x4 < 0)))) else (spec_l00Number.j2 k x0 x4 false)) else (none)))
def spec_l00Number.j2 : Nat → ByteArray → Int → Bool → Option (Int × Bool)
  | 0, _, _, _ => none
  | k + 1, x0, x4, x38 => if x38 = true then (some (0, false)) else (spec_l00Number.l0 k x0 x4 0 0)
def spec_l00Number.l0 : Nat → ByteArray → Int → Int → Int → Option (Int × Bool)
  | 0, _, _, _, _ => none
  | k + 1, x0, x4, x5, x6 => if x6 < (x0.size : Int) then (if 0 ≤ x6 then (if (bt x0 x6) < 48 then (some (0, false)) else (if (bt x0 x6) > 57 then (some (0, false)) else (spec_l00Number.l0 k x0 x4 (wrap64 ((wrap64 ((wrap64 (x5 * 10)) + (wrap64 (bt x0 x6)))) - 48)) (wrap64 (x6 + 1))))) else (none)) else (some (wrap64 (x4 * x5), true))
end
def spec_l00Number.f (k : Nat) (a0 : ByteArray) : Option (Int × Bool) := if (a0.size : Int) > 0 then (if 0 < (a0.size : Int) then (spec_l00Number.j0 k a0 1 ((bt a0 0) == 45)) else (none)) else (spec_l00Number.j0 k a0 1 false)
theorem spec_l00Number.mono_l : ∀ k, (∀ y0 y1 y2, LeO (spec_l00Number.j0 k y0 y1 y2) (spec_l00Number.j0 (k + 1) y0 y1 y2)) ∧ (∀ y0 y1, LeO (spec_l00Number.j1 k y0 y1) (spec_l00Number.j1 (k + 1) y0 y1)) ∧ (∀ y0 y1 y2, LeO (spec_l00Number.j2 k y0 y1 y2) (spec_l00Number.j2 (k + 1) y0 y1 y2)) ∧ (∀ y0 y1 y2 y3, LeO (spec_l00Number.l0 k y0 y1 y2 y3) (spec_l00Number.l0 (k + 1) y0 y1 y2 y3))
  | 0 => ⟨fun _ _ _ r h => by simp [spec_l00Number.j0] at h, fun _ _ r h => by simp [spec_l00Number.j1] at h, fun _ _ _ r h => by simp [spec_l00Number.j2] at h, fun _ _ _ _ r h => by simp [spec_l00Number.l0] at h⟩
  | k + 1 => by
    obtain ⟨ih0, ih1, ih2, ih3⟩ := spec_l00Number.mono_l k
    refine ⟨?_, ?_, ?_, ?_⟩
    · intro y0 y1 y2
      unfold spec_l00Number.j0
      repeat' first
      | (with_reducible exact ih0 _ _ _)
      | (with_reducible exact ih1 _ _)
      | (with_reducible exact ih2 _ _ _)
      | (with_reducible exact ih3 _ _ _ _)
      | (with_reducible exact LeO.refl _)
      | (with_reducible exact LeO.none _)
      | (with_reducible refine LeO.ite ?_ ?_)
      | (with_reducible refine LeO.bind ?_ (fun _ => ?_))
      | exact ih0 _ _ _
      | exact ih1 _ _
      | exact ih2 _ _ _
      | exact ih3 _ _ _ _
      | exact LeO.none _
      | refine LeO.ite ?_ ?_
      | refine LeO.bind ?_ (fun _ => ?_)
    · intro y0 y1
      unfold spec_l00Number.j1
      repeat' first
      | (with_reducible exact ih0 _ _ _)
      | (with_reducible exact ih1 _ _)
      | (with_reducible exact ih2 _ _ _)
      | (with_reducible exact ih3 _ _ _ _)
      | (with_reducible exact LeO.refl _)
      | (with_reducible exact LeO.none _)
      | (with_reducible refine LeO.ite ?_ ?_)
      | (with_reducible refine LeO.bind ?_ (fun _ => ?_))
      | exact ih0 _ _ _
      | exact ih1 _ _
      | exact ih2 _ _ _
      | exact ih3 _ _ _ _
      | exact LeO.none _
      | refine LeO.ite ?_ ?_
      | refine LeO.bind ?_ (fun _ => ?_)
    · intro y0 y1 y2
      unfold spec_l00Number.j2
      repeat' first
      | (with_reducible exact ih0 _ _ _)
      | (with_reducible exact ih1 _ _)
      | (with_reducible exact ih2 _ _ _)
      | (with_reducible exact ih3 _ _ _ _)
      | (with_reducible exact LeO.refl _)
      | (with_reducible exact LeO.none _)
      | (with_reducible refine LeO.ite ?_ ?_)
      | (with_reducible refine LeO.bind ?_ (fun _ => ?_))
      | exact ih0 _ _ _
      | exact ih1 _ _
      | exact ih2 _ _ _
      | exact ih3 _ _ _ _
      | exact LeO.none _
      | refine LeO.ite ?_ ?_
      | refine LeO.bind ?_ (fun _ => ?_)
    · intro y0 y1 y2 y3
      unfold spec_l00Number.l0
      repeat' first
      | (with_reducible exact ih0 _ _ _)
      | (with_reducible exact ih1 _ _)
      | (with_reducible exact ih2 _ _ _)
      | (with_reducible exact ih3 _ _ _ _)
      | (with_reducible exact LeO.refl _)
      | (with_reducible exact LeO.none _)
      | (with_reducible refine LeO.ite ?_ ?_)
      | (with_reducible refine LeO.bind ?_ (fun _ => ?_))
      | exact ih0 _ _ _
      | exact ih1 _ _
      | exact ih2 _ _ _
      | exact ih3 _ _ _ _
      | exact LeO.none _
      | refine LeO.ite ?_ ?_
      | refine LeO.bind ?_ (fun _ => ?_)
theorem spec_l00Number.mono : ∀ a0 k, LeO (spec_l00Number.f k a0) (spec_l00Number.f (k + 1) a0) := by
  intro a0 k
  obtain ⟨ih0, ih1, ih2, ih3⟩ := spec_l00Number.mono_l k
  unfold spec_l00Number.f
  repeat' first
      | (with_reducible exact ih0 _ _ _)
      | (with_reducible exact ih1 _ _)
      | (with_reducible exact ih2 _ _ _)
      | (with_reducible exact ih3 _ _ _ _)
      | (with_reducible exact LeO.refl _)
      | (with_reducible exact LeO.none _)
      | (with_reducible refine LeO.ite ?_ ?_)
      | (with_reducible refine LeO.bind ?_ (fun _ => ?_))
      | exact ih0 _ _ _
      | exact ih1 _ _
      | exact ih2 _ _ _
      | exact ih3 _ _ _ _
      | exact LeO.none _
      | refine LeO.ite ?_ ?_
      | refine LeO.bind ?_ (fun _ => ?_)
set_option maxHeartbeats 8000000 in
set_option maxRecDepth 100000 in
theorem spec_l00Number.calls (k : Nat) (a0 : ByteArray) (r1 : Int) (r2 : Bool) (w : World) (h : spec_l00Number.f k a0 = some (r1, r2)) :
    Calls Tryd.prog 67 #[.string a0] w fun e w' => e = .returned (.tuple #[.int .i64 r1, .bool r2]) ∧ Drawn0 w w' := by
 have H : (if (a0.size : Int) > 0 then (if 0 < (a0.size : Int) then (spec_l00Number.j0 k a0 1 ((bt a0 0) == 45)) else (none)) else (spec_l00Number.j0 k a0 1 false)) = some (r1, r2) := h
 clear h
 have HC2 := zm H
 clear H
 go_enter Tryd.func67, Tryd.ntmps67
 go_upto_region 2 with (fail)
 go_cut [14] (fun v14 wc => ∃ (kq : Nat) (x14_1 : Bool), v14 = .bool x14_1 ∧ Aside0 (spec_l00Number.j0 kq a0 1 x14_1 = some (r1, r2)) ∧ Aside0 (kq ≤ k) ∧ Drawn0 w wc)
 case first =>
  have H := HC2.out
  clear HC2
  by_cases c3 : (a0.size : Int) > 0
  ·rw [if_pos c3] at H
   have c3b0 : decide (0 < (a0.size : Int)) = true := decide_eq_true c3
   have c3b1 : decide (0 < a0.size) = true := decide_eq_true (by omega)
   clear c3
   (first | rw [c3b0] | (simp only [i64_w, i32_w]; rw [c3b0]) | skip)
   by_cases c4 : 0 < (a0.size : Int)
   ·rw [if_pos c4] at H
    have c4b0 : decide (0 < (a0.size : Int)) = true := decide_eq_true c4
    have c4b1 : decide (0 < a0.size) = true := decide_eq_true (by omega)
    clear c4
    have H' := zm H
    clear H
    have p5 : 0 ≤ (0 : Int) := (by omega)
    have q5 : 0 < a0.size := (by have : (0 : Int) < (a0.size : Int) := zd; omega)
    have hx5 : ∀ h : 0 < a0.size, ((a0[0]'h).toNat : Int) = bt a0 0 := bt_at a0 0
    clear p5
    have qi5 : (0 < (a0.size : Int)) = True := eq_true (zd)
    replace q5 := eq_true q5
    go_wp2
    go_meet
    case rel => exact ⟨_, (((bt a0 0) == 45)), zr, H', ⟨by first | omega | exact Nat.le_refl _⟩, by repeat (first | exact Drawn0.refl _ | apply Drawn0.step)⟩
   ·rw [if_neg c4] at H
    exact absurd H (by simp)
  ·rw [if_neg c3] at H
   have c3b0 : decide (0 < (a0.size : Int)) = false := decide_eq_false c3
   have c3b1 : decide (0 < a0.size) = false := decide_eq_false (by omega)
   clear c3
   (first | rw [c3b0] | (simp only [i64_w, i32_w]; rw [c3b0]) | skip)
   have H' := zm H
   clear H
   go_wp2
   go_meet
   case rel => exact ⟨_, (false), zr, H', ⟨by first | omega | exact Nat.le_refl _⟩, by repeat (first | exact Drawn0.refl _ | apply Drawn0.step)⟩
 case rest =>
  clear HC2
  try clear p2
  try clear c3
  try clear c3b0
  try clear c3b1
  try clear c4
  try clear c4b0
  try clear c4b1
  try clear p5
  try clear q5
  try clear hx5
  try clear qi5
  try clear p5
  try clear q5
  obtain ⟨kq, x14_1, rfl, HA, HJ1, ⟨mc1, rfl⟩⟩ := hcut
  cases kq with
  | zero => exact absurd HA.out (by simp [spec_l00Number.j0])
  | succ kj1 =>
   have H := HA.out
   clear HA
   simp only [spec_l00Number.j0] at H
   have HC6 := zm H
   clear H
   go_upto_if 14 with (fail)
   go_cut [0, 4] (fun v0 v4 wc => ∃ (kq : Nat) (x0_5 : ByteArray) (x4_5 : Int), v0 = .string x0_5 ∧ v4 = .int .i64 x4_5 ∧ Aside0 (spec_l00Number.j1 kq x0_5 x4_5 = some (r1, r2)) ∧ Aside0 (kq ≤ kj1) ∧ Drawn0 w wc)
   case first =>
    have H := HC6.out
    clear HC6
    by_cases c7 : x14_1 = true
    ·subst c7
     have H1 : (if 1 ≤ (a0.size : Int) then (spec_l00Number.j1 kj1 (a0.extract 1 a0.size) (-1)) else (none)) = some (r1, r2) := by rw [if_pos rfl] at H; exact H
     clear H
     have H := H1
     clear H1
     by_cases c8 : 1 ≤ (a0.size : Int)
     ·rw [if_pos c8] at H
      have c8b0 := eq_true c8
      have c8b1 : decide (1 ≤ (a0.size : Int)) = true := decide_eq_true c8
      clear c8
      have H' := zm H
      clear H
      go_wp2
      go_meet
      case rel => exact ⟨_, (a0.extract 1 a0.size), ((-1)), zr, zr, H', ⟨by have := HJ1.out; first | omega | exact Nat.le_refl _⟩, by repeat (first | exact Drawn0.refl _ | apply Drawn0.step)⟩
     ·rw [if_neg c8] at H
      exact absurd H (by simp)
    ·replace c7 := Bool.eq_false_iff.mpr c7
     subst c7
     have H1 : (spec_l00Number.j1 kj1 a0 1) = some (r1, r2) := by rw [if_neg (show ¬ (false = true) by decide)] at H; exact H
     clear H
     have H := H1
     clear H1
     have H' := zm H
     clear H
     go_wp2
     go_meet
     case rel => exact ⟨_, (a0), (1), zr, zr, H', ⟨by have := HJ1.out; first | omega | exact Nat.le_refl _⟩, by repeat (first | exact Drawn0.refl _ | apply Drawn0.step)⟩
   case rest =>
    clear HC6
    try clear c1
    try clear p2
    try clear c3
    try clear c3b0
    try clear c3b1
    try clear c4
    try clear c4b0
    try clear c4b1
    try clear p5
    try clear q5
    try clear hx5
    try clear qi5
    try clear c6
    try clear c7
    try clear c8
    try clear c8b0
    try clear c8b1
    try clear p2
    try clear p5
    try clear q5
    obtain ⟨kq, x0_5, x4_5, rfl, rfl, HA, HJ5, ⟨mc5, rfl⟩⟩ := hcut
    cases kq with
    | zero => exact absurd HA.out (by simp [spec_l00Number.j1])
    | succ kj5 =>
     have H := HA.out
     clear HA
     simp only [spec_l00Number.j1] at H
     have HC9 := zm H
     clear H
     go_upto_region 5 with (fail)
     go_cut [38] (fun v38 wc => ∃ (kq : Nat) (x38_8 : Bool), v38 = .bool x38_8 ∧ Aside0 (spec_l00Number.j2 kq x0_5 x4_5 x38_8 = some (r1, r2)) ∧ Aside0 (kq ≤ kj5) ∧ Drawn0 w wc)
     case first =>
      have H := HC9.out
      clear HC9
      by_cases c10 : (x0_5.size : Int) = 0
      ·rw [if_pos c10] at H
       have c10b0 : ((x0_5.size : Int) == 0) = true := beq_iff_eq.mpr c10
       have c10b1 : ((x0_5.size : Int) != 0) = false := bne_eq_false_iff_eq.mpr c10
       clear c10
       (first | rw [c10b0] | (simp only [i64_w, i32_w]; rw [c10b0]) | skip)
       have H' := zm H
       clear H
       go_wp2
       go_meet
       case rel => exact ⟨_, (true), zr, H', ⟨by have := HJ1.out; have := HJ5.out; first | omega | exact Nat.le_refl _⟩, by repeat (first | exact Drawn0.refl _ | apply Drawn0.step)⟩
      ·rw [if_neg c10] at H
       have c10b0 : ((x0_5.size : Int) == 0) = false := beq_eq_false_iff_ne.mpr c10
       have c10b1 : ((x0_5.size : Int) != 0) = true := bne_iff_ne.mpr c10
       (first | rw [c10b0] | (simp only [i64_w, i32_w]; rw [c10b0]) | skip)
       by_cases c11 : (x0_5.size : Int) > 18
       ·rw [if_pos c11] at H
        have c11b0 : decide (18 < (x0_5.size : Int)) = true := decide_eq_true c11
        have c11b1 : decide (18 < x0_5.size) = true := decide_eq_true (by omega)
        clear c11
        have H' := zm H
        clear H
        go_wp2
        go_meet
        case rel => exact ⟨_, (true), zr, H', ⟨by have := HJ1.out; have := HJ5.out; first | omega | exact Nat.le_refl _⟩, by repeat (first | exact Drawn0.refl _ | apply Drawn0.step)⟩
       ·rw [if_neg c11] at H
        have c11b0 : decide (18 < (x0_5.size : Int)) = false := decide_eq_false c11
        have c11b1 : decide (18 < x0_5.size) = false := decide_eq_false (by omega)
        clear c11
        by_cases c12 : 0 < (x0_5.size : Int)
        ·rw [if_pos c12] at H
         have c12b0 : decide (0 < (x0_5.size : Int)) = true := decide_eq_true c12
         have c12b1 : decide (0 < x0_5.size) = true := decide_eq_true (by omega)
         clear c12
         by_cases c14 : (bt x0_5 0) = 48
         ·rw [if_pos c14] at H
          have c14b0 : ((bt x0_5 0) == 48) = true := beq_iff_eq.mpr c14
          have c14b1 : ((bt x0_5 0) != 48) = false := bne_eq_false_iff_eq.mpr c14
          clear c14
          by_cases c15 : (x0_5.size : Int) > 1
          ·rw [if_pos c15] at H
           have c15b0 : decide (1 < (x0_5.size : Int)) = true := decide_eq_true c15
           have c15b1 : decide (1 < x0_5.size) = true := decide_eq_true (by omega)
           clear c15
           have H' := zm H
           clear H
           have p13 : 0 ≤ (0 : Int) := (by omega)
           have q13 : 0 < x0_5.size := (by have : (0 : Int) < (x0_5.size : Int) := zd; omega)
           have hx13 : ∀ h : 0 < x0_5.size, ((x0_5[0]'h).toNat : Int) = bt x0_5 0 := bt_at x0_5 0
           clear p13
           have qi13 : (0 < (x0_5.size : Int)) = True := eq_true (zd)
           replace q13 := eq_true q13
           go_wp2
           go_meet
           case rel => exact ⟨_, (true), zr, H', ⟨by have := HJ1.out; have := HJ5.out; first | omega | exact Nat.le_refl _⟩, by repeat (first | exact Drawn0.refl _ | apply Drawn0.step)⟩
          ·rw [if_neg c15] at H
           have c15b0 : decide (1 < (x0_5.size : Int)) = false := decide_eq_false c15
           have c15b1 : decide (1 < x0_5.size) = false := decide_eq_false (by omega)
           clear c15
           have H' := zm H
           clear H
           have p13 : 0 ≤ (0 : Int) := (by omega)
           have q13 : 0 < x0_5.size := (by have : (0 : Int) < (x0_5.size : Int) := zd; omega)
           have hx13 : ∀ h : 0 < x0_5.size, ((x0_5[0]'h).toNat : Int) = bt x0_5 0 := bt_at x0_5 0
           clear p13
           have qi13 : (0 < (x0_5.size : Int)) = True := eq_true (zd)
           replace q13 := eq_true q13
           go_wp2
           go_meet
           case rel => exact ⟨_, (decide (x4_5 < 0)), zr, H', ⟨by have := HJ1.out; have := HJ5.out; first | omega | exact Nat.le_refl _⟩, by repeat (first | exact Drawn0.refl _ | apply Drawn0.step)⟩
         ·rw [if_neg c14] at H
          have c14b0 : ((bt x0_5 0) == 48) = false := beq_eq_false_iff_ne.mpr c14
          have c14b1 : ((bt x0_5 0) != 48) = true := bne_iff_ne.mpr c14
          have H' := zm H
          clear H
          have p13 : 0 ≤ (0 : Int) := (by omega)
          have q13 : 0 < x0_5.size := (by have : (0 : Int) < (x0_5.size : Int) := zd; omega)
          have hx13 : ∀ h : 0 < x0_5.size, ((x0_5[0]'h).toNat : Int) = bt x0_5 0 := bt_at x0_5 0
          clear p13
          have qi13 : (0 < (x0_5.size : Int)) = True := eq_true (zd)
          replace q13 := eq_true q13
          go_wp2
          go_meet
          case rel => exact ⟨_, (false), zr, H', ⟨by have := HJ1.out; have := HJ5.out; first | omega | exact Nat.le_refl _⟩, by repeat (first | exact Drawn0.refl _ | apply Drawn0.step)⟩
        ·rw [if_neg c12] at H
         exact absurd H (by simp)
     case rest =>
      clear HC9
      try clear c1
      try clear p1
      try clear q1
      try clear hx1
      try clear qi1
      try clear p2
      try clear c3
      try clear c3b0
      try clear c3b1
      try clear c4
      try clear c4b0
      try clear c4b1
      try clear c5
      try clear p5
      try clear q5
      try clear hx5
      try clear qi5
      try clear c6
      try clear c7
      try clear c8
      try clear c8b0
      try clear c8b1
      try clear c10
      try clear c10b0
      try clear c10b1
      try clear c11
      try clear c11b0
      try clear c11b1
      try clear c12
      try clear c12b0
      try clear c12b1
      try clear p13
      try clear q13
      try clear hx13
      try clear qi13
      try clear c14
      try clear c14b0
      try clear c14b1
      try clear c15
      try clear c15b0
      try clear c15b1
      try clear p13
      try clear p2
      try clear p5
      try clear q13
      try clear q5
      obtain ⟨kq, x38_8, rfl, HA, HJ8, ⟨mc8, rfl⟩⟩ := hcut
      cases kq with
      | zero => exact absurd HA.out (by simp [spec_l00Number.j2])
      | succ kj8 =>
       have H := HA.out
       clear HA
       simp only [spec_l00Number.j2] at H
       by_cases c16 : x38_8 = true
       ·subst c16
        have H1 : (some (0, false)) = some (r1, r2) := by rw [if_pos rfl] at H; exact H
        clear H
        have H := H1
        clear H1
        simp only [Option.some.injEq, Prod.mk.injEq] at H
        obtain ⟨rfl, rfl⟩ := H
        go_wp2
        go_ret2
        exact ⟨zr, by repeat (first | exact Drawn0.refl _ | apply Drawn0.step)⟩
       ·replace c16 := Bool.eq_false_iff.mpr c16
        subst c16
        have H1 : (spec_l00Number.l0 kj8 x0_5 x4_5 0 0) = some (r1, r2) := by rw [if_neg (show ¬ (false = true) by decide)] at H; exact H
        clear H
        have H := H1
        clear H1
        have H' := zm H
        clear H
        go_wp2
        go_loopg [5, 6] kj8 (fun kq v5 v6 w' => ∃ (x5_4 : Int) (x6_4 : Int), v5 = .int .i64 x5_4 ∧ v6 = .int .i64 x6_4 ∧ Aside0 (spec_l00Number.l0 kq x0_5 x4_5 x5_4 x6_4 = some (r1, r2)) ∧ Aside0 (kq ≤ kj8) ∧ Drawn0 w w')
        case atStart => exact ⟨(0), (0), zr, zr, H', ⟨Nat.le_refl _⟩, by repeat (first | exact Drawn0.refl _ | apply Drawn0.step)⟩
        case round =>
         clear H'
         try clear c1
         try clear p1
         try clear q1
         try clear hx1
         try clear qi1
         try clear p2
         try clear c3
         try clear c3b0
         try clear c3b1
         try clear c4
         try clear c4b0
         try clear c4b1
         try clear c5
         try clear p5
         try clear q5
         try clear hx5
         try clear qi5
         try clear c6
         try clear c7
         try clear c8
         try clear c8b0
         try clear c8b1
         try clear c10
         try clear c10b0
         try clear c10b1
         try clear c11
         try clear c11b0
         try clear c11b1
         try clear c12
         try clear c12b0
         try clear c12b1
         try clear p13
         try clear q13
         try clear hx13
         try clear qi13
         try clear c14
         try clear c14b0
         try clear c14b1
         try clear c15
         try clear c15b0
         try clear c15b1
         try clear c16
         try clear p1
         try clear p13
         try clear p2
         try clear p5
         try clear q1
         try clear q13
         try clear q5
         obtain ⟨x5_4, x6_4, rfl, rfl, HA, HK4, ⟨m4, rfl⟩⟩ := hrel
         cases gk with
         | zero => exact absurd HA.out (by simp [spec_l00Number.l0])
         | succ k4 =>
          have H := HA.out
          clear HA
          simp only [spec_l00Number.l0] at H
          by_cases c17 : x6_4 < (x0_5.size : Int)
          ·rw [if_pos c17] at H
           have c17b0 : decide (x6_4 < (x0_5.size : Int)) = true := decide_eq_true c17
           clear c17
           by_cases c18 : 0 ≤ x6_4
           ·rw [if_pos c18] at H
            have c18b0 : decide (0 ≤ x6_4) = true := decide_eq_true c18
            clear c18
            by_cases c20 : (bt x0_5 x6_4) < 48
            ·rw [if_pos c20] at H
             have c20b0 : decide ((bt x0_5 x6_4) < 48) = true := decide_eq_true c20
             clear c20
             simp only [Option.some.injEq, Prod.mk.injEq] at H
             obtain ⟨rfl, rfl⟩ := H
             have p19 : 0 ≤ (x6_4 : Int) := zd
             have q19 : x6_4 < (x0_5.size : Int) := zd
             have hx19 := bt_at x0_5 x6_4
             replace p19 := eq_true p19
             replace q19 := eq_true q19
             go_wp2
             go_ret2
             exact ⟨zr, by repeat (first | exact Drawn0.refl _ | apply Drawn0.step)⟩
            ·rw [if_neg c20] at H
             have c20b0 : decide ((bt x0_5 x6_4) < 48) = false := decide_eq_false c20
             clear c20
             by_cases c22 : (bt x0_5 x6_4) > 57
             ·rw [if_pos c22] at H
              have c22b0 : decide (57 < (bt x0_5 x6_4)) = true := decide_eq_true c22
              clear c22
              simp only [Option.some.injEq, Prod.mk.injEq] at H
              obtain ⟨rfl, rfl⟩ := H
              have p19 : 0 ≤ (x6_4 : Int) := zd
              have q19 : x6_4 < (x0_5.size : Int) := zd
              have hx19 := bt_at x0_5 x6_4
              replace p19 := eq_true p19
              replace q19 := eq_true q19
              have p21 : 0 ≤ (x6_4 : Int) := zd
              have q21 : x6_4 < (x0_5.size : Int) := zd
              have hx21 := bt_at x0_5 x6_4
              replace p21 := eq_true p21
              replace q21 := eq_true q21
              go_wp2
              go_ret2
              exact ⟨zr, by repeat (first | exact Drawn0.refl _ | apply Drawn0.step)⟩
             ·rw [if_neg c22] at H
              have c22b0 : decide (57 < (bt x0_5 x6_4)) = false := decide_eq_false c22
              clear c22
              have H' := zm H
              clear H
              have p19 : 0 ≤ (x6_4 : Int) := zd
              have q19 : x6_4 < (x0_5.size : Int) := zd
              have hx19 := bt_at x0_5 x6_4
              replace p19 := eq_true p19
              replace q19 := eq_true q19
              have p21 : 0 ≤ (x6_4 : Int) := zd
              have q21 : x6_4 < (x0_5.size : Int) := zd
              have hx21 := bt_at x0_5 x6_4
              replace p21 := eq_true p21
              replace q21 := eq_true q21
              have p23 : 0 ≤ (x6_4 : Int) := zd
              have q23 : x6_4 < (x0_5.size : Int) := zd
              have hx23 := bt_at x0_5 x6_4
              replace p23 := eq_true p23
              replace q23 := eq_true q23
              go_wp2
              go_roundg k4
              case measure => have := HJ1.out; have := HJ5.out; have := HJ8.out; have := HK4.out; omega
              case rel => exact ⟨(wrap64 ((wrap64 ((wrap64 (x5_4 * 10)) + (wrap64 (bt x0_5 x6_4)))) - 48)), (wrap64 (x6_4 + 1)), zr, zr, H', ⟨by have := HJ1.out; have := HJ5.out; have := HJ8.out; have := HK4.out; omega⟩, by repeat (first | exact Drawn0.refl _ | apply Drawn0.step)⟩
           ·rw [if_neg c18] at H
            exact absurd H (by simp)
          ·rw [if_neg c17] at H
           have c17b0 : decide (x6_4 < (x0_5.size : Int)) = false := decide_eq_false c17
           clear c17
           simp only [Option.some.injEq, Prod.mk.injEq] at H
           obtain ⟨rfl, rfl⟩ := H
           go_wp2
           go_ret2
           exact ⟨zr, by repeat (first | exact Drawn0.refl _ | apply Drawn0.step)⟩
/-! ### spec_l00Words: function 65 -/
mutual
def spec_l00Words.l0 : Nat → ByteArray → List ByteArray → Int → Int → Option (List ByteArray)
  | 0, _, _, _, _ => none
  | k + 1, x0, x3, x4, x5 => if x5 ≤ (x0.size : Int) then (if x5 = (x0.size : Int) then (spec_l00Words.j1 k x0 x3 x4 x5 true) else (if 0 ≤ x5 then (if x5 < (x0.size : Int) then (spec_l00Words.j1 k x0 x3 x4 x5 ((bt x0 x5) == 32)) else (none)) else (none))) else (some x3)
def spec_l00Words.j1 : Nat → ByteArray → List ByteArray → Int → Int → Bool → Option (List ByteArray)
  | 0, _, _, _, _, _ => none
  | k + 1, x0, x3, x4, x5, x22 => if x22 = true then (if x5 > x4 then (if 0 ≤ x4 then (if x4 ≤ x5 then (if x5 ≤ (x0.size : Int) then (if x3.length < 8796093022208 then (spec_l00Words.l0 k x0 (x3 ++ [x0.extract (x4 : Int).toNat (x5 : Int).toNat]) (wrap64 (x5 + 1)) (wrap64 (x5 + 1))) else (none)) else (none)) else (none)) else (none)) else (spec_l00Words.l0 k x0 x3 (wrap64 (x5 + 1)) (wrap64 (x5 + 1)))) else (spec_l00Words.l0 k x0 x3 x4 (wrap64 (x5 + 1)))
end
def spec_l00Words.f (k : Nat) (a0 : ByteArray) : Option (List ByteArray) := spec_l00Words.l0 k a0 (([] : List ByteArray)) 0 0
theorem spec_l00Words.mono_l : ∀ k, (∀ y0 y1 y2 y3, LeO (spec_l00Words.l0 k y0 y1 y2 y3) (spec_l00Words.l0 (k + 1) y0 y1 y2 y3)) ∧ (∀ y0 y1 y2 y3 y4, LeO (spec_l00Words.j1 k y0 y1 y2 y3 y4) (spec_l00Words.j1 (k + 1) y0 y1 y2 y3 y4))
  | 0 => ⟨fun _ _ _ _ r h => by simp [spec_l00Words.l0] at h, fun _ _ _ _ _ r h => by simp [spec_l00Words.j1] at h⟩
  | k + 1 => by
    obtain ⟨ih0, ih1⟩ := spec_l00Words.mono_l k
    refine ⟨?_, ?_⟩
    · intro y0 y1 y2 y3
      unfold spec_l00Words.l0
      repeat' first
      | (with_reducible exact ih0 _ _ _ _)
      | (with_reducible exact ih1 _ _ _ _ _)
      | (with_reducible exact LeO.refl _)
      | (with_reducible exact LeO.none _)
      | (with_reducible refine LeO.ite ?_ ?_)
      | (with_reducible refine LeO.bind ?_ (fun _ => ?_))
      | exact ih0 _ _ _ _
      | exact ih1 _ _ _ _ _
      | exact LeO.none _
      | refine LeO.ite ?_ ?_
      | refine LeO.bind ?_ (fun _ => ?_)
    · intro y0 y1 y2 y3 y4
      unfold spec_l00Words.j1
      repeat' first
      | (with_reducible exact ih0 _ _ _ _)
      | (with_reducible exact ih1 _ _ _ _ _)
      | (with_reducible exact LeO.refl _)
      | (with_reducible exact LeO.none _)
      | (with_reducible refine LeO.ite ?_ ?_)
      | (with_reducible refine LeO.bind ?_ (fun _ => ?_))
      | exact ih0 _ _ _ _
      | exact ih1 _ _ _ _ _
      | exact LeO.none _
      | refine LeO.ite ?_ ?_
      | refine LeO.bind ?_ (fun _ => ?_)
theorem spec_l00Words.mono : ∀ a0 k, LeO (spec_l00Words.f k a0) (spec_l00Words.f (k + 1) a0) := by
  intro a0 k
  obtain ⟨ih0, ih1⟩ := spec_l00Words.mono_l k
  unfold spec_l00Words.f
  repeat' first
      | (with_reducible exact ih0 _ _ _ _)
      | (with_reducible exact ih1 _ _ _ _ _)
      | (with_reducible exact LeO.refl _)
      | (with_reducible exact LeO.none _)
      | (with_reducible refine LeO.ite ?_ ?_)
      | (with_reducible refine LeO.bind ?_ (fun _ => ?_))
      | exact ih0 _ _ _ _
      | exact ih1 _ _ _ _ _
      | exact LeO.none _
      | refine LeO.ite ?_ ?_
      | refine LeO.bind ?_ (fun _ => ?_)
set_option maxHeartbeats 8000000 in
set_option maxRecDepth 100000 in
theorem spec_l00Words.calls (k : Nat) (a0 : ByteArray) (r : List ByteArray) (w : World) (h : spec_l00Words.f k a0 = some r) :
    Calls Tryd.prog 65 #[.string a0] w fun e w' => ∃ v0_ : Value, e = .returned (v0_) ∧ Kd.R Kd.string 9 w' w.heap.size (fun _ => True) v0_ r ∧ Below w.heap.size w w' := by
 have HB := zm (Below.refl w.heap.size w)
 have H : (spec_l00Words.l0 k a0 (([] : List ByteArray)) 0 0) = some r := h
 clear h
 obtain ⟨y107, hy107⟩ : ∃ y_ : List ByteArray, y_ = (([] : List ByteArray)) := ⟨_, rfl⟩
 replace H : (spec_l00Words.l0 k a0 y107 0 0) = some r := by first | (rw [hy107]; with_reducible exact H) | (have H2_ := (Option.bind_some _ _).symm.trans H; rw [hy107]; with_reducible exact H2_) | (have H2_ := (Option.bind_some _ _).symm.trans H; with_reducible exact H2_) | with_reducible exact H | (rw [hy107]; exact H) | exact H
 have Ny107 := zm hy107
 clear hy107
 have H' := zm H
 clear H
 go_enter Tryd.func65, Tryd.ntmps65
 go_wp2_with (first | ((with_reducible refine gate_dst (N := 6) rfl ?_); refine Kd.R_lit Kd.string _ 9 ?hg (N := 6) ?hd (xs := ([] : List ByteArray)) (inner := []) (ok := fun _ => True) (okp := fun _ => True) ?hr ?hp (fun _ hk => hk) trivial (Below.refl _ _) (Nat.le_refl _) (by simp) ?_; (case hd => rfl); (case hg => rfl); (case hr => first | (go_simp; done) | (go_simp; rfl)); (case hp => exact (Reps.none _ _)); intro v108 w2 ho3 hb hg_ hnew_; clear hg_ hnew_; (first | rw [← Ny107.out] at ho3 | (simp only [Int.reduceToNat] at ho3; rw [← Ny107.out] at ho3)); have n0_ := zm (Kd.R_lower ho3 (below_size (zg_0 HB.out))); have n1_ := zm (below_step (zg_0 HB.out) hb); clear HB; have Zb := n0_; have HB := n1_; clear n0_ n1_; clear hb ho3))
 go_loopg [3, 4, 5] k (fun kq v3 v4 v5 w' => ∃ (x3_1 : List ByteArray) (x4_1 : Int) (x5_1 : Int), v4 = .int .i64 x4_1 ∧ v5 = .int .i64 x5_1 ∧ Aside0 (spec_l00Words.l0 kq a0 x3_1 x4_1 x5_1 = some r) ∧ Aside0 (kq ≤ k) ∧ Aside0 (Kd.R Kd.string 9 w' w.heap.size (fun _ => True) v3 x3_1) ∧ Aside0 (Below w.heap.size w w'))
 case atStart => exact ⟨(y107), (0), (0), zr, zr, H', ⟨Nat.le_refl _⟩, ⟨by (with_reducible repeat (first | apply Kd.R_alloc | apply Kd.R_drewN | apply Kd.R_drew)); exact Zb.out⟩, ⟨zg_0 HB.out⟩⟩
 case round =>
  clear H'
  try clear p2
  obtain ⟨x3_1, x4_1, x5_1, rfl, rfl, HA, HK1, Za, HB⟩ := hrel
  cases gk with
  | zero => exact absurd HA.out (by simp [spec_l00Words.l0])
  | succ k1 =>
   have H := HA.out
   clear HA
   simp only [spec_l00Words.l0] at H
   by_cases c4 : x5_1 ≤ (a0.size : Int)
   ·rw [if_pos c4] at H
    have c4b0 : decide (x5_1 ≤ (a0.size : Int)) = true := decide_eq_true c4
    clear c4
    have HC5 := zm H
    clear H
    go_upto_region 6 with (fail)
    go_cut [22] (fun v22 wc => ∃ (kq : Nat) (x22_4 : Bool), v22 = .bool x22_4 ∧ Aside0 (spec_l00Words.j1 kq a0 x3_1 x4_1 x5_1 x22_4 = some r) ∧ Aside0 (kq ≤ k1) ∧ Aside0 (Kd.R Kd.string 9 wc w.heap.size (fun _ => True) u3 x3_1) ∧ Aside0 (Below w.heap.size w wc))
    case first =>
     have H := HC5.out
     clear HC5
     by_cases c6 : x5_1 = (a0.size : Int)
     ·rw [if_pos c6] at H
      have c6b0 : (x5_1 == (a0.size : Int)) = true := beq_iff_eq.mpr c6
      have c6b1 : (x5_1 != (a0.size : Int)) = false := bne_eq_false_iff_eq.mpr c6
      clear c6
      (first | rw [c6b0] | (simp only [i64_w, i32_w]; rw [c6b0]) | skip)
      have H' := zm H
      clear H
      go_wp2
      go_meet
      case rel => exact ⟨_, (true), zr, H', ⟨by have := HK1.out; first | omega | exact Nat.le_refl _⟩, ⟨by (with_reducible repeat (first | apply Kd.R_alloc | apply Kd.R_drewN | apply Kd.R_drew)); exact Za.out⟩, ⟨zg_0 HB.out⟩⟩
     ·rw [if_neg c6] at H
      have c6b0 : (x5_1 == (a0.size : Int)) = false := beq_eq_false_iff_ne.mpr c6
      have c6b1 : (x5_1 != (a0.size : Int)) = true := bne_iff_ne.mpr c6
      (first | rw [c6b0] | (simp only [i64_w, i32_w]; rw [c6b0]) | skip)
      by_cases c7 : 0 ≤ x5_1
      ·rw [if_pos c7] at H
       have c7b0 : decide (0 ≤ x5_1) = true := decide_eq_true c7
       clear c7
       by_cases c8 : x5_1 < (a0.size : Int)
       ·rw [if_pos c8] at H
        have c8b0 : decide (x5_1 < (a0.size : Int)) = true := decide_eq_true c8
        clear c8
        have H' := zm H
        clear H
        have p9 : 0 ≤ (x5_1 : Int) := zd
        have q9 : x5_1 < (a0.size : Int) := zd
        have hx9 := bt_at a0 x5_1
        replace p9 := eq_true p9
        replace q9 := eq_true q9
        go_wp2
        go_meet
        case rel => exact ⟨_, (((bt a0 x5_1) == 32)), zr, H', ⟨by have := HK1.out; first | omega | exact Nat.le_refl _⟩, ⟨by (with_reducible repeat (first | apply Kd.R_alloc | apply Kd.R_drewN | apply Kd.R_drew)); exact Za.out⟩, ⟨zg_0 HB.out⟩⟩
       ·rw [if_neg c8] at H
        exact absurd H (by simp)
      ·rw [if_neg c7] at H
       exact absurd H (by simp)
    case rest =>
     clear HC5
     try clear p2
     try clear c4
     try clear c4b0
     try clear c6
     try clear c6b0
     try clear c6b1
     try clear c7
     try clear c7b0
     try clear c8
     try clear c8b0
     try clear p9
     try clear q9
     try clear hx9
     try clear p2
     try clear p9
     try clear q9
     obtain ⟨kq, x22_4, rfl, HA, HJ4, Za, HB⟩ := hcut
     cases kq with
     | zero => exact absurd HA.out (by simp [spec_l00Words.j1])
     | succ kj4 =>
      have H := HA.out
      clear HA
      simp only [spec_l00Words.j1] at H
      by_cases c10 : x22_4 = true
      ·subst c10
       have H1 : (if x5_1 > x4_1 then (if 0 ≤ x4_1 then (if x4_1 ≤ x5_1 then (if x5_1 ≤ (a0.size : Int) then (if x3_1.length < 8796093022208 then (spec_l00Words.l0 kj4 a0 (x3_1 ++ [a0.extract (x4_1 : Int).toNat (x5_1 : Int).toNat]) (wrap64 (x5_1 + 1)) (wrap64 (x5_1 + 1))) else (none)) else (none)) else (none)) else (none)) else (spec_l00Words.l0 kj4 a0 x3_1 (wrap64 (x5_1 + 1)) (wrap64 (x5_1 + 1)))) = some r := by rw [if_pos rfl] at H; exact H
       clear H
       have H := H1
       clear H1
       by_cases c11 : x5_1 > x4_1
       ·rw [if_pos c11] at H
        have c11b0 : decide (x4_1 < x5_1) = true := decide_eq_true c11
        clear c11
        by_cases c12 : 0 ≤ x4_1
        ·rw [if_pos c12] at H
         have c12b0 := eq_true c12
         have c12b1 : decide (0 ≤ x4_1) = true := decide_eq_true c12
         clear c12
         by_cases c13 : x4_1 ≤ x5_1
         ·rw [if_pos c13] at H
          have c13b0 := eq_true c13
          have c13b1 : decide (x4_1 ≤ x5_1) = true := decide_eq_true c13
          clear c13
          by_cases c14 : x5_1 ≤ (a0.size : Int)
          ·rw [if_pos c14] at H
           have c14b0 := eq_true c14
           have c14b1 : decide (x5_1 ≤ (a0.size : Int)) = true := decide_eq_true c14
           clear c14
           by_cases c15 : x3_1.length < 8796093022208
           ·rw [if_pos c15] at H
            have LMc15 := zm c15
            clear c15
            obtain ⟨y110, hy110⟩ : ∃ y_ : List ByteArray, y_ = (x3_1 ++ [a0.extract (x4_1 : Int).toNat (x5_1 : Int).toNat]) := ⟨_, rfl⟩
            replace H : (spec_l00Words.l0 kj4 a0 y110 (wrap64 (x5_1 + 1)) (wrap64 (x5_1 + 1))) = some r := by first | (rw [hy110]; with_reducible exact H) | (have H2_ := (Option.bind_some _ _).symm.trans H; rw [hy110]; with_reducible exact H2_) | (have H2_ := (Option.bind_some _ _).symm.trans H; with_reducible exact H2_) | with_reducible exact H | (rw [hy110]; exact H) | exact H
            have Ny110 := zm hy110
            clear hy110
            have H' := zm H
            clear H
            go_wp2_with (first | ((with_reducible refine gate_builtin (b := .append) (xs := #[.tmp 26, .tmp 31]) rfl ?_); at_builtin; refine Kd.R_append Kd.string (w0 := w) w.heap.size rfl (.tmp 26) (.tmp 31) 37 9 (.string ⟨#[]⟩) 16 rfl Tryd.underlying37 info9 rfl (by decide) (by omega) u3 x3_1 (a0.extract (x4_1 : Int).toNat (x5_1 : Int).toNat) [.string (a0.extract (x4_1 : Int).toNat (x5_1 : Int).toNat)] (fun _ => True) (fun _ => False) rfl rfl ?aP (fun _ hk => hk.elim) ?aF ?aO ?aB ?aS ?aL ?_; (case aP => exact rfl); (case aB => exact (zg_0 HB.out)); (case aF => exact (fun _ _ => trivial)); (case aO => exact (zg_4 Za.out)); (case aS => exact (below_size (zg_0 HB.out))); (case aL => have := LMc15.out; omega); intro v111 w16 ho hb hg hat; rw [← Ny110.out] at ho; have n0_ := zm (hb); have n1_ := zm (ho); clear HB; clear Za; have HB := n0_; have Zc := n1_; clear n0_ n1_; clear ho hb hg hat))
            go_roundg kj4
            case measure => have := HK1.out; have := HJ4.out; omega
            case rel => exact ⟨(y110), (wrap64 (x5_1 + 1)), (wrap64 (x5_1 + 1)), zr, zr, H', ⟨by have := HK1.out; have := HJ4.out; omega⟩, ⟨by (with_reducible repeat (first | apply Kd.R_alloc | apply Kd.R_drewN | apply Kd.R_drew)); exact Zc.out⟩, ⟨zg_0 HB.out⟩⟩
           ·rw [if_neg c15] at H
            exact absurd H (by simp)
          ·rw [if_neg c14] at H
           exact absurd H (by simp)
         ·rw [if_neg c13] at H
          exact absurd H (by simp)
        ·rw [if_neg c12] at H
         exact absurd H (by simp)
       ·rw [if_neg c11] at H
        have c11b0 : decide (x4_1 < x5_1) = false := decide_eq_false c11
        clear c11
        have H' := zm H
        clear H
        go_wp2
        go_roundg kj4
        case measure => have := HK1.out; have := HJ4.out; omega
        case rel => exact ⟨(x3_1), (wrap64 (x5_1 + 1)), (wrap64 (x5_1 + 1)), zr, zr, H', ⟨by have := HK1.out; have := HJ4.out; omega⟩, ⟨by (with_reducible repeat (first | apply Kd.R_alloc | apply Kd.R_drewN | apply Kd.R_drew)); exact Za.out⟩, ⟨zg_0 HB.out⟩⟩
      ·replace c10 := Bool.eq_false_iff.mpr c10
       subst c10
       have H1 : (spec_l00Words.l0 kj4 a0 x3_1 x4_1 (wrap64 (x5_1 + 1))) = some r := by rw [if_neg (show ¬ (false = true) by decide)] at H; exact H
       clear H
       have H := H1
       clear H1
       have H' := zm H
       clear H
       go_wp2
       go_roundg kj4
       case measure => have := HK1.out; have := HJ4.out; omega
       case rel => exact ⟨(x3_1), (x4_1), (wrap64 (x5_1 + 1)), zr, zr, H', ⟨by have := HK1.out; have := HJ4.out; omega⟩, ⟨by (with_reducible repeat (first | apply Kd.R_alloc | apply Kd.R_drewN | apply Kd.R_drew)); exact Za.out⟩, ⟨zg_0 HB.out⟩⟩
   ·rw [if_neg c4] at H
    have c4b0 : decide (x5_1 ≤ (a0.size : Int)) = false := decide_eq_false c4
    clear c4
    obtain rfl := Option.some.inj H
    go_wp2
    go_ret
    exact ⟨_, by first | rfl | (simp [errW_none, errW_some] <;> rfl) | (simp [*, errW_none, errW_some] <;> rfl), by (with_reducible repeat (first | apply Kd.R_alloc | apply Kd.R_drewN | apply Kd.R_drew)); exact Za.out, zg_0 HB.out⟩
/-! ### spec_l01In: function 41 -/
def spec_l01In.f (a0 : Int) (a1 : Int) (a2 : Int) : Option (Bool) := if a1 ≤ a0 then (some (decide (a0 ≤ a2))) else (some false)
set_option maxHeartbeats 8000000 in
set_option maxRecDepth 100000 in
theorem spec_l01In.calls (a0 : Int) (a1 : Int) (a2 : Int) (r : Bool) (w : World) (h : spec_l01In.f a0 a1 a2 = some r) :
    Calls Tryd.prog 41 #[.int .i64 a0, .int .i64 a1, .int .i64 a2] w fun e w' => e = .returned (.bool r) ∧ Drawn0 w w' := by
  have H : (if a1 ≤ a0 then (some (decide (a0 ≤ a2))) else (some false)) = some r := h
  clear h
  by_cases c4 : a1 ≤ a0
  · rw [if_pos c4] at H
    have c4b0 : decide (a1 ≤ a0) = true := decide_eq_true c4
    clear c4
    obtain rfl := Option.some.inj H
    go_enter Tryd.func41, Tryd.ntmps41
    go_wp2
    go_ret
    exact ⟨by first | rfl | (simp; done) | (simp [*]; done), by repeat (first | exact Drawn0.refl _ | apply Drawn0.step)⟩
  · rw [if_neg c4] at H
    have c4b0 : decide (a1 ≤ a0) = false := decide_eq_false c4
    clear c4
    obtain rfl := Option.some.inj H
    go_enter Tryd.func41, Tryd.ntmps41
    go_wp2
    go_ret
    exact ⟨by first | rfl | (simp; done) | (simp [*]; done), by repeat (first | exact Drawn0.refl _ | apply Drawn0.step)⟩
/-! ### spec_l02Int: function 40 -/
def spec_l02Int.f (a0 : Int) : Option (Bool) := (spec_l01In.f a0 0 2147483647).bind fun t105 => (some t105)
set_option maxHeartbeats 8000000 in
set_option maxRecDepth 100000 in
theorem spec_l02Int.calls (a0 : Int) (r : Bool) (w : World) (h : spec_l02Int.f a0 = some r) :
    Calls Tryd.prog 40 #[.int .i64 a0] w fun e w' => e = .returned (.bool r) ∧ Drawn0 w w' := by
  have H : ((spec_l01In.f a0 0 2147483647).bind fun t105 => (some t105)) = some r := h
  clear h
  replace H := Option.bind_eq_some_iff.mp H
  obtain ⟨t105, A20, H⟩ := H
  replace H : (some t105) = some r := H
  have A2 := Aside0.mk A20
  clear A20
  obtain rfl := Option.some.inj H
  go_enter Tryd.func40, Tryd.ntmps40
  go_wp2_with (first | ((with_reducible refine gate_callee (f := 41) rfl ?_); refine goesL_ (some 4) rfl rfl Tryd.func41 (by kernel_rfl) rfl #[.int .i64 a0, .int .i64 0, .int .i64 2147483647] rfl (by (try simp only [List.map_toArray, List.map_cons, List.map_nil]); first | done | rfl | (simp only [List.length_drop, List.length_take]; rfl)) ?_; (with_reducible refine (spec_l01In.calls a0 0 2147483647 t105 _ A2.out).mono ?_); rintro e w' ⟨rfl, ⟨nd, rfl⟩⟩; refine ⟨_, rfl, ?_⟩))
  go_ret
  exact ⟨by first | rfl | (simp; done) | (simp [*]; done), by repeat (first | exact Drawn0.refl _ | apply Drawn0.step)⟩
/-! ### spec_l10Name: function 42 -/
def spec_l10Name.l0 : Nat → ByteArray → Int → Option (Bool)
  | 0, _, _ => none
  | k + 1, x0, x3 => if x3 < (x0.size : Int) then (if 0 ≤ x3 then (if (bt x0 x3) < 97 then (some false) else (if (bt x0 x3) > 122 then (some false) else (spec_l10Name.l0 k x0 (wrap64 (x3 + 1))))) else (none)) else ((spec_l01In.f (x0.size : Int) 1 6).bind fun t106 => (some t106))
def spec_l10Name.f (k : Nat) (a0 : ByteArray) : Option (Bool) := spec_l10Name.l0 k a0 0
theorem spec_l10Name.mono_l : ∀ k, (∀ y0 y1, LeO (spec_l10Name.l0 k y0 y1) (spec_l10Name.l0 (k + 1) y0 y1))
  | 0 => fun _ _ r h => by simp [spec_l10Name.l0] at h
  | k + 1 => by
    have ih0 := spec_l10Name.mono_l k
    · intro y0 y1
      unfold spec_l10Name.l0
      repeat' first
      | (with_reducible exact ih0 _ _)
      | (with_reducible exact LeO.refl _)
      | (with_reducible exact LeO.none _)
      | (with_reducible refine LeO.ite ?_ ?_)
      | (with_reducible refine LeO.bind ?_ (fun _ => ?_))
      | exact ih0 _ _
      | exact LeO.none _
      | refine LeO.ite ?_ ?_
      | refine LeO.bind ?_ (fun _ => ?_)
theorem spec_l10Name.mono : ∀ a0 k, LeO (spec_l10Name.f k a0) (spec_l10Name.f (k + 1) a0) := by
  intro a0 k
  have ih0 := spec_l10Name.mono_l k
  unfold spec_l10Name.f
  repeat' first
      | (with_reducible exact ih0 _ _)
      | (with_reducible exact LeO.refl _)
      | (with_reducible exact LeO.none _)
      | (with_reducible refine LeO.ite ?_ ?_)
      | (with_reducible refine LeO.bind ?_ (fun _ => ?_))
      | exact ih0 _ _
      | exact LeO.none _
      | refine LeO.ite ?_ ?_
      | refine LeO.bind ?_ (fun _ => ?_)
set_option maxHeartbeats 8000000 in
set_option maxRecDepth 100000 in
theorem spec_l10Name.calls (k : Nat) (a0 : ByteArray) (r : Bool) (w : World) (h : spec_l10Name.f k a0 = some r) :
    Calls Tryd.prog 42 #[.string a0] w fun e w' => e = .returned (.bool r) ∧ Drawn0 w w' := by
 have H : (spec_l10Name.l0 k a0 0) = some r := h
 clear h
 have H' := zm H
 clear H
 go_enter Tryd.func42, Tryd.ntmps42
 go_wp2
 go_loopg [3] k (fun kq v3 w' => ∃ (x3_1 : Int), v3 = .int .i64 x3_1 ∧ Aside0 (spec_l10Name.l0 kq a0 x3_1 = some r) ∧ Aside0 (kq ≤ k) ∧ Drawn0 w w')
 case atStart => exact ⟨(0), zr, H', ⟨Nat.le_refl _⟩, by repeat (first | exact Drawn0.refl _ | apply Drawn0.step)⟩
 case round =>
  clear H'
  obtain ⟨x3_1, rfl, HA, HK1, ⟨m1, rfl⟩⟩ := hrel
  cases gk with
  | zero => exact absurd HA.out (by simp [spec_l10Name.l0])
  | succ k1 =>
   have H := HA.out
   clear HA
   simp only [spec_l10Name.l0] at H
   by_cases c2 : x3_1 < (a0.size : Int)
   ·rw [if_pos c2] at H
    have c2b0 : decide (x3_1 < (a0.size : Int)) = true := decide_eq_true c2
    clear c2
    by_cases c3 : 0 ≤ x3_1
    ·rw [if_pos c3] at H
     have c3b0 : decide (0 ≤ x3_1) = true := decide_eq_true c3
     clear c3
     by_cases c5 : (bt a0 x3_1) < 97
     ·rw [if_pos c5] at H
      have c5b0 : decide ((bt a0 x3_1) < 97) = true := decide_eq_true c5
      clear c5
      obtain rfl := Option.some.inj H
      have p4 : 0 ≤ (x3_1 : Int) := zd
      have q4 : x3_1 < (a0.size : Int) := zd
      have hx4 := bt_at a0 x3_1
      replace p4 := eq_true p4
      replace q4 := eq_true q4
      go_wp2
      go_ret
      exact ⟨zr, by repeat (first | exact Drawn0.refl _ | apply Drawn0.step)⟩
     ·rw [if_neg c5] at H
      have c5b0 : decide ((bt a0 x3_1) < 97) = false := decide_eq_false c5
      clear c5
      by_cases c7 : (bt a0 x3_1) > 122
      ·rw [if_pos c7] at H
       have c7b0 : decide (122 < (bt a0 x3_1)) = true := decide_eq_true c7
       clear c7
       obtain rfl := Option.some.inj H
       have p4 : 0 ≤ (x3_1 : Int) := zd
       have q4 : x3_1 < (a0.size : Int) := zd
       have hx4 := bt_at a0 x3_1
       replace p4 := eq_true p4
       replace q4 := eq_true q4
       have p6 : 0 ≤ (x3_1 : Int) := zd
       have q6 : x3_1 < (a0.size : Int) := zd
       have hx6 := bt_at a0 x3_1
       replace p6 := eq_true p6
       replace q6 := eq_true q6
       go_wp2
       go_ret
       exact ⟨zr, by repeat (first | exact Drawn0.refl _ | apply Drawn0.step)⟩
      ·rw [if_neg c7] at H
       have c7b0 : decide (122 < (bt a0 x3_1)) = false := decide_eq_false c7
       clear c7
       have H' := zm H
       clear H
       have p4 : 0 ≤ (x3_1 : Int) := zd
       have q4 : x3_1 < (a0.size : Int) := zd
       have hx4 := bt_at a0 x3_1
       replace p4 := eq_true p4
       replace q4 := eq_true q4
       have p6 : 0 ≤ (x3_1 : Int) := zd
       have q6 : x3_1 < (a0.size : Int) := zd
       have hx6 := bt_at a0 x3_1
       replace p6 := eq_true p6
       replace q6 := eq_true q6
       go_wp2
       go_roundg k1
       case measure => have := HK1.out; omega
       case rel => exact ⟨(wrap64 (x3_1 + 1)), zr, H', ⟨by have := HK1.out; omega⟩, by repeat (first | exact Drawn0.refl _ | apply Drawn0.step)⟩
    ·rw [if_neg c3] at H
     exact absurd H (by simp)
   ·rw [if_neg c2] at H
    have c2b0 : decide (x3_1 < (a0.size : Int)) = false := decide_eq_false c2
    clear c2
    replace H := Option.bind_eq_some_iff.mp H
    obtain ⟨t106, A80, H⟩ := H
    replace H : (some t106) = some r := H
    have A8 := zm A80
    clear A80
    obtain rfl := Option.some.inj H
    go_wp2_with (first | ((with_reducible refine gate_callee (f := 41) rfl ?_); refine goesL_ (some 22) rfl rfl Tryd.func41 (by kernel_rfl) rfl #[.int .i64 (a0.size : Int), .int .i64 1, .int .i64 6] rfl zq ?_; (with_reducible refine (spec_l01In.calls (a0.size : Int) 1 6 t106 _ A8.out).mono ?_); rintro e w' ⟨rfl, ⟨nd, rfl⟩⟩; refine ⟨_, rfl, ?_⟩))
    go_ret
    exact ⟨zr, by repeat (first | exact Drawn0.refl _ | apply Drawn0.step)⟩
/-! ### spec_l13Words: function 66 -/
def spec_l13Words.f  : Option (List ByteArray) := some (([(⟨#[]⟩ : ByteArray), (⟨#[114, 101, 97, 100]⟩ : ByteArray), (⟨#[119, 114, 105, 116, 101]⟩ : ByteArray), (⟨#[122, 101, 114, 111]⟩ : ByteArray), (⟨#[114, 101, 115, 105, 122, 101]⟩ : ByteArray), (⟨#[99, 114, 101, 97, 116, 101]⟩ : ByteArray), (⟨#[100, 101, 108, 101, 116, 101]⟩ : ByteArray), (⟨#[114, 101, 118, 101, 114, 116]⟩ : ByteArray), (⟨#[108, 105, 115, 116]⟩ : ByteArray)] : List ByteArray))
set_option maxHeartbeats 8000000 in
set_option maxRecDepth 100000 in
theorem spec_l13Words.calls  (r : List ByteArray) (w : World) (h : spec_l13Words.f  = some r) :
    Calls Tryd.prog 66 #[] w fun e w' => ∃ v0_ : Value, e = .returned (v0_) ∧ Kd.R Kd.string 9 w' w.heap.size (fun _ => True) v0_ r ∧ Below w.heap.size w w' := by
 have HB := zm (Below.refl w.heap.size w)
 have H : (some (([(⟨#[]⟩ : ByteArray), (⟨#[114, 101, 97, 100]⟩ : ByteArray), (⟨#[119, 114, 105, 116, 101]⟩ : ByteArray), (⟨#[122, 101, 114, 111]⟩ : ByteArray), (⟨#[114, 101, 115, 105, 122, 101]⟩ : ByteArray), (⟨#[99, 114, 101, 97, 116, 101]⟩ : ByteArray), (⟨#[100, 101, 108, 101, 116, 101]⟩ : ByteArray), (⟨#[114, 101, 118, 101, 114, 116]⟩ : ByteArray), (⟨#[108, 105, 115, 116]⟩ : ByteArray)] : List ByteArray))) = some r := h
 clear h
 obtain ⟨y113, hy113⟩ : ∃ y_ : List ByteArray, y_ = (([(⟨#[]⟩ : ByteArray), (⟨#[114, 101, 97, 100]⟩ : ByteArray), (⟨#[119, 114, 105, 116, 101]⟩ : ByteArray), (⟨#[122, 101, 114, 111]⟩ : ByteArray), (⟨#[114, 101, 115, 105, 122, 101]⟩ : ByteArray), (⟨#[99, 114, 101, 97, 116, 101]⟩ : ByteArray), (⟨#[100, 101, 108, 101, 116, 101]⟩ : ByteArray), (⟨#[114, 101, 118, 101, 114, 116]⟩ : ByteArray), (⟨#[108, 105, 115, 116]⟩ : ByteArray)] : List ByteArray)) := ⟨_, rfl⟩
 replace H : (some y113) = some r := by first | (rw [hy113]; with_reducible exact H) | (have H2_ := (Option.bind_some _ _).symm.trans H; rw [hy113]; with_reducible exact H2_) | (have H2_ := (Option.bind_some _ _).symm.trans H; with_reducible exact H2_) | with_reducible exact H | (rw [hy113]; exact H) | exact H
 have Ny113 := zm hy113
 clear hy113
 obtain rfl := Option.some.inj H
 go_enter Tryd.func66, Tryd.ntmps66
 go_wp2_with (first | ((with_reducible refine gate_dst (N := 1) rfl ?_); refine Kd.R_lit Kd.string _ 9 ?hg (N := 1) ?hd (xs := ([(⟨#[]⟩ : ByteArray), (⟨#[114, 101, 97, 100]⟩ : ByteArray), (⟨#[119, 114, 105, 116, 101]⟩ : ByteArray), (⟨#[122, 101, 114, 111]⟩ : ByteArray), (⟨#[114, 101, 115, 105, 122, 101]⟩ : ByteArray), (⟨#[99, 114, 101, 97, 116, 101]⟩ : ByteArray), (⟨#[100, 101, 108, 101, 116, 101]⟩ : ByteArray), (⟨#[114, 101, 118, 101, 114, 116]⟩ : ByteArray), (⟨#[108, 105, 115, 116]⟩ : ByteArray)] : List ByteArray)) (inner := [.string (⟨#[]⟩ : ByteArray), .string (⟨#[114, 101, 97, 100]⟩ : ByteArray), .string (⟨#[119, 114, 105, 116, 101]⟩ : ByteArray), .string (⟨#[122, 101, 114, 111]⟩ : ByteArray), .string (⟨#[114, 101, 115, 105, 122, 101]⟩ : ByteArray), .string (⟨#[99, 114, 101, 97, 116, 101]⟩ : ByteArray), .string (⟨#[100, 101, 108, 101, 116, 101]⟩ : ByteArray), .string (⟨#[114, 101, 118, 101, 114, 116]⟩ : ByteArray), .string (⟨#[108, 105, 115, 116]⟩ : ByteArray)]) (ok := fun _ => True) (okp := fun _ => True) ?hr ?hp (fun _ hk => hk) trivial (Below.refl _ _) (Nat.le_refl _) (by simp) ?_; (case hd => rfl); (case hg => rfl); (case hr => first | (go_simp; done) | (go_simp; rfl)); (case hp => exact (Reps.one (show Kd.M Kd.string _ _ _ (⟨#[]⟩ : ByteArray) [.string (⟨#[]⟩ : ByteArray)] from rfl) (Reps.one (show Kd.M Kd.string _ _ _ (⟨#[114, 101, 97, 100]⟩ : ByteArray) [.string (⟨#[114, 101, 97, 100]⟩ : ByteArray)] from rfl) (Reps.one (show Kd.M Kd.string _ _ _ (⟨#[119, 114, 105, 116, 101]⟩ : ByteArray) [.string (⟨#[119, 114, 105, 116, 101]⟩ : ByteArray)] from rfl) (Reps.one (show Kd.M Kd.string _ _ _ (⟨#[122, 101, 114, 111]⟩ : ByteArray) [.string (⟨#[122, 101, 114, 111]⟩ : ByteArray)] from rfl) (Reps.one (show Kd.M Kd.string _ _ _ (⟨#[114, 101, 115, 105, 122, 101]⟩ : ByteArray) [.string (⟨#[114, 101, 115, 105, 122, 101]⟩ : ByteArray)] from rfl) (Reps.one (show Kd.M Kd.string _ _ _ (⟨#[99, 114, 101, 97, 116, 101]⟩ : ByteArray) [.string (⟨#[99, 114, 101, 97, 116, 101]⟩ : ByteArray)] from rfl) (Reps.one (show Kd.M Kd.string _ _ _ (⟨#[100, 101, 108, 101, 116, 101]⟩ : ByteArray) [.string (⟨#[100, 101, 108, 101, 116, 101]⟩ : ByteArray)] from rfl) (Reps.one (show Kd.M Kd.string _ _ _ (⟨#[114, 101, 118, 101, 114, 116]⟩ : ByteArray) [.string (⟨#[114, 101, 118, 101, 114, 116]⟩ : ByteArray)] from rfl) (Reps.one (show Kd.M Kd.string _ _ _ (⟨#[108, 105, 115, 116]⟩ : ByteArray) [.string (⟨#[108, 105, 115, 116]⟩ : ByteArray)] from rfl) (Reps.none _ _))))))))))); intro v114 w1 ho2 hb hg_ hnew_; clear hg_ hnew_; (first | rw [← Ny113.out] at ho2 | (simp only [Int.reduceToNat] at ho2; rw [← Ny113.out] at ho2)); have n0_ := zm (Kd.R_lower ho2 (below_size (zg_0 HB.out))); have n1_ := zm (below_step (zg_0 HB.out) hb); clear HB; have HO115 := n0_; have HB := n1_; clear n0_ n1_; clear hb ho2))
 go_ret
 exact ⟨_, by first | rfl | (simp [errW_none, errW_some] <;> rfl) | (simp [*, errW_none, errW_some] <;> rfl), by (with_reducible repeat (first | apply Kd.R_alloc | apply Kd.R_drewN | apply Kd.R_drew)); exact HO115.out, zg_0 HB.out⟩
end Go.Proofs.YtniceoohmhjjlaaDoor.Q
