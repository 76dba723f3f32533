/- What laws.FnExactGuestOf reaches, part 2: the functions as Lean functions, the proofs that the program's functions answer so, and plain laws about them. -/
import Derived.Test.YtglcnnmobkocmaaGreatKFnExactGuestOf1
namespace Go.Proofs.YtglcnnmobkocmaaGreat.Q
open Go.RowKit Go.Proofs.YtglcnnmobkocmaaGreat.Ext Go.Proofs.YtglcnnmobkocmaaGreatW.PrintWords Go.Proofs.YtglcnnmobkocmaaGreatW.PrintLast Go.Proofs.YtglcnnmobkocmaaGreatW.PrintMore
attribute [local go_sem] max2_int min2_int max_two min_two max_three min_three max_four min_four   -- for this text's walks alone
set_option linter.unusedVariables false
set_option linter.unusedSimpArgs false

set_option linter.unusedVariables false
set_option linter.unusedSimpArgs false
/-! ### impl_snapNameOK: function 116 -/
def impl_snapNameOK.l0 : Nat → ByteArray → Int → Int → Option (Bool)
  | 0, _, _, _ => none
  | k + 1, x0, x5, x6 => if x6 < x5 then (if 0 ≤ x6 then (if x6 < (x0.size : Int) then (if (bt x0 x6) < 97 then (some false) else (if (bt x0 x6) > 122 then (some false) else (impl_snapNameOK.l0 k x0 x5 (wrap64 (x6 + 1))))) else (none)) else (none)) else ((impl_within.f (x0.size : Int) 1 6).bind fun t311 => (some t311))
def impl_snapNameOK.f (k : Nat) (a0 : ByteArray) : Option (Bool) := impl_snapNameOK.l0 k a0 (a0.size : Int) 0
theorem impl_snapNameOK.mono_l : ∀ k, (∀ y0 y1 y2, LeO (impl_snapNameOK.l0 k y0 y1 y2) (impl_snapNameOK.l0 (k + 1) y0 y1 y2))
  | 0 => fun _ _ _ r h => by simp [impl_snapNameOK.l0] at h
  | k + 1 => by
    have ih0 := impl_snapNameOK.mono_l k
    · intro y0 y1 y2
      unfold impl_snapNameOK.l0
      repeat' first
      | (with_reducible exact ih0 _ _ _)
      | (with_reducible exact LeO.refl _)
      | (with_reducible exact LeO.none _)
      | (with_reducible refine LeO.ite ?_ ?_)
      | (with_reducible refine LeO.bind ?_ (fun _ => ?_))
      | exact ih0 _ _ _
      | exact LeO.none _
      | refine LeO.ite ?_ ?_
      | refine LeO.bind ?_ (fun _ => ?_)
theorem impl_snapNameOK.mono : ∀ a0 k, LeO (impl_snapNameOK.f k a0) (impl_snapNameOK.f (k + 1) a0) := by
  intro a0 k
  have ih0 := impl_snapNameOK.mono_l k
  unfold impl_snapNameOK.f
  repeat' first
      | (with_reducible exact ih0 _ _ _)
      | (with_reducible exact LeO.refl _)
      | (with_reducible exact LeO.none _)
      | (with_reducible refine LeO.ite ?_ ?_)
      | (with_reducible refine LeO.bind ?_ (fun _ => ?_))
      | exact ih0 _ _ _
      | exact LeO.none _
      | refine LeO.ite ?_ ?_
      | refine LeO.bind ?_ (fun _ => ?_)
set_option maxHeartbeats 8000000 in
set_option maxRecDepth 100000 in
theorem impl_snapNameOK.calls (k : Nat) (a0 : ByteArray) (r : Bool) (w : World) (h : impl_snapNameOK.f k a0 = some r) :
    Calls Tryz.prog 116 #[.string a0] w fun e w' => e = .returned (.bool r) ∧ Drawn0 w w' := by
 have H : (impl_snapNameOK.l0 k a0 (a0.size : Int) 0) = some r := h
 clear h
 have H' := zm H
 clear H
 go_enter Tryz.func116, Tryz.ntmps116
 go_wp2
 go_loopg [6] k (fun kq v6 w' => ∃ (x6_1 : Int), v6 = .int .i64 x6_1 ∧ Aside0 (impl_snapNameOK.l0 kq a0 (a0.size : Int) x6_1 = some r) ∧ Aside0 (kq ≤ k) ∧ Drawn0 w w')
 case atStart => exact ⟨(0), zr, H', ⟨Nat.le_refl _⟩, by repeat (first | exact Drawn0.refl _ | apply Drawn0.step)⟩
 case round =>
  clear H'
  try clear c1
  obtain ⟨x6_1, rfl, HA, HK1, ⟨m1, rfl⟩⟩ := hrel
  cases gk with
  | zero => exact absurd HA.out (by simp [impl_snapNameOK.l0])
  | succ k1 =>
   have H := HA.out
   clear HA
   simp only [impl_snapNameOK.l0] at H
   by_cases c2 : x6_1 < (a0.size : Int)
   ·rw [if_pos c2] at H
    have c2b0 : decide (x6_1 < (a0.size : Int)) = true := decide_eq_true c2
    clear c2
    by_cases c3 : 0 ≤ x6_1
    ·rw [if_pos c3] at H
     have c3b0 : decide (0 ≤ x6_1) = true := decide_eq_true c3
     clear c3
     by_cases c4 : x6_1 < (a0.size : Int)
     ·rw [if_pos c4] at H
      have c4b0 : decide (x6_1 < (a0.size : Int)) = true := decide_eq_true c4
      clear c4
      by_cases c6 : (bt a0 x6_1) < 97
      ·rw [if_pos c6] at H
       have c6b0 : decide ((bt a0 x6_1) < 97) = true := decide_eq_true c6
       clear c6
       obtain rfl := Option.some.inj H
       have p5 : 0 ≤ (x6_1 : Int) := zd
       have q5 : x6_1 < (a0.size : Int) := zd
       have hx5 := bt_at a0 x6_1
       replace p5 := eq_true p5
       replace q5 := eq_true q5
       go_wp2
       go_ret
       exact ⟨zr, by repeat (first | exact Drawn0.refl _ | apply Drawn0.step)⟩
      ·rw [if_neg c6] at H
       have c6b0 : decide ((bt a0 x6_1) < 97) = false := decide_eq_false c6
       clear c6
       by_cases c8 : (bt a0 x6_1) > 122
       ·rw [if_pos c8] at H
        have c8b0 : decide (122 < (bt a0 x6_1)) = true := decide_eq_true c8
        clear c8
        obtain rfl := Option.some.inj H
        have p5 : 0 ≤ (x6_1 : Int) := zd
        have q5 : x6_1 < (a0.size : Int) := zd
        have hx5 := bt_at a0 x6_1
        replace p5 := eq_true p5
        replace q5 := eq_true q5
        have p7 : 0 ≤ (x6_1 : Int) := zd
        have q7 : x6_1 < (a0.size : Int) := zd
        have hx7 := bt_at a0 x6_1
        replace p7 := eq_true p7
        replace q7 := eq_true q7
        go_wp2
        go_ret
        exact ⟨zr, by repeat (first | exact Drawn0.refl _ | apply Drawn0.step)⟩
       ·rw [if_neg c8] at H
        have c8b0 : decide (122 < (bt a0 x6_1)) = false := decide_eq_false c8
        clear c8
        have H' := zm H
        clear H
        have p5 : 0 ≤ (x6_1 : Int) := zd
        have q5 : x6_1 < (a0.size : Int) := zd
        have hx5 := bt_at a0 x6_1
        replace p5 := eq_true p5
        replace q5 := eq_true q5
        have p7 : 0 ≤ (x6_1 : Int) := zd
        have q7 : x6_1 < (a0.size : Int) := zd
        have hx7 := bt_at a0 x6_1
        replace p7 := eq_true p7
        replace q7 := eq_true q7
        go_wp2
        go_roundg k1
        case measure => have := HK1.out; omega
        case rel => exact ⟨(wrap64 (x6_1 + 1)), zr, H', ⟨by have := HK1.out; omega⟩, by repeat (first | exact Drawn0.refl _ | apply Drawn0.step)⟩
     ·rw [if_neg c4] at H
      exact absurd H (by simp)
    ·rw [if_neg c3] at H
     exact absurd H (by simp)
   ·rw [if_neg c2] at H
    have c2b0 : decide (x6_1 < (a0.size : Int)) = false := decide_eq_false c2
    clear c2
    replace H := Option.bind_eq_some_iff.mp H
    obtain ⟨t311, A90, H⟩ := H
    replace H : (some t311) = some r := H
    have A9 := zm A90
    clear A90
    obtain rfl := Option.some.inj H
    go_wp2_with (first | ((with_reducible refine gate_callee (f := 112) rfl ?_); refine goesL_ (some 22) rfl rfl Tryz.func112 (by kernel_rfl) rfl #[.int .i64 (a0.size : Int), .int .i64 1, .int .i64 6] rfl zq ?_; (with_reducible refine (impl_within.calls (a0.size : Int) 1 6 t311 _ A9.out).mono ?_); rintro e w' ⟨rfl, ⟨nd, rfl⟩⟩; refine ⟨_, rfl, ?_⟩))
    go_ret
    exact ⟨zr, by repeat (first | exact Drawn0.refl _ | apply Drawn0.step)⟩
/-! ### all115_impl_snapNameOK: function 115 -/
def all115_impl_snapNameOK.f (k : Nat) (l0 : List ByteArray) (_ : Unit) : Option Bool := allO (fun x => impl_snapNameOK.f k x) l0
theorem all115_impl_snapNameOK.mono : ∀ a0 a1 k, LeO (all115_impl_snapNameOK.f k a0 a1) (all115_impl_snapNameOK.f (k + 1) a0 a1) := fun l u k => allO_mono (fun x => impl_snapNameOK.mono x k) l
theorem all115_impl_snapNameOK.asks (k : Nat) : Asks1 116 Kd.string (fun cs => cs.headD undef) (fun x => impl_snapNameOK.f k x) := ⟨⟨_, Tryz.func116, by kernel_rfl, rfl⟩, fun x cs r w hK h => by
  cases hK
  exact (impl_snapNameOK.calls k x r w h).mono fun e w' hh => ⟨hh.1, hh.2.below⟩⟩
theorem all115_impl_snapNameOK.calls (k : Nat) (A0 : Option Addr) (c0 : Nat) (l0 : List ByteArray) (_u : Unit) (r : Bool) (w : World) (hr0 : Kd.C Kd.string w A0 l0.length l0) (hc0 : l0.length ≤ c0) (h : all115_impl_snapNameOK.f k l0 () = some r) :
    Calls Tryz.prog 115 #[.slice A0 l0.length c0, .func (.func 116) #[] #[]] w fun e w' => e = .returned (.bool r) ∧ Below w.heap.size w w' :=
  all115 (all115_impl_snapNameOK.asks k) A0 c0 l0 r w hr0 hc0 h
/-! ### slices_Clone_string_string: function 113 -/
def slices_Clone_string_string.f (l0 : List ByteArray) : Option (List ByteArray) := if l0.length < 8796093022208 then some l0 else none
set_option maxHeartbeats 1000000 in
set_option maxRecDepth 100000 in
theorem slices_Clone_string_string.calls (A0 : Option Addr) (c0 : Nat) (l0 : List ByteArray) (r : List ByteArray) (w : World) (hr0 : Kd.C Kd.string w A0 l0.length l0) (hc0 : l0.length ≤ c0) (h : slices_Clone_string_string.f l0 = some r) :
    Calls Tryz.prog 113 #[.slice A0 l0.length c0] w fun e w' => ∃ v : Value, e = .returned v ∧ Kd.R Kd.string 9 w' w.heap.size (fun _ => True) v r ∧ Below w.heap.size w w' := by
  have hlim : l0.length < 8796093022208 := by
    unfold slices_Clone_string_string.f at h; split at h
    · assumption
    · cases h
  have hres : l0 = r := by unfold slices_Clone_string_string.f at h; rw [if_pos hlim] at h; exact Option.some.inj h
  subst hres
  have HR0 := Aside0.mk hr0
  have HB := Aside0.mk (Below.refl w.heap.size w)
  have LM := Aside0.mk hlim
  have heq := fun (wx : World) (a : Option Addr) => Lib.run_eql_slice_nil (P := Tryz.prog) wx 94 9 a l0.length c0 0 0 Tryz.underlying94
  clear hr0 h hlim
  cases A0 with
  | none =>
    have hl : l0 = [] := by
      by_cases hn : 0 < l0.length
      · obtain ⟨ad, ha, _⟩ := HR0.out.2.2 hn
        cases ha
      · exact List.eq_nil_of_length_eq_zero (by omega)
    subst hl
    simp only [List.length_nil] at heq
    clear HR0 LM
    go_enter Tryz.func113, Tryz.ntmps113
    go_wp2
    go_ret
    exact ⟨_, rfl, Kd.R_nil _ _ _ _ _, HB.out⟩
  | some a =>
    go_enter Tryz.func113, Tryz.ntmps113
    go_wp2_with (first | ((with_reducible refine gate_dst (N := 5) rfl ?_); refine Kd.R_lit Kd.string _ 9 ?hg (N := 5) ?hd (xs := ([] : List ByteArray)) (inner := []) (ok := fun _ => True) (okp := fun _ => True) ?hr ?hp (fun _ hk => hk) trivial (Below.refl _ _) (Nat.le_refl _) (by simp) ?_; (case hd => rfl); (case hg => rfl); (case hr => first | (go_simp; done) | (go_simp; rfl)); (case hp => exact (Reps.none _ _)); intro v5 w2 ho hb hg_ hnew_; clear hg_ hnew_; have HO := Aside0.mk ho; have HB2 := Aside0.mk hb; clear ho hb) | ((with_reducible refine gate_builtin (b := .append) (xs := #[.tmp 5, .tmp 6]) rfl ?_); at_builtin; refine Kd.R_append_rows Kd.string (w0 := w) w.heap.size rfl (.tmp 5) (.tmp 6) 94 9 (.string ⟨#[]⟩) 16 rfl Tryz.underlying94 info9 rfl (by decide) (by omega) v5 ([] : List ByteArray) l0 _ _ _ (fun _ => True) (fun _ => False) rfl rfl ?aO ?aR (fun _ _ h => h) (fun _ h => h.elim) ?aF ?aB ?aS ?aL ?_; (case aR => exact Kd.C_below HR0.out HB2.out); (case aB => exact HB2.out); (case aF => exact (fun _ _ => trivial)); (case aO => exact HO.out); (case aS => exact (below_size HB2.out)); (case aL => have := LM.out; simp; omega); intro v7 w3 ho hb hg hat; have HO3 := Aside0.mk ho; have HB3 := Aside0.mk hb; clear ho hb hg hat))
    go_ret
    exact ⟨_, rfl, by simpa using HO3.out, HB3.out⟩
/-! ### impl_areNames: function 73 -/
theorem impl_areNames_reps {l : List ByteArray} {inner : List Value} {w : World} {base : Nat} {ok : Nat → Prop} (h : Reps (Kd.M Kd.string w base ok) 1 l inner) : inner = l.map Value.string := by
  obtain ⟨h1, h2⟩ := h
  refine List.ext_getElem (by rw [h1, List.length_map, Nat.mul_one]) (fun j hj hj' => ?_)
  have hl : j < l.length := by rw [List.length_map] at hj'; exact hj'
  have h3 : ((inner.drop (j * 1)).take 1) = [.string l[j]] := h2 j l[j] (List.getElem?_eq_getElem hl)
  rw [Nat.mul_one, List.drop_eq_getElem_cons hj, List.take_succ_cons, List.take_zero] at h3
  rw [List.getElem_map]
  injection h3
theorem impl_areNames_own {w : World} {base : Nat} {ok : Nat → Prop} {v : Value} {l : List ByteArray} (h : Kd.R Kd.string 9 w base ok v l) : w.ownsRow base 9 1 v l.length ((l.map (·.data.toList)).map encStr) := by
  rw [Lib.map_encStr]
  obtain ⟨_, inner, ho, hr⟩ := h
  have := impl_areNames_reps hr
  subst this; exact ho
theorem impl_areNames_held {w w' : World} {g : Nat} {d : Array (List UInt8)} (h : Sort.Holds encStr w g 0 d) (hb : Below w.heap.size w w') (hg : g < w.heap.size) : Sort.Holds encStr w' g 0 d := fun j hj => by
  obtain ⟨h1, h2⟩ := h j hj
  refine ⟨pw_cell_below hb h1, ?_⟩
  have := hb.block g hg
  unfold World.frozen? at h2 ⊢
  simpa [this] using h2
def impl_areNames_sorted (l : List ByteArray) : List (List UInt8) := (l.map (·.data.toList)).mergeSort (fun x y => decide (x ≤ y))
def impl_areNames.f (k : Nat) (l0 : List ByteArray) : Option Bool := if l0.length < 8796093022208 then (if (l0.length : Int) ≤ 3 then ((all115_impl_snapNameOK.f k l0 ()).bind fun t => if t = true then some (((Lib.compact (impl_areNames_sorted l0)).length : Int) == (l0.length : Int)) else some false) else some false) else none
theorem impl_areNames.mono : ∀ a0 k, LeO (impl_areNames.f k a0) (impl_areNames.f (k + 1) a0) := fun l k => LeO.ite (LeO.ite (LeO.bind (all115_impl_snapNameOK.mono l () k) fun t => LeO.refl _) (LeO.refl _)) (LeO.refl _)
set_option maxHeartbeats 4000000 in
set_option maxRecDepth 100000 in
theorem impl_areNames.calls (k : Nat) (A0 : Option Addr) (c0 : Nat) (l0 : List ByteArray) (r : Bool) (w : World) (hr0 : Kd.C Kd.string w A0 l0.length l0) (hc0 : l0.length ≤ c0) (h : impl_areNames.f k l0 = some r) :
    Calls Tryz.prog 73 #[.slice A0 l0.length c0] w fun e w' => e = .returned (.bool r) ∧ Below w.heap.size w w' := by
 unfold impl_areNames.f at h
 have hlim : l0.length < 8796093022208 := by
  by_cases c : l0.length < 8796093022208
  ·exact c
  ·rw [if_neg c] at h; cases h
 rw [if_pos hlim] at h
 have hclone : slices_Clone_string_string.f l0 = some l0 := by unfold slices_Clone_string_string.f; exact if_pos hlim
 have key : ∀ (w1 : World) (v1 : Value), Below w.heap.size w w1 → Kd.R Kd.string 9 w1 w.heap.size (fun _ => True) v1 l0 →
  ∃ A1 c1, v1 = .slice A1 l0.length c1 ∧ Calls Tryz.prog 114 #[.slice A1 l0.length c1] w1 (fun e w2 => e = .returned (.tuple #[]) ∧ Below w.heap.size w w2 ∧ ∀ w3, Below w2.heap.size w2 w3 → Calls Tryz.prog 117 #[.slice A1 l0.length c1] w3 (fun e w' => ∃ A2 c2, e = .returned (.slice A2 (Lib.compact (impl_areNames_sorted l0)).length c2) ∧ Below w.heap.size w w')) := by
  intro w1 v1 hb1 hR
  have hown := impl_areNames_own hR
  obtain ⟨A1, c1, e1⟩ := Kd.R_slice hR
  by_cases hn : l0 = []
  ·subst hn
   refine ⟨A1, c1, e1, (calls_of_every_depth fun D => AnyS.slices_Sort_string_none_alone Tryz.laysSort D A1 c1 w1).mono ?_⟩
   rintro e w' ⟨rfl, rfl⟩
   refine ⟨rfl, hb1, fun w3 hb3 => (calls_of_every_depth fun D => AnyS.slices_Compact_string_empty_in Tryz.laysCompact D A1 c1 w3).mono ?_⟩
   rintro e w' ⟨rfl, rfl⟩
   exact ⟨A1, c1, by simp [impl_areNames_sorted, Lib.compact, Lib.compactUpTo], below_step hb1 hb3⟩
  ·have hpos : 0 < l0.length := List.length_pos_iff.2 hn
   have hnn : v1 ≠ .slice none 0 0 := by rw [e1]; intro e; injection e with _ e2 _; omega
   obtain ⟨g, cap, e2, hbg, hgl, hncap, hcm, hlen, hH⟩ := Lib.holds_of_ownsRow hown hnn
   rw [e2] at e1
   injection e1 with e3 _ e4
   subst e3 e4 e2
   have hl2 : (impl_areNames_sorted l0).length = l0.length := by unfold impl_areNames_sorted; rw [List.length_mergeSort, List.length_map]
   have hsort := calls_of_every_depth fun D => AnyS.slices_Sort_string_alone Tryz.laysSort D g 0 cap (l0.map (·.data.toList)) w1 hH hgl (by rw [hlen]; omega)
   rw [hlen] at hsort
   refine ⟨_, _, rfl, hsort.mono ?_⟩
   rintro e w2 ⟨rfl, nn, os, rfl⟩
   refine ⟨rfl, hb1.grown (grownBy_sorted _) hb1.size (fun j hj => by cases hj; exact hbg), fun w3 hb3 => ?_⟩
   have hsz : g < (Sort.grow (Sort.putRow encStr (Sort.ahead w1 nn) g 0 (impl_areNames_sorted l0).toArray) os).heap.size := Nat.lt_of_lt_of_le hgl (grownBy_sorted (n := nn) (os := os) _).size
   have hH2 : Sort.Holds encStr (Sort.grow (Sort.putRow encStr (Sort.ahead w1 nn) g 0 (impl_areNames_sorted l0).toArray) os) g 0 (impl_areNames_sorted l0).toArray :=
    Sort.holds_grow encStr _ os g 0 _ (by simpa [Sort.putRow, Sort.mapBlock, Sort.ahead] using hgl) (Sort.holds_putRow encStr _ g 0 _ _ (Sort.holds_ahead encStr w1 nn g 0 _ hH) (by simp [impl_areNames_sorted]))
   have hH3 := impl_areNames_held hH2 hb3 hsz
   have hcomp := calls_of_every_depth fun D => AnyS.slices_Compact_string_in Tryz.laysCompact D g 0 cap (impl_areNames_sorted l0) w3 hH3 (by rw [hl2]; omega) (by rw [hl2]; exact hncap)
   rw [hl2] at hcomp
   refine hcomp.mono ?_
   rintro e w4 ⟨rfl, q, rfl⟩
   exact ⟨_, _, rfl, Lib.below_putRow (below_step (hb1.grown (grownBy_sorted _) hb1.size (fun j hj => by cases hj; exact hbg)) hb3) hbg⟩
 have HR0 := zm hr0
 have HC0 := zm hc0
 have HCL := zm hclone
 have KEY := zm key
 clear key hclone hr0 hc0
 by_cases c3 : (l0.length : Int) ≤ 3
 ·rw [if_pos c3] at h
  obtain ⟨t, ht, h⟩ := Option.bind_eq_some_iff.mp h
  have hd : decide ((l0.length : Int) ≤ 3) = true := decide_eq_true c3
  have HT := zm ht
  clear ht
  cases t
  ·cases h
   go_enter Tryz.func73, Tryz.ntmps73
   go_wp2_with (first
    | (go_at_call 113; refine (slices_Clone_string_string.calls A0 c0 l0 l0 w HR0.out HC0.out HCL.out).mono ?_; rintro e w1 ⟨v1, rfl, hR, hB1⟩; obtain ⟨A1, c1, rfl, hS⟩ := KEY.out w1 v1 hB1 hR; have HS := zm hS; clear hS hR hB1)
    | (go_at_call 114; refine HS.out.mono ?_; rintro e w2 ⟨rfl, hB2, hC⟩; have HB2 := zm hB2; have HC := zm hC; clear hB2 hC)
    | (go_at_call 115; refine (all115_impl_snapNameOK.calls k A0 c0 l0 () false w2 (Kd.C_below HR0.out HB2.out) HC0.out HT.out).mono ?_; rintro e w3 ⟨rfl, hB3⟩; have HB3 := zm hB3; clear hB3))
   go_ret
   exact ⟨rfl, below_step HB2.out HB3.out⟩
  ·cases h
   go_enter Tryz.func73, Tryz.ntmps73
   go_wp2_with (first
    | (go_at_call 113; refine (slices_Clone_string_string.calls A0 c0 l0 l0 w HR0.out HC0.out HCL.out).mono ?_; rintro e w1 ⟨v1, rfl, hR, hB1⟩; obtain ⟨A1, c1, rfl, hS⟩ := KEY.out w1 v1 hB1 hR; have HS := zm hS; clear hS hR hB1)
    | (go_at_call 114; refine HS.out.mono ?_; rintro e w2 ⟨rfl, hB2, hC⟩; have HB2 := zm hB2; have HC := zm hC; clear hB2 hC)
    | (go_at_call 115; refine (all115_impl_snapNameOK.calls k A0 c0 l0 () true w2 (Kd.C_below HR0.out HB2.out) HC0.out HT.out).mono ?_; rintro e w3 ⟨rfl, hB3⟩; have HB3 := zm hB3; clear hB3)
    | (go_at_call 117; refine (HC.out w3 HB3.out).mono ?_; rintro e w4 ⟨A2, c2, rfl, hB4⟩; have HB4 := zm hB4; clear hB4))
   go_ret
   exact ⟨rfl, HB4.out⟩
 ·rw [if_neg c3] at h
  cases h
  have hd : decide ((l0.length : Int) ≤ 3) = false := decide_eq_false c3
  go_enter Tryz.func73, Tryz.ntmps73
  go_wp2_with (first
   | (go_at_call 113; refine (slices_Clone_string_string.calls A0 c0 l0 l0 w HR0.out HC0.out HCL.out).mono ?_; rintro e w1 ⟨v1, rfl, hR, hB1⟩; obtain ⟨A1, c1, rfl, hS⟩ := KEY.out w1 v1 hB1 hR; have HS := zm hS; clear hS hR hB1)
   | (go_at_call 114; refine HS.out.mono ?_; rintro e w2 ⟨rfl, hB2, hC⟩; have HB2 := zm hB2; have HC := zm hC; clear hB2 hC))
  go_ret
  exact ⟨rfl, HB2.out⟩
/-! ### impl_Image_nearlyOK: function 34 -/
def impl_Image_nearlyOK.f (k : Nat) (l0_0 : List Int) (l0_1 : List Int) (l0_2 : List (S103)) (l0_3 : List Int) : Option (Bool) := (impl_RefsOK.f l0_0).bind fun t332 => (if t332 = true then (if (l0_2.length : Int) ≤ 3 then ((impl_Image_names.f k l0_0 l0_1 l0_2 l0_3).bind fun t333 => ((impl_areNames.f k t333).bind fun t336 => (if t336 = true then ((impl_Image_tables.f k l0_0 l0_1 l0_2 l0_3).bind fun t337 => ((all75_impl_Image_nearlyOK_1.f k t337 ()).bind fun t340 => (if t340 = true then (if (l0_3.length : Int) = 24 then ((all80_impl_isNumber.f l0_3 ()).bind fun t341 => (some t341)) else (some false)) else (some false)))) else (some false)))) else (some false)) else (some false))
theorem impl_Image_nearlyOK.mono : ∀ a0 a1 a2 a3 k, LeO (impl_Image_nearlyOK.f k a0 a1 a2 a3) (impl_Image_nearlyOK.f (k + 1) a0 a1 a2 a3) := by
  intro a0 a1 a2 a3 k
  unfold impl_Image_nearlyOK.f
  repeat' first
      | (with_reducible exact all75_impl_Image_nearlyOK_1.mono _ _ _)
      | (with_reducible exact impl_Image_names.mono _ _ _ _ _)
      | (with_reducible exact impl_Image_tables.mono _ _ _ _ _)
      | (with_reducible exact impl_areNames.mono _ _)
      | (with_reducible exact LeO.refl _)
      | (with_reducible exact LeO.none _)
      | (with_reducible refine LeO.ite ?_ ?_)
      | (with_reducible refine LeO.bind ?_ (fun _ => ?_))
      | exact all75_impl_Image_nearlyOK_1.mono _ _ _
      | exact impl_Image_names.mono _ _ _ _ _
      | exact impl_Image_tables.mono _ _ _ _ _
      | exact impl_areNames.mono _ _
      | exact LeO.none _
      | refine LeO.ite ?_ ?_
      | refine LeO.bind ?_ (fun _ => ?_)
set_option maxHeartbeats 8000000 in
set_option maxRecDepth 100000 in
theorem impl_Image_nearlyOK.calls (k : Nat) (A0_0 : Option Addr) (c0_0 : Nat) (l0_0 : List Int) (A0_1 : Option Addr) (c0_1 : Nat) (l0_1 : List Int) (A0_2 : Option Addr) (c0_2 : Nat) (l0_2 : List (S103)) (A0_3 : Option Addr) (c0_3 : Nat) (l0_3 : List Int) (r : Bool) (w : World) (hr0_0 : Kd.C (Kd.int .i64) w A0_0 l0_0.length l0_0) (hc0_0 : l0_0.length ≤ c0_0) (hr0_1 : Kd.C (Kd.int .i64) w A0_1 l0_1.length l0_1) (hc0_1 : l0_1.length ≤ c0_1) (hr0_2 : Kd.C k103 w A0_2 l0_2.length l0_2) (hc0_2 : l0_2.length ≤ c0_2) (hr0_3 : Kd.C (Kd.int .i64) w A0_3 l0_3.length l0_3) (hc0_3 : l0_3.length ≤ c0_3) (h : impl_Image_nearlyOK.f k l0_0 l0_1 l0_2 l0_3 = some r) :
    Calls Tryz.prog 34 #[.agg #[.slice A0_0 l0_0.length c0_0, .slice A0_1 l0_1.length c0_1, .slice A0_2 l0_2.length c0_2, .slice A0_3 l0_3.length c0_3]] w fun e w' => e = .returned (.bool r) ∧ Below w.heap.size w w' := by
 have hu26 := Tryz.underlying26
 have Ze := zm hr0_0
 have Zf := zm hc0_0
 clear hr0_0 hc0_0
 have Zj := zm hr0_1
 have Zk := zm hc0_1
 clear hr0_1 hc0_1
 have Zl := zm hr0_2
 have Zm := zm hc0_2
 clear hr0_2 hc0_2
 have Zh := zm hr0_3
 have Zi := zm hc0_3
 clear hr0_3 hc0_3
 have HB := zm (Below.refl w.heap.size w)
 have H : ((impl_RefsOK.f l0_0).bind fun t332 => (if t332 = true then (if (l0_2.length : Int) ≤ 3 then ((impl_Image_names.f k l0_0 l0_1 l0_2 l0_3).bind fun t333 => ((impl_areNames.f k t333).bind fun t336 => (if t336 = true then ((impl_Image_tables.f k l0_0 l0_1 l0_2 l0_3).bind fun t337 => ((all75_impl_Image_nearlyOK_1.f k t337 ()).bind fun t340 => (if t340 = true then (if (l0_3.length : Int) = 24 then ((all80_impl_isNumber.f l0_3 ()).bind fun t341 => (some t341)) else (some false)) else (some false)))) else (some false)))) else (some false)) else (some false))) = some r := h
 clear h
 replace H := Option.bind_eq_some_iff.mp H
 obtain ⟨t332, A20, H⟩ := H
 replace H : (if t332 = true then (if (l0_2.length : Int) ≤ 3 then ((impl_Image_names.f k l0_0 l0_1 l0_2 l0_3).bind fun t333 => ((impl_areNames.f k t333).bind fun t336 => (if t336 = true then ((impl_Image_tables.f k l0_0 l0_1 l0_2 l0_3).bind fun t337 => ((all75_impl_Image_nearlyOK_1.f k t337 ()).bind fun t340 => (if t340 = true then (if (l0_3.length : Int) = 24 then ((all80_impl_isNumber.f l0_3 ()).bind fun t341 => (some t341)) else (some false)) else (some false)))) else (some false)))) else (some false)) else (some false)) = some r := H
 have A2 := zm A20
 clear A20
 by_cases c3 : t332 = true
 ·subst c3
  have H1 : (if (l0_2.length : Int) ≤ 3 then ((impl_Image_names.f k l0_0 l0_1 l0_2 l0_3).bind fun t333 => ((impl_areNames.f k t333).bind fun t336 => (if t336 = true then ((impl_Image_tables.f k l0_0 l0_1 l0_2 l0_3).bind fun t337 => ((all75_impl_Image_nearlyOK_1.f k t337 ()).bind fun t340 => (if t340 = true then (if (l0_3.length : Int) = 24 then ((all80_impl_isNumber.f l0_3 ()).bind fun t341 => (some t341)) else (some false)) else (some false)))) else (some false)))) else (some false)) = some r := by rw [if_pos rfl] at H; exact H
  clear H
  have H := H1
  clear H1
  by_cases c4 : (l0_2.length : Int) ≤ 3
  ·rw [if_pos c4] at H
   have c4b0 : decide ((l0_2.length : Int) ≤ 3) = true := decide_eq_true c4
   have c4b1 : decide (l0_2.length ≤ 3) = true := decide_eq_true (by omega)
   clear c4
   replace H := Option.bind_eq_some_iff.mp H
   obtain ⟨t333, A50, H⟩ := H
   replace H : ((impl_areNames.f k t333).bind fun t336 => (if t336 = true then ((impl_Image_tables.f k l0_0 l0_1 l0_2 l0_3).bind fun t337 => ((all75_impl_Image_nearlyOK_1.f k t337 ()).bind fun t340 => (if t340 = true then (if (l0_3.length : Int) = 24 then ((all80_impl_isNumber.f l0_3 ()).bind fun t341 => (some t341)) else (some false)) else (some false)))) else (some false))) = some r := H
   have A5 := zm A50
   clear A50
   replace H := Option.bind_eq_some_iff.mp H
   obtain ⟨t336, A60, H⟩ := H
   replace H : (if t336 = true then ((impl_Image_tables.f k l0_0 l0_1 l0_2 l0_3).bind fun t337 => ((all75_impl_Image_nearlyOK_1.f k t337 ()).bind fun t340 => (if t340 = true then (if (l0_3.length : Int) = 24 then ((all80_impl_isNumber.f l0_3 ()).bind fun t341 => (some t341)) else (some false)) else (some false)))) else (some false)) = some r := H
   have A6 := zm A60
   clear A60
   by_cases c7 : t336 = true
   ·subst c7
    have H1 : ((impl_Image_tables.f k l0_0 l0_1 l0_2 l0_3).bind fun t337 => ((all75_impl_Image_nearlyOK_1.f k t337 ()).bind fun t340 => (if t340 = true then (if (l0_3.length : Int) = 24 then ((all80_impl_isNumber.f l0_3 ()).bind fun t341 => (some t341)) else (some false)) else (some false)))) = some r := by rw [if_pos rfl] at H; exact H
    clear H
    have H := H1
    clear H1
    replace H := Option.bind_eq_some_iff.mp H
    obtain ⟨t337, A80, H⟩ := H
    replace H : ((all75_impl_Image_nearlyOK_1.f k t337 ()).bind fun t340 => (if t340 = true then (if (l0_3.length : Int) = 24 then ((all80_impl_isNumber.f l0_3 ()).bind fun t341 => (some t341)) else (some false)) else (some false))) = some r := H
    have A8 := zm A80
    clear A80
    replace H := Option.bind_eq_some_iff.mp H
    obtain ⟨t340, A90, H⟩ := H
    replace H : (if t340 = true then (if (l0_3.length : Int) = 24 then ((all80_impl_isNumber.f l0_3 ()).bind fun t341 => (some t341)) else (some false)) else (some false)) = some r := H
    have A9 := zm A90
    clear A90
    by_cases c10 : t340 = true
    ·subst c10
     have H1 : (if (l0_3.length : Int) = 24 then ((all80_impl_isNumber.f l0_3 ()).bind fun t341 => (some t341)) else (some false)) = some r := by rw [if_pos rfl] at H; exact H
     clear H
     have H := H1
     clear H1
     by_cases c11 : (l0_3.length : Int) = 24
     ·rw [if_pos c11] at H
      have c11b0 : ((l0_3.length : Int) == 24) = true := beq_iff_eq.mpr c11
      have c11b1 : ((l0_3.length : Int) != 24) = false := bne_eq_false_iff_eq.mpr c11
      clear c11
      replace H := Option.bind_eq_some_iff.mp H
      obtain ⟨t341, A120, H⟩ := H
      replace H : (some t341) = some r := H
      have A12 := zm A120
      clear A120
      obtain rfl := Option.some.inj H
      go_enter Tryz.func34, Tryz.ntmps34
      go_wp2_with (first | ((with_reducible refine gate_dst (N := 1) rfl ?_); (try (refine gate_guard (by rfl) ?_; dsimp only)); refine box_event ?hg (N := 1) ?hd (cs := #[.slice A0_0 l0_0.length c0_0, .slice A0_1 l0_1.length c0_1, .slice A0_2 l0_2.length c0_2, .slice A0_3 l0_3.length c0_3]) (t := 26) ?hr ?_; (case hd => rfl); (case hg => rfl); (case hr => first | (go_simp; done) | (go_simp; rfl)); intro gb331 hg w13 hbox hb; have n0_ := zm (below_step (zg_1 HB.out) hb); have n1_ := zm (hbox); have n2_ := zm ((by rw [hg]; exact (below_size (zg_1 HB.out)) : w.heap.size ≤ gb331)); have n3_ := zm ((by rw [hg]; exact (below_size (zg_1 HB.out)) : w.heap.size ≤ gb331)); clear HB; have HB := n0_; have Za := n1_; have Zg := n2_; have Zc := n3_; clear n0_ n1_ n2_ n3_; clear hb hbox hg; have hcz14_0 : w13.cell? ⟨gb331, 0, none⟩ = some (.slice A0_0 l0_0.length c0_0) := (blk_cell Za.out 0).trans rfl; have hcz14_1 : w13.cell? ⟨gb331, 1, none⟩ = some (.slice A0_1 l0_1.length c0_1) := (blk_cell Za.out 1).trans rfl; have hcz14_2 : w13.cell? ⟨gb331, 2, none⟩ = some (.slice A0_2 l0_2.length c0_2) := (blk_cell Za.out 2).trans rfl; have hcz14_3 : w13.cell? ⟨gb331, 3, none⟩ = some (.slice A0_3 l0_3.length c0_3) := (blk_cell Za.out 3).trans rfl; have hfz14_0 := blk_frozen Za.out 0; have hfz14_1 := blk_frozen Za.out 1; have hfz14_2 := blk_frozen Za.out 2; have hfz14_3 := blk_frozen Za.out 3) | ((with_reducible refine gate_callee (f := 72) rfl ?_); refine goesL_ (some 5) rfl rfl Tryz.func72 (by kernel_rfl) rfl #[.slice A0_0 l0_0.length c0_0] rfl zq ?_; (with_reducible refine (impl_RefsOK.calls _ _ l0_0 true _ ?side1 ?side2 A2.out).mono ?_); (case side1 => exact zC (Kd.C_below Ze.out HB.out)); (case side2 => exact Zf.out); rintro e w15 ⟨rfl, hb⟩; refine ⟨_, rfl, ?_⟩; have n0_ := zm (blk_below (g := gb331) (o := .cells #[.slice A0_0 l0_0.length c0_0, .slice A0_1 l0_1.length c0_1, .slice A0_2 l0_2.length c0_2, .slice A0_3 l0_3.length c0_3] 26 (0, 0)) (zg_3 Za.out) hb); have n1_ := zm (below_step (zg_2 HB.out Zc.out) hb); clear Za; clear HB; have Za := n0_; have HB := n1_; clear n0_ n1_; (try clear hb); (try clear hb2); (try clear hk); (try clear hi); have hcz16_0 : w15.cell? ⟨gb331, 0, none⟩ = some (.slice A0_0 l0_0.length c0_0) := (blk_cell Za.out 0).trans rfl; have hcz16_1 : w15.cell? ⟨gb331, 1, none⟩ = some (.slice A0_1 l0_1.length c0_1) := (blk_cell Za.out 1).trans rfl; have hcz16_2 : w15.cell? ⟨gb331, 2, none⟩ = some (.slice A0_2 l0_2.length c0_2) := (blk_cell Za.out 2).trans rfl; have hcz16_3 : w15.cell? ⟨gb331, 3, none⟩ = some (.slice A0_3 l0_3.length c0_3) := (blk_cell Za.out 3).trans rfl; have hfz16_0 := blk_frozen Za.out 0; have hfz16_1 := blk_frozen Za.out 1; have hfz16_2 := blk_frozen Za.out 2; have hfz16_3 := blk_frozen Za.out 3) | (go_at_call 74; (with_reducible refine (impl_Image_names.calls k _ _ l0_0 _ _ l0_1 _ _ l0_2 _ _ l0_3 t333 _ ?side1 ?side2 ?side3 ?side4 ?side5 ?side6 ?side7 ?side8 A5.out).mono ?_); (case side1 => exact zC (Kd.C_below Ze.out HB.out)); (case side2 => exact Zf.out); (case side3 => exact zC (Kd.C_below Zj.out HB.out)); (case side4 => exact Zk.out); (case side5 => exact zC (Kd.C_below Zl.out HB.out)); (case side6 => exact Zm.out); (case side7 => exact zC (Kd.C_below Zh.out HB.out)); (case side8 => exact Zi.out); rintro e w17 ⟨v334, rfl, ho0, hb⟩; have n0_ := zm (Kd.R_lower ho0 (below_size (zg_2 HB.out Zc.out))); have n1_ := zm (blk_below (g := gb331) (o := .cells #[.slice A0_0 l0_0.length c0_0, .slice A0_1 l0_1.length c0_1, .slice A0_2 l0_2.length c0_2, .slice A0_3 l0_3.length c0_3] 26 (0, 0)) (zg_3 Za.out) hb); have n2_ := zm (below_step (zg_2 HB.out Zc.out) hb); clear Za; clear HB; have Zb := n0_; have Za := n1_; have HB := n2_; clear n0_ n1_ n2_; (try clear hb); (try clear hb2); (try clear hk); (try clear hi); (try clear ho0); obtain ⟨Ao18, co18, eo18⟩ := Kd.R_slice Zb.out; subst eo18) | (go_at_call 73; (with_reducible refine (impl_areNames.calls k _ _ t333 true _ ?side1 ?side2 A6.out).mono ?_); (case side1 => exact zC ((Kd.R_reads' Zb.out).2.2)); (case side2 => exact (Kd.R_reads' Zb.out).2.1); rintro e w19 ⟨rfl, hb⟩; have n0_ := zm (Kd.R_below (zg_6 Zb.out) hb); have n1_ := zm (blk_below (g := gb331) (o := .cells #[.slice A0_0 l0_0.length c0_0, .slice A0_1 l0_1.length c0_1, .slice A0_2 l0_2.length c0_2, .slice A0_3 l0_3.length c0_3] 26 (0, 0)) (zg_3 Za.out) hb); have n2_ := zm (below_step (zg_2 HB.out Zc.out) hb); clear Zb; clear Za; clear HB; have Zb := n0_; have Za := n1_; have HB := n2_; clear n0_ n1_ n2_; (try clear hb); (try clear hb2); (try clear hk); (try clear hi); have hcz20_0 : w19.cell? ⟨gb331, 0, none⟩ = some (.slice A0_0 l0_0.length c0_0) := (blk_cell Za.out 0).trans rfl; have hcz20_1 : w19.cell? ⟨gb331, 1, none⟩ = some (.slice A0_1 l0_1.length c0_1) := (blk_cell Za.out 1).trans rfl; have hcz20_2 : w19.cell? ⟨gb331, 2, none⟩ = some (.slice A0_2 l0_2.length c0_2) := (blk_cell Za.out 2).trans rfl; have hcz20_3 : w19.cell? ⟨gb331, 3, none⟩ = some (.slice A0_3 l0_3.length c0_3) := (blk_cell Za.out 3).trans rfl; have hfz20_0 := blk_frozen Za.out 0; have hfz20_1 := blk_frozen Za.out 1; have hfz20_2 := blk_frozen Za.out 2; have hfz20_3 := blk_frozen Za.out 3) | (go_at_call 76; (with_reducible refine (impl_Image_tables.calls k _ _ l0_0 (fun k_ => k_ < w.heap.size) _ _ l0_1 (fun k_ => k_ < w.heap.size) _ _ l0_2 _ _ l0_3 t337 _ ?side1 ?side2 ?side3 ?side4 ?side5 ?side6 A8.out).mono ?_); (case side1 => exact zC (Kd.C_below Ze.out HB.out)); (case side2 => exact Zf.out); (case side3 => exact Kd.V_mk Zk.out (Kd.F_below (Kd.C_F (Kd.heap_int .i64) Zj.out) (zg_2 HB.out Zc.out))); (case side4 => exact Kd.V_mk Zm.out (Kd.F_below (Kd.C_F k103_heap Zl.out) (zg_2 HB.out Zc.out))); (case side5 => exact zC (Kd.C_below Zh.out HB.out)); (case side6 => exact Zi.out); rintro e w21 ⟨v338, rfl, ho0, hb⟩; have n0_ := zm (Kd.R_below (zg_6 Zb.out) hb); have n1_ := zm (Kd.N_lower (Kd.N_mono (ok' := fun k_ => some k_ ≠ (.slice Ao18 t333.length co18 : Value).ownBlock ∧ k_ ≠ gb331) ho0 (fun k_ hk_ => ⟨Or.elim hk_ (fun hs_ => Or.elim hs_ (fun hs_ => fun e_ => Nat.not_le.2 hs_ (Kd.R_base Zb.out k_ e_.symm)) (fun hs_ => fun e_ => Nat.not_le.2 hs_ (Kd.R_base Zb.out k_ e_.symm))) (fun hn_ => (Kd.fresh' (Kd.R_lt (zg_6 Zb.out)) k_ hn_)), Or.elim hk_ (fun hs_ => Or.elim hs_ (fun hs_ => fun e_ => Nat.not_le.2 hs_ (by rw [e_]; exact Zg.out)) (fun hs_ => fun e_ => Nat.not_le.2 hs_ (by rw [e_]; exact Zg.out))) (fun hn_ => (Kd.freshB (g := gb331) (o := .cells #[.slice A0_0 l0_0.length c0_0, .slice A0_1 l0_1.length c0_1, .slice A0_2 l0_2.length c0_2, .slice A0_3 l0_3.length c0_3] 26 (0, 0)) (zg_3 Za.out) k_ hn_))⟩)) (below_size (zg_2 HB.out Zc.out))); have n2_ := zm (blk_below (g := gb331) (o := .cells #[.slice A0_0 l0_0.length c0_0, .slice A0_1 l0_1.length c0_1, .slice A0_2 l0_2.length c0_2, .slice A0_3 l0_3.length c0_3] 26 (0, 0)) (zg_3 Za.out) hb); have n3_ := zm (below_step (zg_2 HB.out Zc.out) hb); clear Zb; clear Za; clear HB; have Zb := n0_; have Zd := n1_; have Za := n2_; have HB := n3_; clear n0_ n1_ n2_ n3_; (try clear hb); (try clear hb2); (try clear hk); (try clear hi); (try clear ho0); obtain ⟨Ao22, co22, eo22⟩ := Kd.N_slice Zd.out; subst eo22) | (go_at_call 75; (with_reducible refine (all75_impl_Image_nearlyOK_1.calls k _ _ t337 () true _ ?side1 ?side2 A9.out).mono ?_); (case side1 => exact zC ((Kd.N_reads' Zd.out).2.2)); (case side2 => exact (Kd.N_reads' Zd.out).2.1); rintro e w23 ⟨rfl, hb⟩; have n0_ := zm (Kd.R_below (zg_6 Zb.out) hb); have n1_ := zm (Kd.N_below (zg_4 Zd.out) hb); have n2_ := zm (blk_below (g := gb331) (o := .cells #[.slice A0_0 l0_0.length c0_0, .slice A0_1 l0_1.length c0_1, .slice A0_2 l0_2.length c0_2, .slice A0_3 l0_3.length c0_3] 26 (0, 0)) (zg_3 Za.out) hb); have n3_ := zm (below_step (zg_2 HB.out Zc.out) hb); clear Zb; clear Zd; clear Za; clear HB; have Zb := n0_; have Zd := n1_; have Za := n2_; have HB := n3_; clear n0_ n1_ n2_ n3_; (try clear hb); (try clear hb2); (try clear hk); (try clear hi); have hcz24_0 : w23.cell? ⟨gb331, 0, none⟩ = some (.slice A0_0 l0_0.length c0_0) := (blk_cell Za.out 0).trans rfl; have hcz24_1 : w23.cell? ⟨gb331, 1, none⟩ = some (.slice A0_1 l0_1.length c0_1) := (blk_cell Za.out 1).trans rfl; have hcz24_2 : w23.cell? ⟨gb331, 2, none⟩ = some (.slice A0_2 l0_2.length c0_2) := (blk_cell Za.out 2).trans rfl; have hcz24_3 : w23.cell? ⟨gb331, 3, none⟩ = some (.slice A0_3 l0_3.length c0_3) := (blk_cell Za.out 3).trans rfl; have hfz24_0 := blk_frozen Za.out 0; have hfz24_1 := blk_frozen Za.out 1; have hfz24_2 := blk_frozen Za.out 2; have hfz24_3 := blk_frozen Za.out 3) | (go_at_call 80; (with_reducible refine (all80_impl_isNumber.calls _ _ l0_3 () t341 _ ?side1 ?side2 A12.out).mono ?_); (case side1 => exact zC (Kd.C_below Zh.out HB.out)); (case side2 => exact Zi.out); rintro e w25 ⟨rfl, hb⟩; have n0_ := zm (Kd.R_below (zg_6 Zb.out) hb); have n1_ := zm (Kd.N_below (zg_4 Zd.out) hb); have n2_ := zm (blk_below (g := gb331) (o := .cells #[.slice A0_0 l0_0.length c0_0, .slice A0_1 l0_1.length c0_1, .slice A0_2 l0_2.length c0_2, .slice A0_3 l0_3.length c0_3] 26 (0, 0)) (zg_3 Za.out) hb); have n3_ := zm (below_step (zg_2 HB.out Zc.out) hb); clear Zb; clear Zd; clear Za; clear HB; have Zb := n0_; have Zd := n1_; have Za := n2_; have HB := n3_; clear n0_ n1_ n2_ n3_; (try clear hb); (try clear hb2); (try clear hk); (try clear hi)))
      go_ret
      exact ⟨by first | rfl | (simp [errW_none, errW_some] <;> rfl) | (simp [*, errW_none, errW_some] <;> rfl), zg_2 HB.out Zc.out⟩
     ·rw [if_neg c11] at H
      have c11b0 : ((l0_3.length : Int) == 24) = false := beq_eq_false_iff_ne.mpr c11
      have c11b1 : ((l0_3.length : Int) != 24) = true := bne_iff_ne.mpr c11
      obtain rfl := Option.some.inj H
      go_enter Tryz.func34, Tryz.ntmps34
      go_wp2_with (first | ((with_reducible refine gate_dst (N := 1) rfl ?_); (try (refine gate_guard (by rfl) ?_; dsimp only)); refine box_event ?hg (N := 1) ?hd (cs := #[.slice A0_0 l0_0.length c0_0, .slice A0_1 l0_1.length c0_1, .slice A0_2 l0_2.length c0_2, .slice A0_3 l0_3.length c0_3]) (t := 26) ?hr ?_; (case hd => rfl); (case hg => rfl); (case hr => first | (go_simp; done) | (go_simp; rfl)); intro gb331 hg w26 hbox hb; have n0_ := zm (below_step (zg_1 HB.out) hb); have n1_ := zm (hbox); have n2_ := zm ((by rw [hg]; exact (below_size (zg_1 HB.out)) : w.heap.size ≤ gb331)); have n3_ := zm ((by rw [hg]; exact (below_size (zg_1 HB.out)) : w.heap.size ≤ gb331)); clear HB; have HB := n0_; have Za := n1_; have Zg := n2_; have Zc := n3_; clear n0_ n1_ n2_ n3_; clear hb hbox hg; have hcz27_0 : w26.cell? ⟨gb331, 0, none⟩ = some (.slice A0_0 l0_0.length c0_0) := (blk_cell Za.out 0).trans rfl; have hcz27_1 : w26.cell? ⟨gb331, 1, none⟩ = some (.slice A0_1 l0_1.length c0_1) := (blk_cell Za.out 1).trans rfl; have hcz27_2 : w26.cell? ⟨gb331, 2, none⟩ = some (.slice A0_2 l0_2.length c0_2) := (blk_cell Za.out 2).trans rfl; have hcz27_3 : w26.cell? ⟨gb331, 3, none⟩ = some (.slice A0_3 l0_3.length c0_3) := (blk_cell Za.out 3).trans rfl; have hfz27_0 := blk_frozen Za.out 0; have hfz27_1 := blk_frozen Za.out 1; have hfz27_2 := blk_frozen Za.out 2; have hfz27_3 := blk_frozen Za.out 3) | ((with_reducible refine gate_callee (f := 72) rfl ?_); refine goesL_ (some 5) rfl rfl Tryz.func72 (by kernel_rfl) rfl #[.slice A0_0 l0_0.length c0_0] rfl zq ?_; (with_reducible refine (impl_RefsOK.calls _ _ l0_0 true _ ?side1 ?side2 A2.out).mono ?_); (case side1 => exact zC (Kd.C_below Ze.out HB.out)); (case side2 => exact Zf.out); rintro e w28 ⟨rfl, hb⟩; refine ⟨_, rfl, ?_⟩; have n0_ := zm (blk_below (g := gb331) (o := .cells #[.slice A0_0 l0_0.length c0_0, .slice A0_1 l0_1.length c0_1, .slice A0_2 l0_2.length c0_2, .slice A0_3 l0_3.length c0_3] 26 (0, 0)) (zg_3 Za.out) hb); have n1_ := zm (below_step (zg_2 HB.out Zc.out) hb); clear Za; clear HB; have Za := n0_; have HB := n1_; clear n0_ n1_; (try clear hb); (try clear hb2); (try clear hk); (try clear hi); have hcz29_0 : w28.cell? ⟨gb331, 0, none⟩ = some (.slice A0_0 l0_0.length c0_0) := (blk_cell Za.out 0).trans rfl; have hcz29_1 : w28.cell? ⟨gb331, 1, none⟩ = some (.slice A0_1 l0_1.length c0_1) := (blk_cell Za.out 1).trans rfl; have hcz29_2 : w28.cell? ⟨gb331, 2, none⟩ = some (.slice A0_2 l0_2.length c0_2) := (blk_cell Za.out 2).trans rfl; have hcz29_3 : w28.cell? ⟨gb331, 3, none⟩ = some (.slice A0_3 l0_3.length c0_3) := (blk_cell Za.out 3).trans rfl; have hfz29_0 := blk_frozen Za.out 0; have hfz29_1 := blk_frozen Za.out 1; have hfz29_2 := blk_frozen Za.out 2; have hfz29_3 := blk_frozen Za.out 3) | (go_at_call 74; (with_reducible refine (impl_Image_names.calls k _ _ l0_0 _ _ l0_1 _ _ l0_2 _ _ l0_3 t333 _ ?side1 ?side2 ?side3 ?side4 ?side5 ?side6 ?side7 ?side8 A5.out).mono ?_); (case side1 => exact zC (Kd.C_below Ze.out HB.out)); (case side2 => exact Zf.out); (case side3 => exact zC (Kd.C_below Zj.out HB.out)); (case side4 => exact Zk.out); (case side5 => exact zC (Kd.C_below Zl.out HB.out)); (case side6 => exact Zm.out); (case side7 => exact zC (Kd.C_below Zh.out HB.out)); (case side8 => exact Zi.out); rintro e w30 ⟨v334, rfl, ho0, hb⟩; have n0_ := zm (Kd.R_lower ho0 (below_size (zg_2 HB.out Zc.out))); have n1_ := zm (blk_below (g := gb331) (o := .cells #[.slice A0_0 l0_0.length c0_0, .slice A0_1 l0_1.length c0_1, .slice A0_2 l0_2.length c0_2, .slice A0_3 l0_3.length c0_3] 26 (0, 0)) (zg_3 Za.out) hb); have n2_ := zm (below_step (zg_2 HB.out Zc.out) hb); clear Za; clear HB; have Zb := n0_; have Za := n1_; have HB := n2_; clear n0_ n1_ n2_; (try clear hb); (try clear hb2); (try clear hk); (try clear hi); (try clear ho0); obtain ⟨Ao31, co31, eo31⟩ := Kd.R_slice Zb.out; subst eo31) | (go_at_call 73; (with_reducible refine (impl_areNames.calls k _ _ t333 true _ ?side1 ?side2 A6.out).mono ?_); (case side1 => exact zC ((Kd.R_reads' Zb.out).2.2)); (case side2 => exact (Kd.R_reads' Zb.out).2.1); rintro e w32 ⟨rfl, hb⟩; have n0_ := zm (Kd.R_below (zg_6 Zb.out) hb); have n1_ := zm (blk_below (g := gb331) (o := .cells #[.slice A0_0 l0_0.length c0_0, .slice A0_1 l0_1.length c0_1, .slice A0_2 l0_2.length c0_2, .slice A0_3 l0_3.length c0_3] 26 (0, 0)) (zg_3 Za.out) hb); have n2_ := zm (below_step (zg_2 HB.out Zc.out) hb); clear Zb; clear Za; clear HB; have Zb := n0_; have Za := n1_; have HB := n2_; clear n0_ n1_ n2_; (try clear hb); (try clear hb2); (try clear hk); (try clear hi); have hcz33_0 : w32.cell? ⟨gb331, 0, none⟩ = some (.slice A0_0 l0_0.length c0_0) := (blk_cell Za.out 0).trans rfl; have hcz33_1 : w32.cell? ⟨gb331, 1, none⟩ = some (.slice A0_1 l0_1.length c0_1) := (blk_cell Za.out 1).trans rfl; have hcz33_2 : w32.cell? ⟨gb331, 2, none⟩ = some (.slice A0_2 l0_2.length c0_2) := (blk_cell Za.out 2).trans rfl; have hcz33_3 : w32.cell? ⟨gb331, 3, none⟩ = some (.slice A0_3 l0_3.length c0_3) := (blk_cell Za.out 3).trans rfl; have hfz33_0 := blk_frozen Za.out 0; have hfz33_1 := blk_frozen Za.out 1; have hfz33_2 := blk_frozen Za.out 2; have hfz33_3 := blk_frozen Za.out 3) | (go_at_call 76; (with_reducible refine (impl_Image_tables.calls k _ _ l0_0 (fun k_ => k_ < w.heap.size) _ _ l0_1 (fun k_ => k_ < w.heap.size) _ _ l0_2 _ _ l0_3 t337 _ ?side1 ?side2 ?side3 ?side4 ?side5 ?side6 A8.out).mono ?_); (case side1 => exact zC (Kd.C_below Ze.out HB.out)); (case side2 => exact Zf.out); (case side3 => exact Kd.V_mk Zk.out (Kd.F_below (Kd.C_F (Kd.heap_int .i64) Zj.out) (zg_2 HB.out Zc.out))); (case side4 => exact Kd.V_mk Zm.out (Kd.F_below (Kd.C_F k103_heap Zl.out) (zg_2 HB.out Zc.out))); (case side5 => exact zC (Kd.C_below Zh.out HB.out)); (case side6 => exact Zi.out); rintro e w34 ⟨v338, rfl, ho0, hb⟩; have n0_ := zm (Kd.R_below (zg_6 Zb.out) hb); have n1_ := zm (Kd.N_lower (Kd.N_mono (ok' := fun k_ => some k_ ≠ (.slice Ao31 t333.length co31 : Value).ownBlock ∧ k_ ≠ gb331) ho0 (fun k_ hk_ => ⟨Or.elim hk_ (fun hs_ => Or.elim hs_ (fun hs_ => fun e_ => Nat.not_le.2 hs_ (Kd.R_base Zb.out k_ e_.symm)) (fun hs_ => fun e_ => Nat.not_le.2 hs_ (Kd.R_base Zb.out k_ e_.symm))) (fun hn_ => (Kd.fresh' (Kd.R_lt (zg_6 Zb.out)) k_ hn_)), Or.elim hk_ (fun hs_ => Or.elim hs_ (fun hs_ => fun e_ => Nat.not_le.2 hs_ (by rw [e_]; exact Zg.out)) (fun hs_ => fun e_ => Nat.not_le.2 hs_ (by rw [e_]; exact Zg.out))) (fun hn_ => (Kd.freshB (g := gb331) (o := .cells #[.slice A0_0 l0_0.length c0_0, .slice A0_1 l0_1.length c0_1, .slice A0_2 l0_2.length c0_2, .slice A0_3 l0_3.length c0_3] 26 (0, 0)) (zg_3 Za.out) k_ hn_))⟩)) (below_size (zg_2 HB.out Zc.out))); have n2_ := zm (blk_below (g := gb331) (o := .cells #[.slice A0_0 l0_0.length c0_0, .slice A0_1 l0_1.length c0_1, .slice A0_2 l0_2.length c0_2, .slice A0_3 l0_3.length c0_3] 26 (0, 0)) (zg_3 Za.out) hb); have n3_ := zm (below_step (zg_2 HB.out Zc.out) hb); clear Zb; clear Za; clear HB; have Zb := n0_; have Zd := n1_; have Za := n2_; have HB := n3_; clear n0_ n1_ n2_ n3_; (try clear hb); (try clear hb2); (try clear hk); (try clear hi); (try clear ho0); obtain ⟨Ao35, co35, eo35⟩ := Kd.N_slice Zd.out; subst eo35) | (go_at_call 75; (with_reducible refine (all75_impl_Image_nearlyOK_1.calls k _ _ t337 () true _ ?side1 ?side2 A9.out).mono ?_); (case side1 => exact zC ((Kd.N_reads' Zd.out).2.2)); (case side2 => exact (Kd.N_reads' Zd.out).2.1); rintro e w36 ⟨rfl, hb⟩; have n0_ := zm (Kd.R_below (zg_6 Zb.out) hb); have n1_ := zm (Kd.N_below (zg_4 Zd.out) hb); have n2_ := zm (blk_below (g := gb331) (o := .cells #[.slice A0_0 l0_0.length c0_0, .slice A0_1 l0_1.length c0_1, .slice A0_2 l0_2.length c0_2, .slice A0_3 l0_3.length c0_3] 26 (0, 0)) (zg_3 Za.out) hb); have n3_ := zm (below_step (zg_2 HB.out Zc.out) hb); clear Zb; clear Zd; clear Za; clear HB; have Zb := n0_; have Zd := n1_; have Za := n2_; have HB := n3_; clear n0_ n1_ n2_ n3_; (try clear hb); (try clear hb2); (try clear hk); (try clear hi); have hcz37_0 : w36.cell? ⟨gb331, 0, none⟩ = some (.slice A0_0 l0_0.length c0_0) := (blk_cell Za.out 0).trans rfl; have hcz37_1 : w36.cell? ⟨gb331, 1, none⟩ = some (.slice A0_1 l0_1.length c0_1) := (blk_cell Za.out 1).trans rfl; have hcz37_2 : w36.cell? ⟨gb331, 2, none⟩ = some (.slice A0_2 l0_2.length c0_2) := (blk_cell Za.out 2).trans rfl; have hcz37_3 : w36.cell? ⟨gb331, 3, none⟩ = some (.slice A0_3 l0_3.length c0_3) := (blk_cell Za.out 3).trans rfl; have hfz37_0 := blk_frozen Za.out 0; have hfz37_1 := blk_frozen Za.out 1; have hfz37_2 := blk_frozen Za.out 2; have hfz37_3 := blk_frozen Za.out 3))
      go_ret
      exact ⟨by first | rfl | (simp [errW_none, errW_some] <;> rfl) | (simp [*, errW_none, errW_some] <;> rfl), zg_2 HB.out Zc.out⟩
    ·replace c10 := Bool.eq_false_iff.mpr c10
     subst c10
     have H1 : (some false) = some r := by rw [if_neg (show ¬ (false = true) by decide)] at H; exact H
     clear H
     have H := H1
     clear H1
     obtain rfl := Option.some.inj H
     go_enter Tryz.func34, Tryz.ntmps34
     go_wp2_with (first | ((with_reducible refine gate_dst (N := 1) rfl ?_); (try (refine gate_guard (by rfl) ?_; dsimp only)); refine box_event ?hg (N := 1) ?hd (cs := #[.slice A0_0 l0_0.length c0_0, .slice A0_1 l0_1.length c0_1, .slice A0_2 l0_2.length c0_2, .slice A0_3 l0_3.length c0_3]) (t := 26) ?hr ?_; (case hd => rfl); (case hg => rfl); (case hr => first | (go_simp; done) | (go_simp; rfl)); intro gb331 hg w38 hbox hb; have n0_ := zm (below_step (zg_1 HB.out) hb); have n1_ := zm (hbox); have n2_ := zm ((by rw [hg]; exact (below_size (zg_1 HB.out)) : w.heap.size ≤ gb331)); have n3_ := zm ((by rw [hg]; exact (below_size (zg_1 HB.out)) : w.heap.size ≤ gb331)); clear HB; have HB := n0_; have Za := n1_; have Zg := n2_; have Zc := n3_; clear n0_ n1_ n2_ n3_; clear hb hbox hg; have hcz39_0 : w38.cell? ⟨gb331, 0, none⟩ = some (.slice A0_0 l0_0.length c0_0) := (blk_cell Za.out 0).trans rfl; have hcz39_1 : w38.cell? ⟨gb331, 1, none⟩ = some (.slice A0_1 l0_1.length c0_1) := (blk_cell Za.out 1).trans rfl; have hcz39_2 : w38.cell? ⟨gb331, 2, none⟩ = some (.slice A0_2 l0_2.length c0_2) := (blk_cell Za.out 2).trans rfl; have hcz39_3 : w38.cell? ⟨gb331, 3, none⟩ = some (.slice A0_3 l0_3.length c0_3) := (blk_cell Za.out 3).trans rfl; have hfz39_0 := blk_frozen Za.out 0; have hfz39_1 := blk_frozen Za.out 1; have hfz39_2 := blk_frozen Za.out 2; have hfz39_3 := blk_frozen Za.out 3) | ((with_reducible refine gate_callee (f := 72) rfl ?_); refine goesL_ (some 5) rfl rfl Tryz.func72 (by kernel_rfl) rfl #[.slice A0_0 l0_0.length c0_0] rfl zq ?_; (with_reducible refine (impl_RefsOK.calls _ _ l0_0 true _ ?side1 ?side2 A2.out).mono ?_); (case side1 => exact zC (Kd.C_below Ze.out HB.out)); (case side2 => exact Zf.out); rintro e w40 ⟨rfl, hb⟩; refine ⟨_, rfl, ?_⟩; have n0_ := zm (blk_below (g := gb331) (o := .cells #[.slice A0_0 l0_0.length c0_0, .slice A0_1 l0_1.length c0_1, .slice A0_2 l0_2.length c0_2, .slice A0_3 l0_3.length c0_3] 26 (0, 0)) (zg_3 Za.out) hb); have n1_ := zm (below_step (zg_2 HB.out Zc.out) hb); clear Za; clear HB; have Za := n0_; have HB := n1_; clear n0_ n1_; (try clear hb); (try clear hb2); (try clear hk); (try clear hi); have hcz41_0 : w40.cell? ⟨gb331, 0, none⟩ = some (.slice A0_0 l0_0.length c0_0) := (blk_cell Za.out 0).trans rfl; have hcz41_1 : w40.cell? ⟨gb331, 1, none⟩ = some (.slice A0_1 l0_1.length c0_1) := (blk_cell Za.out 1).trans rfl; have hcz41_2 : w40.cell? ⟨gb331, 2, none⟩ = some (.slice A0_2 l0_2.length c0_2) := (blk_cell Za.out 2).trans rfl; have hcz41_3 : w40.cell? ⟨gb331, 3, none⟩ = some (.slice A0_3 l0_3.length c0_3) := (blk_cell Za.out 3).trans rfl; have hfz41_0 := blk_frozen Za.out 0; have hfz41_1 := blk_frozen Za.out 1; have hfz41_2 := blk_frozen Za.out 2; have hfz41_3 := blk_frozen Za.out 3) | (go_at_call 74; (with_reducible refine (impl_Image_names.calls k _ _ l0_0 _ _ l0_1 _ _ l0_2 _ _ l0_3 t333 _ ?side1 ?side2 ?side3 ?side4 ?side5 ?side6 ?side7 ?side8 A5.out).mono ?_); (case side1 => exact zC (Kd.C_below Ze.out HB.out)); (case side2 => exact Zf.out); (case side3 => exact zC (Kd.C_below Zj.out HB.out)); (case side4 => exact Zk.out); (case side5 => exact zC (Kd.C_below Zl.out HB.out)); (case side6 => exact Zm.out); (case side7 => exact zC (Kd.C_below Zh.out HB.out)); (case side8 => exact Zi.out); rintro e w42 ⟨v334, rfl, ho0, hb⟩; have n0_ := zm (Kd.R_lower ho0 (below_size (zg_2 HB.out Zc.out))); have n1_ := zm (blk_below (g := gb331) (o := .cells #[.slice A0_0 l0_0.length c0_0, .slice A0_1 l0_1.length c0_1, .slice A0_2 l0_2.length c0_2, .slice A0_3 l0_3.length c0_3] 26 (0, 0)) (zg_3 Za.out) hb); have n2_ := zm (below_step (zg_2 HB.out Zc.out) hb); clear Za; clear HB; have Zb := n0_; have Za := n1_; have HB := n2_; clear n0_ n1_ n2_; (try clear hb); (try clear hb2); (try clear hk); (try clear hi); (try clear ho0); obtain ⟨Ao43, co43, eo43⟩ := Kd.R_slice Zb.out; subst eo43) | (go_at_call 73; (with_reducible refine (impl_areNames.calls k _ _ t333 true _ ?side1 ?side2 A6.out).mono ?_); (case side1 => exact zC ((Kd.R_reads' Zb.out).2.2)); (case side2 => exact (Kd.R_reads' Zb.out).2.1); rintro e w44 ⟨rfl, hb⟩; have n0_ := zm (Kd.R_below (zg_6 Zb.out) hb); have n1_ := zm (blk_below (g := gb331) (o := .cells #[.slice A0_0 l0_0.length c0_0, .slice A0_1 l0_1.length c0_1, .slice A0_2 l0_2.length c0_2, .slice A0_3 l0_3.length c0_3] 26 (0, 0)) (zg_3 Za.out) hb); have n2_ := zm (below_step (zg_2 HB.out Zc.out) hb); clear Zb; clear Za; clear HB; have Zb := n0_; have Za := n1_; have HB := n2_; clear n0_ n1_ n2_; (try clear hb); (try clear hb2); (try clear hk); (try clear hi); have hcz45_0 : w44.cell? ⟨gb331, 0, none⟩ = some (.slice A0_0 l0_0.length c0_0) := (blk_cell Za.out 0).trans rfl; have hcz45_1 : w44.cell? ⟨gb331, 1, none⟩ = some (.slice A0_1 l0_1.length c0_1) := (blk_cell Za.out 1).trans rfl; have hcz45_2 : w44.cell? ⟨gb331, 2, none⟩ = some (.slice A0_2 l0_2.length c0_2) := (blk_cell Za.out 2).trans rfl; have hcz45_3 : w44.cell? ⟨gb331, 3, none⟩ = some (.slice A0_3 l0_3.length c0_3) := (blk_cell Za.out 3).trans rfl; have hfz45_0 := blk_frozen Za.out 0; have hfz45_1 := blk_frozen Za.out 1; have hfz45_2 := blk_frozen Za.out 2; have hfz45_3 := blk_frozen Za.out 3) | (go_at_call 76; (with_reducible refine (impl_Image_tables.calls k _ _ l0_0 (fun k_ => k_ < w.heap.size) _ _ l0_1 (fun k_ => k_ < w.heap.size) _ _ l0_2 _ _ l0_3 t337 _ ?side1 ?side2 ?side3 ?side4 ?side5 ?side6 A8.out).mono ?_); (case side1 => exact zC (Kd.C_below Ze.out HB.out)); (case side2 => exact Zf.out); (case side3 => exact Kd.V_mk Zk.out (Kd.F_below (Kd.C_F (Kd.heap_int .i64) Zj.out) (zg_2 HB.out Zc.out))); (case side4 => exact Kd.V_mk Zm.out (Kd.F_below (Kd.C_F k103_heap Zl.out) (zg_2 HB.out Zc.out))); (case side5 => exact zC (Kd.C_below Zh.out HB.out)); (case side6 => exact Zi.out); rintro e w46 ⟨v338, rfl, ho0, hb⟩; have n0_ := zm (Kd.R_below (zg_6 Zb.out) hb); have n1_ := zm (Kd.N_lower (Kd.N_mono (ok' := fun k_ => some k_ ≠ (.slice Ao43 t333.length co43 : Value).ownBlock ∧ k_ ≠ gb331) ho0 (fun k_ hk_ => ⟨Or.elim hk_ (fun hs_ => Or.elim hs_ (fun hs_ => fun e_ => Nat.not_le.2 hs_ (Kd.R_base Zb.out k_ e_.symm)) (fun hs_ => fun e_ => Nat.not_le.2 hs_ (Kd.R_base Zb.out k_ e_.symm))) (fun hn_ => (Kd.fresh' (Kd.R_lt (zg_6 Zb.out)) k_ hn_)), Or.elim hk_ (fun hs_ => Or.elim hs_ (fun hs_ => fun e_ => Nat.not_le.2 hs_ (by rw [e_]; exact Zg.out)) (fun hs_ => fun e_ => Nat.not_le.2 hs_ (by rw [e_]; exact Zg.out))) (fun hn_ => (Kd.freshB (g := gb331) (o := .cells #[.slice A0_0 l0_0.length c0_0, .slice A0_1 l0_1.length c0_1, .slice A0_2 l0_2.length c0_2, .slice A0_3 l0_3.length c0_3] 26 (0, 0)) (zg_3 Za.out) k_ hn_))⟩)) (below_size (zg_2 HB.out Zc.out))); have n2_ := zm (blk_below (g := gb331) (o := .cells #[.slice A0_0 l0_0.length c0_0, .slice A0_1 l0_1.length c0_1, .slice A0_2 l0_2.length c0_2, .slice A0_3 l0_3.length c0_3] 26 (0, 0)) (zg_3 Za.out) hb); have n3_ := zm (below_step (zg_2 HB.out Zc.out) hb); clear Zb; clear Za; clear HB; have Zb := n0_; have Zd := n1_; have Za := n2_; have HB := n3_; clear n0_ n1_ n2_ n3_; (try clear hb); (try clear hb2); (try clear hk); (try clear hi); (try clear ho0); obtain ⟨Ao47, co47, eo47⟩ := Kd.N_slice Zd.out; subst eo47) | (go_at_call 75; (with_reducible refine (all75_impl_Image_nearlyOK_1.calls k _ _ t337 () false _ ?side1 ?side2 A9.out).mono ?_); (case side1 => exact zC ((Kd.N_reads' Zd.out).2.2)); (case side2 => exact (Kd.N_reads' Zd.out).2.1); rintro e w48 ⟨rfl, hb⟩; have n0_ := zm (Kd.R_below (zg_6 Zb.out) hb); have n1_ := zm (Kd.N_below (zg_4 Zd.out) hb); have n2_ := zm (blk_below (g := gb331) (o := .cells #[.slice A0_0 l0_0.length c0_0, .slice A0_1 l0_1.length c0_1, .slice A0_2 l0_2.length c0_2, .slice A0_3 l0_3.length c0_3] 26 (0, 0)) (zg_3 Za.out) hb); have n3_ := zm (below_step (zg_2 HB.out Zc.out) hb); clear Zb; clear Zd; clear Za; clear HB; have Zb := n0_; have Zd := n1_; have Za := n2_; have HB := n3_; clear n0_ n1_ n2_ n3_; (try clear hb); (try clear hb2); (try clear hk); (try clear hi)))
     go_ret
     exact ⟨by first | rfl | (simp [errW_none, errW_some] <;> rfl) | (simp [*, errW_none, errW_some] <;> rfl), zg_2 HB.out Zc.out⟩
   ·replace c7 := Bool.eq_false_iff.mpr c7
    subst c7
    have H1 : (some false) = some r := by rw [if_neg (show ¬ (false = true) by decide)] at H; exact H
    clear H
    have H := H1
    clear H1
    obtain rfl := Option.some.inj H
    go_enter Tryz.func34, Tryz.ntmps34
    go_wp2_with (first | ((with_reducible refine gate_dst (N := 1) rfl ?_); (try (refine gate_guard (by rfl) ?_; dsimp only)); refine box_event ?hg (N := 1) ?hd (cs := #[.slice A0_0 l0_0.length c0_0, .slice A0_1 l0_1.length c0_1, .slice A0_2 l0_2.length c0_2, .slice A0_3 l0_3.length c0_3]) (t := 26) ?hr ?_; (case hd => rfl); (case hg => rfl); (case hr => first | (go_simp; done) | (go_simp; rfl)); intro gb331 hg w49 hbox hb; have n0_ := zm (below_step (zg_1 HB.out) hb); have n1_ := zm (hbox); have n2_ := zm ((by rw [hg]; exact (below_size (zg_1 HB.out)) : w.heap.size ≤ gb331)); have n3_ := zm ((by rw [hg]; exact (below_size (zg_1 HB.out)) : w.heap.size ≤ gb331)); clear HB; have HB := n0_; have Za := n1_; have Zg := n2_; have Zc := n3_; clear n0_ n1_ n2_ n3_; clear hb hbox hg; have hcz50_0 : w49.cell? ⟨gb331, 0, none⟩ = some (.slice A0_0 l0_0.length c0_0) := (blk_cell Za.out 0).trans rfl; have hcz50_1 : w49.cell? ⟨gb331, 1, none⟩ = some (.slice A0_1 l0_1.length c0_1) := (blk_cell Za.out 1).trans rfl; have hcz50_2 : w49.cell? ⟨gb331, 2, none⟩ = some (.slice A0_2 l0_2.length c0_2) := (blk_cell Za.out 2).trans rfl; have hcz50_3 : w49.cell? ⟨gb331, 3, none⟩ = some (.slice A0_3 l0_3.length c0_3) := (blk_cell Za.out 3).trans rfl; have hfz50_0 := blk_frozen Za.out 0; have hfz50_1 := blk_frozen Za.out 1; have hfz50_2 := blk_frozen Za.out 2; have hfz50_3 := blk_frozen Za.out 3) | ((with_reducible refine gate_callee (f := 72) rfl ?_); refine goesL_ (some 5) rfl rfl Tryz.func72 (by kernel_rfl) rfl #[.slice A0_0 l0_0.length c0_0] rfl zq ?_; (with_reducible refine (impl_RefsOK.calls _ _ l0_0 true _ ?side1 ?side2 A2.out).mono ?_); (case side1 => exact zC (Kd.C_below Ze.out HB.out)); (case side2 => exact Zf.out); rintro e w51 ⟨rfl, hb⟩; refine ⟨_, rfl, ?_⟩; have n0_ := zm (blk_below (g := gb331) (o := .cells #[.slice A0_0 l0_0.length c0_0, .slice A0_1 l0_1.length c0_1, .slice A0_2 l0_2.length c0_2, .slice A0_3 l0_3.length c0_3] 26 (0, 0)) (zg_3 Za.out) hb); have n1_ := zm (below_step (zg_2 HB.out Zc.out) hb); clear Za; clear HB; have Za := n0_; have HB := n1_; clear n0_ n1_; (try clear hb); (try clear hb2); (try clear hk); (try clear hi); have hcz52_0 : w51.cell? ⟨gb331, 0, none⟩ = some (.slice A0_0 l0_0.length c0_0) := (blk_cell Za.out 0).trans rfl; have hcz52_1 : w51.cell? ⟨gb331, 1, none⟩ = some (.slice A0_1 l0_1.length c0_1) := (blk_cell Za.out 1).trans rfl; have hcz52_2 : w51.cell? ⟨gb331, 2, none⟩ = some (.slice A0_2 l0_2.length c0_2) := (blk_cell Za.out 2).trans rfl; have hcz52_3 : w51.cell? ⟨gb331, 3, none⟩ = some (.slice A0_3 l0_3.length c0_3) := (blk_cell Za.out 3).trans rfl; have hfz52_0 := blk_frozen Za.out 0; have hfz52_1 := blk_frozen Za.out 1; have hfz52_2 := blk_frozen Za.out 2; have hfz52_3 := blk_frozen Za.out 3) | (go_at_call 74; (with_reducible refine (impl_Image_names.calls k _ _ l0_0 _ _ l0_1 _ _ l0_2 _ _ l0_3 t333 _ ?side1 ?side2 ?side3 ?side4 ?side5 ?side6 ?side7 ?side8 A5.out).mono ?_); (case side1 => exact zC (Kd.C_below Ze.out HB.out)); (case side2 => exact Zf.out); (case side3 => exact zC (Kd.C_below Zj.out HB.out)); (case side4 => exact Zk.out); (case side5 => exact zC (Kd.C_below Zl.out HB.out)); (case side6 => exact Zm.out); (case side7 => exact zC (Kd.C_below Zh.out HB.out)); (case side8 => exact Zi.out); rintro e w53 ⟨v334, rfl, ho0, hb⟩; have n0_ := zm (Kd.R_lower ho0 (below_size (zg_2 HB.out Zc.out))); have n1_ := zm (blk_below (g := gb331) (o := .cells #[.slice A0_0 l0_0.length c0_0, .slice A0_1 l0_1.length c0_1, .slice A0_2 l0_2.length c0_2, .slice A0_3 l0_3.length c0_3] 26 (0, 0)) (zg_3 Za.out) hb); have n2_ := zm (below_step (zg_2 HB.out Zc.out) hb); clear Za; clear HB; have Zb := n0_; have Za := n1_; have HB := n2_; clear n0_ n1_ n2_; (try clear hb); (try clear hb2); (try clear hk); (try clear hi); (try clear ho0); obtain ⟨Ao54, co54, eo54⟩ := Kd.R_slice Zb.out; subst eo54) | (go_at_call 73; (with_reducible refine (impl_areNames.calls k _ _ t333 false _ ?side1 ?side2 A6.out).mono ?_); (case side1 => exact zC ((Kd.R_reads' Zb.out).2.2)); (case side2 => exact (Kd.R_reads' Zb.out).2.1); rintro e w55 ⟨rfl, hb⟩; have n0_ := zm (Kd.R_below (zg_6 Zb.out) hb); have n1_ := zm (blk_below (g := gb331) (o := .cells #[.slice A0_0 l0_0.length c0_0, .slice A0_1 l0_1.length c0_1, .slice A0_2 l0_2.length c0_2, .slice A0_3 l0_3.length c0_3] 26 (0, 0)) (zg_3 Za.out) hb); have n2_ := zm (below_step (zg_2 HB.out Zc.out) hb); clear Zb; clear Za; clear HB; have Zb := n0_; have Za := n1_; have HB := n2_; clear n0_ n1_ n2_; (try clear hb); (try clear hb2); (try clear hk); (try clear hi)))
    go_ret
    exact ⟨by first | rfl | (simp [errW_none, errW_some] <;> rfl) | (simp [*, errW_none, errW_some] <;> rfl), zg_2 HB.out Zc.out⟩
  ·rw [if_neg c4] at H
   have c4b0 : decide ((l0_2.length : Int) ≤ 3) = false := decide_eq_false c4
   have c4b1 : decide (l0_2.length ≤ 3) = false := decide_eq_false (by omega)
   clear c4
   obtain rfl := Option.some.inj H
   go_enter Tryz.func34, Tryz.ntmps34
   go_wp2_with (first | ((with_reducible refine gate_dst (N := 1) rfl ?_); (try (refine gate_guard (by rfl) ?_; dsimp only)); refine box_event ?hg (N := 1) ?hd (cs := #[.slice A0_0 l0_0.length c0_0, .slice A0_1 l0_1.length c0_1, .slice A0_2 l0_2.length c0_2, .slice A0_3 l0_3.length c0_3]) (t := 26) ?hr ?_; (case hd => rfl); (case hg => rfl); (case hr => first | (go_simp; done) | (go_simp; rfl)); intro gb331 hg w56 hbox hb; have n0_ := zm (below_step (zg_1 HB.out) hb); have n1_ := zm (hbox); have n2_ := zm ((by rw [hg]; exact (below_size (zg_1 HB.out)) : w.heap.size ≤ gb331)); have n3_ := zm ((by rw [hg]; exact (below_size (zg_1 HB.out)) : w.heap.size ≤ gb331)); clear HB; have HB := n0_; have Za := n1_; have Zg := n2_; have Zc := n3_; clear n0_ n1_ n2_ n3_; clear hb hbox hg; have hcz57_0 : w56.cell? ⟨gb331, 0, none⟩ = some (.slice A0_0 l0_0.length c0_0) := (blk_cell Za.out 0).trans rfl; have hcz57_1 : w56.cell? ⟨gb331, 1, none⟩ = some (.slice A0_1 l0_1.length c0_1) := (blk_cell Za.out 1).trans rfl; have hcz57_2 : w56.cell? ⟨gb331, 2, none⟩ = some (.slice A0_2 l0_2.length c0_2) := (blk_cell Za.out 2).trans rfl; have hcz57_3 : w56.cell? ⟨gb331, 3, none⟩ = some (.slice A0_3 l0_3.length c0_3) := (blk_cell Za.out 3).trans rfl; have hfz57_0 := blk_frozen Za.out 0; have hfz57_1 := blk_frozen Za.out 1; have hfz57_2 := blk_frozen Za.out 2; have hfz57_3 := blk_frozen Za.out 3) | ((with_reducible refine gate_callee (f := 72) rfl ?_); refine goesL_ (some 5) rfl rfl Tryz.func72 (by kernel_rfl) rfl #[.slice A0_0 l0_0.length c0_0] rfl zq ?_; (with_reducible refine (impl_RefsOK.calls _ _ l0_0 true _ ?side1 ?side2 A2.out).mono ?_); (case side1 => exact zC (Kd.C_below Ze.out HB.out)); (case side2 => exact Zf.out); rintro e w58 ⟨rfl, hb⟩; refine ⟨_, rfl, ?_⟩; have n0_ := zm (blk_below (g := gb331) (o := .cells #[.slice A0_0 l0_0.length c0_0, .slice A0_1 l0_1.length c0_1, .slice A0_2 l0_2.length c0_2, .slice A0_3 l0_3.length c0_3] 26 (0, 0)) (zg_3 Za.out) hb); have n1_ := zm (below_step (zg_2 HB.out Zc.out) hb); clear Za; clear HB; have Za := n0_; have HB := n1_; clear n0_ n1_; (try clear hb); (try clear hb2); (try clear hk); (try clear hi); have hcz59_0 : w58.cell? ⟨gb331, 0, none⟩ = some (.slice A0_0 l0_0.length c0_0) := (blk_cell Za.out 0).trans rfl; have hcz59_1 : w58.cell? ⟨gb331, 1, none⟩ = some (.slice A0_1 l0_1.length c0_1) := (blk_cell Za.out 1).trans rfl; have hcz59_2 : w58.cell? ⟨gb331, 2, none⟩ = some (.slice A0_2 l0_2.length c0_2) := (blk_cell Za.out 2).trans rfl; have hcz59_3 : w58.cell? ⟨gb331, 3, none⟩ = some (.slice A0_3 l0_3.length c0_3) := (blk_cell Za.out 3).trans rfl; have hfz59_0 := blk_frozen Za.out 0; have hfz59_1 := blk_frozen Za.out 1; have hfz59_2 := blk_frozen Za.out 2; have hfz59_3 := blk_frozen Za.out 3))
   go_ret
   exact ⟨by first | rfl | (simp [errW_none, errW_some] <;> rfl) | (simp [*, errW_none, errW_some] <;> rfl), zg_2 HB.out Zc.out⟩
 ·replace c3 := Bool.eq_false_iff.mpr c3
  subst c3
  have H1 : (some false) = some r := by rw [if_neg (show ¬ (false = true) by decide)] at H; exact H
  clear H
  have H := H1
  clear H1
  obtain rfl := Option.some.inj H
  go_enter Tryz.func34, Tryz.ntmps34
  go_wp2_with (first | ((with_reducible refine gate_dst (N := 1) rfl ?_); (try (refine gate_guard (by rfl) ?_; dsimp only)); refine box_event ?hg (N := 1) ?hd (cs := #[.slice A0_0 l0_0.length c0_0, .slice A0_1 l0_1.length c0_1, .slice A0_2 l0_2.length c0_2, .slice A0_3 l0_3.length c0_3]) (t := 26) ?hr ?_; (case hd => rfl); (case hg => rfl); (case hr => first | (go_simp; done) | (go_simp; rfl)); intro gb331 hg w60 hbox hb; have n0_ := zm (below_step (zg_1 HB.out) hb); have n1_ := zm (hbox); have n2_ := zm ((by rw [hg]; exact (below_size (zg_1 HB.out)) : w.heap.size ≤ gb331)); have n3_ := zm ((by rw [hg]; exact (below_size (zg_1 HB.out)) : w.heap.size ≤ gb331)); clear HB; have HB := n0_; have Za := n1_; have Zg := n2_; have Zc := n3_; clear n0_ n1_ n2_ n3_; clear hb hbox hg; have hcz61_0 : w60.cell? ⟨gb331, 0, none⟩ = some (.slice A0_0 l0_0.length c0_0) := (blk_cell Za.out 0).trans rfl; have hcz61_1 : w60.cell? ⟨gb331, 1, none⟩ = some (.slice A0_1 l0_1.length c0_1) := (blk_cell Za.out 1).trans rfl; have hcz61_2 : w60.cell? ⟨gb331, 2, none⟩ = some (.slice A0_2 l0_2.length c0_2) := (blk_cell Za.out 2).trans rfl; have hcz61_3 : w60.cell? ⟨gb331, 3, none⟩ = some (.slice A0_3 l0_3.length c0_3) := (blk_cell Za.out 3).trans rfl; have hfz61_0 := blk_frozen Za.out 0; have hfz61_1 := blk_frozen Za.out 1; have hfz61_2 := blk_frozen Za.out 2; have hfz61_3 := blk_frozen Za.out 3) | ((with_reducible refine gate_callee (f := 72) rfl ?_); refine goesL_ (some 5) rfl rfl Tryz.func72 (by kernel_rfl) rfl #[.slice A0_0 l0_0.length c0_0] rfl zq ?_; (with_reducible refine (impl_RefsOK.calls _ _ l0_0 false _ ?side1 ?side2 A2.out).mono ?_); (case side1 => exact zC (Kd.C_below Ze.out HB.out)); (case side2 => exact Zf.out); rintro e w62 ⟨rfl, hb⟩; refine ⟨_, rfl, ?_⟩; have n0_ := zm (blk_below (g := gb331) (o := .cells #[.slice A0_0 l0_0.length c0_0, .slice A0_1 l0_1.length c0_1, .slice A0_2 l0_2.length c0_2, .slice A0_3 l0_3.length c0_3] 26 (0, 0)) (zg_3 Za.out) hb); have n1_ := zm (below_step (zg_2 HB.out Zc.out) hb); clear Za; clear HB; have Za := n0_; have HB := n1_; clear n0_ n1_; (try clear hb); (try clear hb2); (try clear hk); (try clear hi)))
  go_ret
  exact ⟨by first | rfl | (simp [errW_none, errW_some] <;> rfl) | (simp [*, errW_none, errW_some] <;> rfl), zg_2 HB.out Zc.out⟩
/-! ### slices_Equal_int_int: function 37 -/
def slices_Equal_int_int.l0 : Nat → List Int → List Int → Int → Int → Option (Bool)
  | 0, _, _, _, _ => none
  | k + 1, x0, x1, x12, x13 => if x13 < x12 then (if 0 ≤ x13 then (if x13 < (x0.length : Int) then (if x13 < (x1.length : Int) then (if (rd x0 x13) = (rd x1 x13) then (slices_Equal_int_int.l0 k x0 x1 x12 (wrap64 (x13 + 1))) else (some false)) else (none)) else (none)) else (none)) else (some true)
def slices_Equal_int_int.f (k : Nat) (l0 : List Int) (l1 : List Int) : Option (Bool) := if (l0.length : Int) = (l1.length : Int) then (slices_Equal_int_int.l0 k l0 l1 (l0.length : Int) 0) else (some false)
theorem slices_Equal_int_int.mono_l : ∀ k, (∀ y0 y1 y2 y3, LeO (slices_Equal_int_int.l0 k y0 y1 y2 y3) (slices_Equal_int_int.l0 (k + 1) y0 y1 y2 y3))
  | 0 => fun _ _ _ _ r h => by simp [slices_Equal_int_int.l0] at h
  | k + 1 => by
    have ih0 := slices_Equal_int_int.mono_l k
    · intro y0 y1 y2 y3
      unfold slices_Equal_int_int.l0
      repeat' first
      | (with_reducible exact ih0 _ _ _ _)
      | (with_reducible exact LeO.refl _)
      | (with_reducible exact LeO.none _)
      | (with_reducible refine LeO.ite ?_ ?_)
      | (with_reducible refine LeO.bind ?_ (fun _ => ?_))
      | exact ih0 _ _ _ _
      | exact LeO.none _
      | refine LeO.ite ?_ ?_
      | refine LeO.bind ?_ (fun _ => ?_)
theorem slices_Equal_int_int.mono : ∀ a0 a1 k, LeO (slices_Equal_int_int.f k a0 a1) (slices_Equal_int_int.f (k + 1) a0 a1) := by
  intro a0 a1 k
  have ih0 := slices_Equal_int_int.mono_l k
  unfold slices_Equal_int_int.f
  repeat' first
      | (with_reducible exact ih0 _ _ _ _)
      | (with_reducible exact LeO.refl _)
      | (with_reducible exact LeO.none _)
      | (with_reducible refine LeO.ite ?_ ?_)
      | (with_reducible refine LeO.bind ?_ (fun _ => ?_))
      | exact ih0 _ _ _ _
      | exact LeO.none _
      | refine LeO.ite ?_ ?_
      | refine LeO.bind ?_ (fun _ => ?_)
set_option maxHeartbeats 8000000 in
set_option maxRecDepth 100000 in
theorem slices_Equal_int_int.calls (k : Nat) (A0 : Option Addr) (c0 : Nat) (l0 : List Int) (A1 : Option Addr) (c1 : Nat) (l1 : List Int) (r : Bool) (w : World) (hr0 : Kd.C (Kd.int .i64) w A0 l0.length l0) (hc0 : l0.length ≤ c0) (hr1 : Kd.C (Kd.int .i64) w A1 l1.length l1) (hc1 : l1.length ≤ c1) (h : slices_Equal_int_int.f k l0 l1 = some r) :
    Calls Tryz.prog 37 #[.slice A0 l0.length c0, .slice A1 l1.length c1] w fun e w' => e = .returned (.bool r) ∧ Drawn0 w w' := by
 have HR0 := zm hr0
 have HC0 := zm hc0
 clear hr0 hc0
 have HR1 := zm hr1
 have HC1 := zm hc1
 clear hr1 hc1
 have H : (if (l0.length : Int) = (l1.length : Int) then (slices_Equal_int_int.l0 k l0 l1 (l0.length : Int) 0) else (some false)) = some r := h
 clear h
 by_cases c3 : (l0.length : Int) = (l1.length : Int)
 ·rw [if_pos c3] at H
  have c3b0 : ((l0.length : Int) == (l1.length : Int)) = true := beq_iff_eq.mpr c3
  have c3b1 : ((l0.length : Int) != (l1.length : Int)) = false := bne_eq_false_iff_eq.mpr c3
  have c3b2 : (l0.length == l1.length) = true := by first | simpa using c3 | (simp at c3 ⊢; omega)
  clear c3
  have H' := zm H
  clear H
  go_enter Tryz.func37, Tryz.ntmps37
  go_wp2
  repeat (go_quiet (fail); try go_wp2)
  go_loopg [13] k (fun kq v13 w' => ∃ (x13_1 : Int), v13 = .int .i64 x13_1 ∧ Aside0 (slices_Equal_int_int.l0 kq l0 l1 (l0.length : Int) x13_1 = some r) ∧ Aside0 (kq ≤ k) ∧ Drawn0 w w')
  case atStart => exact ⟨(0), zr, H', ⟨Nat.le_refl _⟩, by repeat (first | exact Drawn0.refl _ | apply Drawn0.step)⟩
  case round =>
   clear H'
   try clear c1
   try clear p2
   try clear c3
   try clear c3b0
   try clear c3b1
   try clear c3b2
   obtain ⟨x13_1, rfl, HA, HK1, ⟨m1, rfl⟩⟩ := hrel
   cases gk with
   | zero => exact absurd HA.out (by simp [slices_Equal_int_int.l0])
   | succ k1 =>
    have H := HA.out
    clear HA
    simp only [slices_Equal_int_int.l0] at H
    by_cases c4 : x13_1 < (l0.length : Int)
    ·rw [if_pos c4] at H
     have c4b0 : decide (x13_1 < (l0.length : Int)) = true := decide_eq_true c4
     clear c4
     by_cases c5 : 0 ≤ x13_1
     ·rw [if_pos c5] at H
      have c5b0 : decide (0 ≤ x13_1) = true := decide_eq_true c5
      clear c5
      by_cases c6 : x13_1 < (l0.length : Int)
      ·rw [if_pos c6] at H
       have c6b0 : decide (x13_1 < (l0.length : Int)) = true := decide_eq_true c6
       clear c6
       by_cases c7 : x13_1 < (l1.length : Int)
       ·rw [if_pos c7] at H
        have c7b0 : decide (x13_1 < (l1.length : Int)) = true := decide_eq_true c7
        clear c7
        by_cases c8 : (rd l0 x13_1) = (rd l1 x13_1)
        ·rw [if_pos c8] at H
         have c8b0 : ((rd l0 x13_1) == (rd l1 x13_1)) = true := beq_iff_eq.mpr c8
         have c8b1 : ((rd l0 x13_1) != (rd l1 x13_1)) = false := bne_eq_false_iff_eq.mpr c8
         clear c8
         have H' := zm H
         clear H
         have p403 : 0 ≤ (x13_1 : Int) := zd
         have q403 : x13_1 < (l0.length : Int) := zd
         obtain ⟨ad403, e403, hx403_0⟩ := Kd.at_int HR0.out x13_1 p403 q403
         cases e403
         replace p403 := eq_true p403
         replace q403 := eq_true q403
         have p404 : 0 ≤ (x13_1 : Int) := zd
         have q404 : x13_1 < (l1.length : Int) := zd
         obtain ⟨ad404, e404, hx404_0⟩ := Kd.at_int HR1.out x13_1 p404 q404
         cases e404
         replace p404 := eq_true p404
         replace q404 := eq_true q404
         go_wp2
         repeat (go_quiet (fail); try go_wp2)
         go_roundg k1
         case measure => have := HK1.out; omega
         case rel => exact ⟨(wrap64 (x13_1 + 1)), zr, H', ⟨by have := HK1.out; omega⟩, by repeat (first | exact Drawn0.refl _ | apply Drawn0.step)⟩
        ·rw [if_neg c8] at H
         have c8b0 : ((rd l0 x13_1) == (rd l1 x13_1)) = false := beq_eq_false_iff_ne.mpr c8
         have c8b1 : ((rd l0 x13_1) != (rd l1 x13_1)) = true := bne_iff_ne.mpr c8
         obtain rfl := Option.some.inj H
         have p403 : 0 ≤ (x13_1 : Int) := zd
         have q403 : x13_1 < (l0.length : Int) := zd
         obtain ⟨ad403, e403, hx403_0⟩ := Kd.at_int HR0.out x13_1 p403 q403
         cases e403
         replace p403 := eq_true p403
         replace q403 := eq_true q403
         have p404 : 0 ≤ (x13_1 : Int) := zd
         have q404 : x13_1 < (l1.length : Int) := zd
         obtain ⟨ad404, e404, hx404_0⟩ := Kd.at_int HR1.out x13_1 p404 q404
         cases e404
         replace p404 := eq_true p404
         replace q404 := eq_true q404
         go_wp2
         repeat (go_quiet (fail); try go_wp2)
         go_ret
         exact ⟨zr, by repeat (first | exact Drawn0.refl _ | apply Drawn0.step)⟩
       ·rw [if_neg c7] at H
        exact absurd H (by simp)
      ·rw [if_neg c6] at H
       exact absurd H (by simp)
     ·rw [if_neg c5] at H
      exact absurd H (by simp)
    ·rw [if_neg c4] at H
     have c4b0 : decide (x13_1 < (l0.length : Int)) = false := decide_eq_false c4
     clear c4
     obtain rfl := Option.some.inj H
     go_wp2
     repeat (go_quiet (fail); try go_wp2)
     go_ret
     exact ⟨zr, by repeat (first | exact Drawn0.refl _ | apply Drawn0.step)⟩
 ·rw [if_neg c3] at H
  have c3b0 : ((l0.length : Int) == (l1.length : Int)) = false := beq_eq_false_iff_ne.mpr c3
  have c3b1 : ((l0.length : Int) != (l1.length : Int)) = true := bne_iff_ne.mpr c3
  have c3b2 : (l0.length == l1.length) = false := by first | simpa using c3 | (simp at c3 ⊢; omega)
  obtain rfl := Option.some.inj H
  go_enter Tryz.func37, Tryz.ntmps37
  go_wp2
  repeat (go_quiet (fail); try go_wp2)
  go_ret
  exact ⟨zr, by repeat (first | exact Drawn0.refl _ | apply Drawn0.step)⟩
/-! ### impl_ImageOK: function 13 -/
mutual
def impl_ImageOK.j0 : Nat → Bool → List Int → List Int → List (S103) → List Int → Option (Bool)
  | 0, _, _, _, _, _ => none
  | k + 1, x15, x406000, x406001, x406002, x406003 => if x15 = true then (some false) else (impl_ImageOK.l0 k x406003 (x406003.length : Int) 0 x406000 x406001 x406002 x406003)
def impl_ImageOK.l0 : Nat → List Int → Int → Int → List Int → List Int → List (S103) → List Int → Option (Bool)
  | 0, _, _, _, _, _, _, _ => none
  | k + 1, x17, x18, x19, x406000, x406001, x406002, x406003 => if x19 < x18 then (if 0 ≤ x19 then (if x19 < (x17.length : Int) then (if x19 < (x406000.length : Int) then (if (rd x406000 x19) = 0 then (if (rd x17 x19) = 0 then (impl_ImageOK.l0 k x17 x18 (wrap64 (x19 + 1)) x406000 x406001 x406002 x406003) else (some false)) else (impl_ImageOK.l0 k x17 x18 (wrap64 (x19 + 1)) x406000 x406001 x406002 x406003)) else (none)) else (none)) else (none)) else (some true)
end
def impl_ImageOK.f (k : Nat) (l0_0 : List Int) (l0_1 : List Int) (l0_2 : List (S103)) (l0_3 : List Int) : Option (Bool) := (impl_Image_nearlyOK.f k l0_0 l0_1 l0_2 l0_3).bind fun t406 => (if t406 = true then ((impl_Image_counted.f k l0_0 l0_1 l0_2 l0_3).bind fun t407 => ((slices_Equal_int_int.f k l0_0 t407).bind fun t410 => (impl_ImageOK.j0 k (!t410) l0_0 l0_1 l0_2 l0_3))) else (impl_ImageOK.j0 k true l0_0 l0_1 l0_2 l0_3))
theorem impl_ImageOK.mono_l : ∀ k, (∀ y0 y1 y2 y3 y4, LeO (impl_ImageOK.j0 k y0 y1 y2 y3 y4) (impl_ImageOK.j0 (k + 1) y0 y1 y2 y3 y4)) ∧ (∀ y0 y1 y2 y3 y4 y5 y6, LeO (impl_ImageOK.l0 k y0 y1 y2 y3 y4 y5 y6) (impl_ImageOK.l0 (k + 1) y0 y1 y2 y3 y4 y5 y6))
  | 0 => ⟨fun _ _ _ _ _ r h => by simp [impl_ImageOK.j0] at h, fun _ _ _ _ _ _ _ r h => by simp [impl_ImageOK.l0] at h⟩
  | k + 1 => by
    obtain ⟨ih0, ih1⟩ := impl_ImageOK.mono_l k
    refine ⟨?_, ?_⟩
    · intro y0 y1 y2 y3 y4
      unfold impl_ImageOK.j0
      repeat' first
      | (with_reducible exact ih0 _ _ _ _ _)
      | (with_reducible exact ih1 _ _ _ _ _ _ _)
      | (with_reducible exact impl_Image_counted.mono _ _ _ _ _)
      | (with_reducible exact impl_Image_nearlyOK.mono _ _ _ _ _)
      | (with_reducible exact slices_Equal_int_int.mono _ _ _)
      | (with_reducible exact LeO.refl _)
      | (with_reducible exact LeO.none _)
      | (with_reducible refine LeO.ite ?_ ?_)
      | (with_reducible refine LeO.bind ?_ (fun _ => ?_))
      | exact ih0 _ _ _ _ _
      | exact ih1 _ _ _ _ _ _ _
      | exact impl_Image_counted.mono _ _ _ _ _
      | exact impl_Image_nearlyOK.mono _ _ _ _ _
      | exact slices_Equal_int_int.mono _ _ _
      | exact LeO.none _
      | refine LeO.ite ?_ ?_
      | refine LeO.bind ?_ (fun _ => ?_)
    · intro y0 y1 y2 y3 y4 y5 y6
      unfold impl_ImageOK.l0
      repeat' first
      | (with_reducible exact ih0 _ _ _ _ _)
      | (with_reducible exact ih1 _ _ _ _ _ _ _)
      | (with_reducible exact impl_Image_counted.mono _ _ _ _ _)
      | (with_reducible exact impl_Image_nearlyOK.mono _ _ _ _ _)
      | (with_reducible exact slices_Equal_int_int.mono _ _ _)
      | (with_reducible exact LeO.refl _)
      | (with_reducible exact LeO.none _)
      | (with_reducible refine LeO.ite ?_ ?_)
      | (with_reducible refine LeO.bind ?_ (fun _ => ?_))
      | exact ih0 _ _ _ _ _
      | exact ih1 _ _ _ _ _ _ _
      | exact impl_Image_counted.mono _ _ _ _ _
      | exact impl_Image_nearlyOK.mono _ _ _ _ _
      | exact slices_Equal_int_int.mono _ _ _
      | exact LeO.none _
      | refine LeO.ite ?_ ?_
      | refine LeO.bind ?_ (fun _ => ?_)
theorem impl_ImageOK.mono : ∀ a0 a1 a2 a3 k, LeO (impl_ImageOK.f k a0 a1 a2 a3) (impl_ImageOK.f (k + 1) a0 a1 a2 a3) := by
  intro a0 a1 a2 a3 k
  obtain ⟨ih0, ih1⟩ := impl_ImageOK.mono_l k
  unfold impl_ImageOK.f
  repeat' first
      | (with_reducible exact ih0 _ _ _ _ _)
      | (with_reducible exact ih1 _ _ _ _ _ _ _)
      | (with_reducible exact impl_Image_counted.mono _ _ _ _ _)
      | (with_reducible exact impl_Image_nearlyOK.mono _ _ _ _ _)
      | (with_reducible exact slices_Equal_int_int.mono _ _ _)
      | (with_reducible exact LeO.refl _)
      | (with_reducible exact LeO.none _)
      | (with_reducible refine LeO.ite ?_ ?_)
      | (with_reducible refine LeO.bind ?_ (fun _ => ?_))
      | exact ih0 _ _ _ _ _
      | exact ih1 _ _ _ _ _ _ _
      | exact impl_Image_counted.mono _ _ _ _ _
      | exact impl_Image_nearlyOK.mono _ _ _ _ _
      | exact slices_Equal_int_int.mono _ _ _
      | exact LeO.none _
      | refine LeO.ite ?_ ?_
      | refine LeO.bind ?_ (fun _ => ?_)
def impl_ImageOK.T1 : Bool × List (List Nat × List Nat) := (true, [([], []), ([0], [0]), ([1], [1]), ([2, 1], [2]), ([3], [3]), ([4, 3], [3, 4]), ([3], [3]), ([6, 3, 3], [3, 6]), ([5, 7, 7, 3], [3, 5, 7]), ([8, 3], [3, 8]), ([3, 9], [3, 9])])
def impl_ImageOK.B1 : List Nat := [0, 1, 3, 7, 15, 31, 15, 79, 255, 511, 1023]
theorem impl_ImageOK.tab1 : rtab .any (opsOf Tryz.f13 1) = impl_ImageOK.T1 := by kernel_rfl
theorem impl_ImageOK.bits1 : waitsOk impl_ImageOK.T1.2 impl_ImageOK.B1 = true := by kernel_rfl
set_option maxHeartbeats 8000000 in
set_option maxRecDepth 100000 in
theorem impl_ImageOK.calls (k : Nat) (A0_0 : Option Addr) (c0_0 : Nat) (l0_0 : List Int) (A0_1 : Option Addr) (c0_1 : Nat) (l0_1 : List Int) (A0_2 : Option Addr) (c0_2 : Nat) (l0_2 : List (S103)) (A0_3 : Option Addr) (c0_3 : Nat) (l0_3 : List Int) (r : Bool) (w : World) (hr0_0 : Kd.C (Kd.int .i64) w A0_0 l0_0.length l0_0) (hc0_0 : l0_0.length ≤ c0_0) (hr0_1 : Kd.C (Kd.int .i64) w A0_1 l0_1.length l0_1) (hc0_1 : l0_1.length ≤ c0_1) (hr0_2 : Kd.C k103 w A0_2 l0_2.length l0_2) (hc0_2 : l0_2.length ≤ c0_2) (hr0_3 : Kd.C (Kd.int .i64) w A0_3 l0_3.length l0_3) (hc0_3 : l0_3.length ≤ c0_3) (h : impl_ImageOK.f k l0_0 l0_1 l0_2 l0_3 = some r) :
    Calls Tryz.prog 13 #[.agg #[.slice A0_0 l0_0.length c0_0, .slice A0_1 l0_1.length c0_1, .slice A0_2 l0_2.length c0_2, .slice A0_3 l0_3.length c0_3]] w fun e w' => e = .returned (.bool r) ∧ Below w.heap.size w w' := by
 have hu26 := Tryz.underlying26
 have Zc := zm hr0_0
 have Ze := zm hc0_0
 clear hr0_0 hc0_0
 have Zf := zm hr0_1
 have Zg := zm hc0_1
 clear hr0_1 hc0_1
 have Zh := zm hr0_2
 have Zi := zm hc0_2
 clear hr0_2 hc0_2
 have Zd := zm hr0_3
 have Zj := zm hc0_3
 clear hr0_3 hc0_3
 have HB := zm (Below.refl w.heap.size w)
 have H : ((impl_Image_nearlyOK.f k l0_0 l0_1 l0_2 l0_3).bind fun t406 => (if t406 = true then ((impl_Image_counted.f k l0_0 l0_1 l0_2 l0_3).bind fun t407 => ((slices_Equal_int_int.f k l0_0 t407).bind fun t410 => (impl_ImageOK.j0 k (!t410) l0_0 l0_1 l0_2 l0_3))) else (impl_ImageOK.j0 k true l0_0 l0_1 l0_2 l0_3))) = some r := h
 clear h
 have HC2 := zm H
 clear H
 go_enter Tryz.func13, Tryz.ntmps13
 go_upto_region 1 with (first | ((with_reducible refine gate_dst (N := 1) rfl ?_); refine box_event ?hg (N := 1) ?hd (cs := #[.slice A0_0 l0_0.length c0_0, .slice A0_1 l0_1.length c0_1, .slice A0_2 l0_2.length c0_2, .slice A0_3 l0_3.length c0_3]) (t := 26) ?hr ?_; (case hd => rfl); (case hg => rfl); (case hr => first | (go_simp; done) | (go_simp; rfl)); intro gb405 hg w3 hbox hb; have n0_ := zm (below_step (zg_1 HB.out) hb); have n1_ := zm (hbox); have n2_ := zm ((by rw [hg]; exact (below_size (zg_1 HB.out)) : w.heap.size ≤ gb405)); have n3_ := zm ((by rw [hg]; exact (below_size (zg_1 HB.out)) : w.heap.size ≤ gb405)); clear HB; have HB := n0_; have Za := n1_; have Zl := n2_; have Zb := n3_; clear n0_ n1_ n2_ n3_; clear hb hbox hg))
 (try simp only [Act.put, zs, zz, zt])
 go_cut [15] (fun v15 wc => ∃ (kq : Nat) (x15_1 : Bool), v15 = .bool x15_1 ∧ Aside0 (impl_ImageOK.j0 kq x15_1 l0_0 l0_1 l0_2 l0_3 = some r) ∧ Aside0 (kq ≤ k) ∧ Aside0 (wc.heap[gb405]? = some (.cells #[(.slice A0_0 l0_0.length c0_0), (.slice A0_1 l0_1.length c0_1), (.slice A0_2 l0_2.length c0_2), (.slice A0_3 l0_3.length c0_3)] 26 (0, 0))) ∧ Aside0 (Below w.heap.size w wc))
 case first =>
  have H := HC2.out
  clear HC2
  replace H := Option.bind_eq_some_iff.mp H
  obtain ⟨t406, A40, H⟩ := H
  replace H : (if t406 = true then ((impl_Image_counted.f k l0_0 l0_1 l0_2 l0_3).bind fun t407 => ((slices_Equal_int_int.f k l0_0 t407).bind fun t410 => (impl_ImageOK.j0 k (!t410) l0_0 l0_1 l0_2 l0_3))) else (impl_ImageOK.j0 k true l0_0 l0_1 l0_2 l0_3)) = some r := H
  have A4 := zm A40
  clear A40
  by_cases c5 : t406 = true
  ·subst c5
   have H1 : ((impl_Image_counted.f k l0_0 l0_1 l0_2 l0_3).bind fun t407 => ((slices_Equal_int_int.f k l0_0 t407).bind fun t410 => (impl_ImageOK.j0 k (!t410) l0_0 l0_1 l0_2 l0_3))) = some r := by rw [if_pos rfl] at H; exact H
   clear H
   have H := H1
   clear H1
   replace H := Option.bind_eq_some_iff.mp H
   obtain ⟨t407, A60, H⟩ := H
   replace H : ((slices_Equal_int_int.f k l0_0 t407).bind fun t410 => (impl_ImageOK.j0 k (!t410) l0_0 l0_1 l0_2 l0_3)) = some r := H
   have A6 := zm A60
   clear A60
   replace H := Option.bind_eq_some_iff.mp H
   obtain ⟨t410, A70, H⟩ := H
   replace H : (impl_ImageOK.j0 k (!t410) l0_0 l0_1 l0_2 l0_3) = some r := H
   have A7 := zm A70
   clear A70
   have H' := zm H
   clear H
   try go_wp2
   have n0_ := zm (blk_drew Za.out)
   have n1_ := zm (below_drew1 HB.out)
   clear Za
   clear HB
   have Za := n0_
   have HB := n1_
   clear n0_ n1_
   refine start_ (n := 11) (S := fun w' => w'.cell? ⟨gb405, 0, none⟩ = some (.slice A0_0 l0_0.length c0_0) ∧ w'.cell? ⟨gb405, 1, none⟩ = some (.slice A0_1 l0_1.length c0_1) ∧ w'.cell? ⟨gb405, 2, none⟩ = some (.slice A0_2 l0_2.length c0_2) ∧ w'.cell? ⟨gb405, 3, none⟩ = some (.slice A0_3 l0_3.length c0_3)) (ds := []) #[false, false, false, false, false, false, false, false, false, false, false] (by kernel_rfl) rfl rfl ⟨(blk_cell Za.out 0).trans rfl, (blk_cell Za.out 1).trans rfl, (blk_cell Za.out 2).trans rfl, (blk_cell Za.out 3).trans rfl⟩ (fun hHeld => ?_); refine with_tabW impl_ImageOK.tab1 impl_ImageOK.bits1 (fun HT_ HW_ => ?_)
   generalize w3.drew = w8 at Za HB hHeld ⊢
   refine take_ (i := 0) (N := some 5) (v := ?_) (a' := ?_) #[true, false, false, false, false, false, false, false, false, false, false] rfl rfl (take_ofW HT_.out HW_.out (by kernel_rfl)) (fun _ _ _ h => h) (Or.inl ⟨by rfl, ?_⟩) hHeld ?_ ?_
   rotate_left
   ·rintro w' ⟨s0, s1, s2, s3⟩
    go_simp
    with_reducible rfl
   rotate_left
   ·simp only [Act.put, zs, zz, zt, i64_w, i32_w]
    rfl
   refine one_ (i := 1) (N := some 6) #[true, true, false, false, false, false, false, false, false, false, false] rfl rfl (one_of HT_.out (by kernel_rfl)) (by decide) (fun K hK => ?_)
   refine goes_ Tryz.func34 (by kernel_rfl) rfl #[.agg #[.slice A0_0 l0_0.length c0_0, .slice A0_1 l0_1.length c0_1, .slice A0_2 l0_2.length c0_2, .slice A0_3 l0_3.length c0_3]] (by rfl) rfl rfl zq ?_
   with_reducible refine (impl_Image_nearlyOK.calls k _ _ l0_0 _ _ l0_1 _ _ l0_2 _ _ l0_3 true _ ?side1 ?side2 ?side3 ?side4 ?side5 ?side6 ?side7 ?side8 A4.out).mono ?_
   (case side1 => exact zC (Kd.C_below Zc.out HB.out))
   (case side2 => exact Ze.out)
   (case side3 => exact zC (Kd.C_below Zf.out HB.out))
   (case side4 => exact Zg.out)
   (case side5 => exact zC (Kd.C_below Zh.out HB.out))
   (case side6 => exact Zi.out)
   (case side7 => exact zC (Kd.C_below Zd.out HB.out))
   (case side8 => exact Zj.out)
   rintro e w9 ⟨rfl, hb⟩
   refine ⟨_, rfl, ?_⟩
   have n0_ := zm (blk_below (g := gb405) (o := .cells #[.slice A0_0 l0_0.length c0_0, .slice A0_1 l0_1.length c0_1, .slice A0_2 l0_2.length c0_2, .slice A0_3 l0_3.length c0_3] 26 (0, 0)) (zg_3 Za.out) hb)
   have n1_ := zm (below_step (zg_2 HB.out Zb.out) hb)
   clear Za
   clear HB
   have Za := n0_
   have HB := n1_
   clear n0_ n1_
   (try clear hb)
   (try clear hb2)
   (try clear hk)
   (try clear hi)
   refine hK.out _ _ ⟨(blk_cell Za.out 0).trans rfl, (blk_cell Za.out 1).trans rfl, (blk_cell Za.out 2).trans rfl, (blk_cell Za.out 3).trans rfl⟩ (fun hHeld => ?_)
   clear hK K
   refine norm_ (a' := ?_) ?_ ?_
   rotate_left
   ·show Act.put _ (some 6) _ = _
    simp only [Act.put, zs, zz, zt, i64_w, i32_w]
    rfl
   refine pure_ (i := 2) (N := some 7) (v := ?_) (a' := ?_) #[true, true, true, false, false, false, false, false, false, false, false] rfl rfl (any_of HT_.out (by kernel_rfl)) (fun _ _ _ h => h) (Or.inl ⟨by rfl, ?_⟩) ?_ ?_
   rotate_left
   ·intro w'
    go_simp
    with_reducible rfl
   rotate_left
   ·simp only [Act.put, zs, zz, zt, i64_w, i32_w]
    rfl
   refine pure_ (i := 3) (N := some 8) (v := ?_) (a' := ?_) #[true, true, true, true, false, false, false, false, false, false, false] rfl rfl (any_of HT_.out (by kernel_rfl)) (fun _ _ _ h => h) (Or.inl ⟨by rfl, ?_⟩) ?_ ?_
   rotate_left
   ·intro w'
    go_simp
    with_reducible rfl
   rotate_left
   ·simp only [Act.put, zs, zz, zt, i64_w, i32_w]
    rfl
   refine pure_ (i := 4) (N := some 9) (v := ?_) (a' := ?_) #[true, true, true, true, true, false, false, false, false, false, false] rfl rfl (any_of HT_.out (by kernel_rfl)) (fun _ _ _ h => h) (Or.inl ⟨by rfl, ?_⟩) ?_ ?_
   rotate_left
   ·intro w'
    go_simp
    with_reducible rfl
   rotate_left
   ·simp only [Act.put, zs, zz, zt, i64_w, i32_w]
    rfl
   refine take_ (i := 5) (N := some 10) (v := ?_) (a' := ?_) #[true, true, true, true, true, true, false, false, false, false, false] rfl rfl (take_ofW HT_.out HW_.out (by kernel_rfl)) (fun _ _ _ h => h) (Or.inl ⟨by rfl, ?_⟩) hHeld ?_ ?_
   rotate_left
   ·rintro w' ⟨s0, s1, s2, s3⟩
    go_simp
    with_reducible rfl
   rotate_left
   ·simp only [Act.put, zs, zz, zt, i64_w, i32_w]
    rfl
   refine take_ (i := 6) (N := some 11) (v := ?_) (a' := ?_) #[true, true, true, true, true, true, true, false, false, false, false] rfl rfl (take_ofW HT_.out HW_.out (by kernel_rfl)) (fun _ _ _ h => h) (Or.inl ⟨by rfl, ?_⟩) hHeld ?_ ?_
   rotate_left
   ·rintro w' ⟨s0, s1, s2, s3⟩
    go_simp
    with_reducible rfl
   rotate_left
   ·simp only [Act.put, zs, zz, zt, i64_w, i32_w]
    rfl
   refine one_ (i := 7) (N := some 12) #[true, true, true, true, true, true, true, true, false, false, false] rfl rfl (one_of HT_.out (by kernel_rfl)) (by decide) (fun K hK => ?_)
   refine goes_ Tryz.func35 (by kernel_rfl) rfl #[.agg #[.slice A0_0 l0_0.length c0_0, .slice A0_1 l0_1.length c0_1, .slice A0_2 l0_2.length c0_2, .slice A0_3 l0_3.length c0_3]] (by rfl) rfl rfl zq ?_
   with_reducible refine (impl_Image_counted.calls k _ _ l0_0 _ _ l0_1 _ _ l0_2 _ _ l0_3 t407 _ ?side1 ?side2 ?side3 ?side4 ?side5 ?side6 ?side7 ?side8 A6.out).mono ?_
   (case side1 => exact zC (Kd.C_below Zc.out HB.out))
   (case side2 => exact Ze.out)
   (case side3 => exact zC (Kd.C_below Zf.out HB.out))
   (case side4 => exact Zg.out)
   (case side5 => exact zC (Kd.C_below Zh.out HB.out))
   (case side6 => exact Zi.out)
   (case side7 => exact zC (Kd.C_below Zd.out HB.out))
   (case side8 => exact Zj.out)
   rintro e w10 ⟨v408, rfl, ho0, hb⟩
   refine ⟨_, rfl, ?_⟩
   have n0_ := zm (Kd.R_lower ho0 (below_size (zg_2 HB.out Zb.out)))
   have n1_ := zm (blk_below (g := gb405) (o := .cells #[.slice A0_0 l0_0.length c0_0, .slice A0_1 l0_1.length c0_1, .slice A0_2 l0_2.length c0_2, .slice A0_3 l0_3.length c0_3] 26 (0, 0)) (zg_3 Za.out) hb)
   have n2_ := zm (below_step (zg_2 HB.out Zb.out) hb)
   clear Za
   clear HB
   have Zk := n0_
   have Za := n1_
   have HB := n2_
   clear n0_ n1_ n2_
   (try clear hb)
   (try clear hb2)
   (try clear hk)
   (try clear hi)
   (try clear ho0)
   obtain ⟨Ao11, co11, eo11⟩ := Kd.R_slice Zk.out
   (first | subst eo11 | (injection eo11 with f1_ f2_ f3_; have f4_ := f1_.symm; have f5_ := f3_.symm; clear f1_ f2_ f3_; subst f4_; subst f5_))
   refine hK.out _ _ ⟨(blk_cell Za.out 0).trans rfl, (blk_cell Za.out 1).trans rfl, (blk_cell Za.out 2).trans rfl, (blk_cell Za.out 3).trans rfl⟩ (fun hHeld => ?_)
   clear hK K
   refine norm_ (a' := ?_) ?_ ?_
   rotate_left
   ·show Act.put _ (some 12) _ = _
    simp only [Act.put, zs, zz, zt, i64_w, i32_w]
    rfl
   refine one_ (i := 8) (N := some 13) #[true, true, true, true, true, true, true, true, true, false, false] rfl rfl (one_of HT_.out (by kernel_rfl)) (by decide) (fun K hK => ?_)
   refine goes_ Tryz.func37 (by kernel_rfl) rfl #[.slice A0_0 l0_0.length c0_0, .slice Ao11 t407.length co11] (by rfl) rfl rfl zq ?_
   with_reducible refine (slices_Equal_int_int.calls k _ _ l0_0 _ _ t407 t410 _ ?side1 ?side2 ?side3 ?side4 A7.out).mono ?_
   (case side1 => exact zC (Kd.C_below Zc.out HB.out))
   (case side2 => exact Ze.out)
   (case side3 => exact zC ((Kd.R_reads' Zk.out).2.2))
   (case side4 => exact (Kd.R_reads' Zk.out).2.1)
   rintro e w' ⟨rfl, ⟨nd, rfl⟩⟩
   refine ⟨_, rfl, ?_⟩
   refine hK.out _ _ ⟨(blk_cell Za.out 0).trans rfl, (blk_cell Za.out 1).trans rfl, (blk_cell Za.out 2).trans rfl, (blk_cell Za.out 3).trans rfl⟩ (fun hHeld => ?_)
   clear hK K
   refine norm_ (a' := ?_) ?_ ?_
   rotate_left
   ·show Act.put _ (some 13) _ = _
    simp only [Act.put, zs, zz, zt, i64_w, i32_w]
    rfl
   refine pure_ (i := 9) (N := some 14) (v := ?_) (a' := ?_) #[true, true, true, true, true, true, true, true, true, true, false] rfl rfl (any_of HT_.out (by kernel_rfl)) (fun _ _ _ h => h) (Or.inl ⟨by rfl, ?_⟩) ?_ ?_
   rotate_left
   ·intro w'
    go_simp
    with_reducible rfl
   rotate_left
   ·simp only [Act.put, zs, zz, zt, i64_w, i32_w]
    rfl
   refine pure_ (i := 10) (N := some 15) (v := ?_) (a' := ?_) #[true, true, true, true, true, true, true, true, true, true, true] rfl rfl (any_of HT_.out (by kernel_rfl)) (fun _ _ _ h => h) (Or.inl ⟨by rfl, ?_⟩) ?_ ?_
   rotate_left
   ·intro w'
    go_simp
    with_reducible rfl
   rotate_left
   ·simp only [Act.put, zs, zz, zt, i64_w, i32_w]
    rfl
   refine done_ (done_of HT_.out (by kernel_rfl)) ?_
   try go_wp2
   go_meet
   case rel => exact ⟨_, (!t410), zr, H', ⟨by first | omega | exact Nat.le_refl _⟩, ⟨by (with_reducible repeat (first | refine blk_drewN ?_ _ | refine blk_drew ?_ | refine blk_alloc ?_ _)); exact Za.out⟩, ⟨zg_2 HB.out Zb.out⟩⟩
  ·replace c5 := Bool.eq_false_iff.mpr c5
   subst c5
   have H1 : (impl_ImageOK.j0 k true l0_0 l0_1 l0_2 l0_3) = some r := by rw [if_neg (show ¬ (false = true) by decide)] at H; exact H
   clear H
   have H := H1
   clear H1
   have H' := zm H
   clear H
   try go_wp2
   have n0_ := zm (blk_drew Za.out)
   have n1_ := zm (below_drew1 HB.out)
   clear Za
   clear HB
   have Za := n0_
   have HB := n1_
   clear n0_ n1_
   refine start_ (n := 11) (S := fun w' => w'.cell? ⟨gb405, 0, none⟩ = some (.slice A0_0 l0_0.length c0_0) ∧ w'.cell? ⟨gb405, 1, none⟩ = some (.slice A0_1 l0_1.length c0_1) ∧ w'.cell? ⟨gb405, 2, none⟩ = some (.slice A0_2 l0_2.length c0_2) ∧ w'.cell? ⟨gb405, 3, none⟩ = some (.slice A0_3 l0_3.length c0_3)) (ds := []) #[false, false, false, false, false, false, false, false, false, false, false] (by kernel_rfl) rfl rfl ⟨(blk_cell Za.out 0).trans rfl, (blk_cell Za.out 1).trans rfl, (blk_cell Za.out 2).trans rfl, (blk_cell Za.out 3).trans rfl⟩ (fun hHeld => ?_); refine with_tabW impl_ImageOK.tab1 impl_ImageOK.bits1 (fun HT_ HW_ => ?_)
   generalize w3.drew = w12 at Za HB hHeld ⊢
   refine take_ (i := 0) (N := some 5) (v := ?_) (a' := ?_) #[true, false, false, false, false, false, false, false, false, false, false] rfl rfl (take_ofW HT_.out HW_.out (by kernel_rfl)) (fun _ _ _ h => h) (Or.inl ⟨by rfl, ?_⟩) hHeld ?_ ?_
   rotate_left
   ·rintro w' ⟨s0, s1, s2, s3⟩
    go_simp
    with_reducible rfl
   rotate_left
   ·simp only [Act.put, zs, zz, zt, i64_w, i32_w]
    rfl
   refine one_ (i := 1) (N := some 6) #[true, true, false, false, false, false, false, false, false, false, false] rfl rfl (one_of HT_.out (by kernel_rfl)) (by decide) (fun K hK => ?_)
   refine goes_ Tryz.func34 (by kernel_rfl) rfl #[.agg #[.slice A0_0 l0_0.length c0_0, .slice A0_1 l0_1.length c0_1, .slice A0_2 l0_2.length c0_2, .slice A0_3 l0_3.length c0_3]] (by rfl) rfl rfl zq ?_
   with_reducible refine (impl_Image_nearlyOK.calls k _ _ l0_0 _ _ l0_1 _ _ l0_2 _ _ l0_3 false _ ?side1 ?side2 ?side3 ?side4 ?side5 ?side6 ?side7 ?side8 A4.out).mono ?_
   (case side1 => exact zC (Kd.C_below Zc.out HB.out))
   (case side2 => exact Ze.out)
   (case side3 => exact zC (Kd.C_below Zf.out HB.out))
   (case side4 => exact Zg.out)
   (case side5 => exact zC (Kd.C_below Zh.out HB.out))
   (case side6 => exact Zi.out)
   (case side7 => exact zC (Kd.C_below Zd.out HB.out))
   (case side8 => exact Zj.out)
   rintro e w13 ⟨rfl, hb⟩
   refine ⟨_, rfl, ?_⟩
   have n0_ := zm (blk_below (g := gb405) (o := .cells #[.slice A0_0 l0_0.length c0_0, .slice A0_1 l0_1.length c0_1, .slice A0_2 l0_2.length c0_2, .slice A0_3 l0_3.length c0_3] 26 (0, 0)) (zg_3 Za.out) hb)
   have n1_ := zm (below_step (zg_2 HB.out Zb.out) hb)
   clear Za
   clear HB
   have Za := n0_
   have HB := n1_
   clear n0_ n1_
   (try clear hb)
   (try clear hb2)
   (try clear hk)
   (try clear hi)
   refine hK.out _ _ ⟨(blk_cell Za.out 0).trans rfl, (blk_cell Za.out 1).trans rfl, (blk_cell Za.out 2).trans rfl, (blk_cell Za.out 3).trans rfl⟩ (fun hHeld => ?_)
   clear hK K
   refine norm_ (a' := ?_) ?_ ?_
   rotate_left
   ·show Act.put _ (some 6) _ = _
    simp only [Act.put, zs, zz, zt, i64_w, i32_w]
    rfl
   refine pure_ (i := 2) (N := some 7) (v := ?_) (a' := ?_) #[true, true, true, false, false, false, false, false, false, false, false] rfl rfl (any_of HT_.out (by kernel_rfl)) (fun _ _ _ h => h) (Or.inl ⟨by rfl, ?_⟩) ?_ ?_
   rotate_left
   ·intro w'
    go_simp
    with_reducible rfl
   rotate_left
   ·simp only [Act.put, zs, zz, zt, i64_w, i32_w]
    rfl
   refine pure_ (i := 3) (N := some 8) (v := ?_) (a' := ?_) #[true, true, true, true, false, false, false, false, false, false, false] rfl rfl (any_of HT_.out (by kernel_rfl)) (fun _ _ _ h => h) (Or.inl ⟨by rfl, ?_⟩) ?_ ?_
   rotate_left
   ·intro w'
    go_simp
    with_reducible rfl
   rotate_left
   ·simp only [Act.put, zs, zz, zt, i64_w, i32_w]
    rfl
   refine pure_ (i := 4) (N := some 9) (v := undef) (a' := ?_) #[true, true, true, true, true, false, false, false, false, false, false] rfl rfl (any_of HT_.out (by kernel_rfl)) (fun _ _ _ h => h) (Or.inr ⟨by rfl, rfl⟩) ?_ ?_
   rotate_left
   ·simp only [Act.put, zs, zz, zt, i64_w, i32_w]
    rfl
   refine pure_ (i := 5) (N := some 10) (v := undef) (a' := ?_) #[true, true, true, true, true, true, false, false, false, false, false] rfl rfl (any_of HT_.out (by kernel_rfl)) (fun _ _ _ h => h) (Or.inr ⟨by rfl, rfl⟩) ?_ ?_
   rotate_left
   ·simp only [Act.put, zs, zz, zt, i64_w, i32_w]
    rfl
   refine pure_ (i := 6) (N := some 11) (v := undef) (a' := ?_) #[true, true, true, true, true, true, true, false, false, false, false] rfl rfl (any_of HT_.out (by kernel_rfl)) (fun _ _ _ h => h) (Or.inr ⟨by rfl, rfl⟩) ?_ ?_
   rotate_left
   ·simp only [Act.put, zs, zz, zt, i64_w, i32_w]
    rfl
   refine pure_ (i := 7) (N := some 12) (v := undef) (a' := ?_) #[true, true, true, true, true, true, true, true, false, false, false] rfl rfl (any_of HT_.out (by kernel_rfl)) (fun _ _ _ h => h) (Or.inr ⟨by rfl, rfl⟩) ?_ ?_
   rotate_left
   ·simp only [Act.put, zs, zz, zt, i64_w, i32_w]
    rfl
   refine pure_ (i := 8) (N := some 13) (v := undef) (a' := ?_) #[true, true, true, true, true, true, true, true, true, false, false] rfl rfl (any_of HT_.out (by kernel_rfl)) (fun _ _ _ h => h) (Or.inr ⟨by rfl, rfl⟩) ?_ ?_
   rotate_left
   ·simp only [Act.put, zs, zz, zt, i64_w, i32_w]
    rfl
   refine pure_ (i := 9) (N := some 14) (v := undef) (a' := ?_) #[true, true, true, true, true, true, true, true, true, true, false] rfl rfl (any_of HT_.out (by kernel_rfl)) (fun _ _ _ h => h) (Or.inr ⟨by rfl, rfl⟩) ?_ ?_
   rotate_left
   ·simp only [Act.put, zs, zz, zt, i64_w, i32_w]
    rfl
   refine pure_ (i := 10) (N := some 15) (v := ?_) (a' := ?_) #[true, true, true, true, true, true, true, true, true, true, true] rfl rfl (any_of HT_.out (by kernel_rfl)) (fun _ _ _ h => h) (Or.inl ⟨by rfl, ?_⟩) ?_ ?_
   rotate_left
   ·intro w'
    go_simp
    with_reducible rfl
   rotate_left
   ·simp only [Act.put, zs, zz, zt, i64_w, i32_w]
    rfl
   refine done_ (done_of HT_.out (by kernel_rfl)) ?_
   try go_wp2
   go_meet
   case rel => exact ⟨_, (true), zr, H', ⟨by first | omega | exact Nat.le_refl _⟩, ⟨by (with_reducible repeat (first | refine blk_drewN ?_ _ | refine blk_drew ?_ | refine blk_alloc ?_ _)); exact Za.out⟩, ⟨zg_2 HB.out Zb.out⟩⟩
 case rest =>
  clear HC2
  try clear c1
  try clear p2
  try clear c3
  try clear c5
  try clear c13
  obtain ⟨kq, x15_1, rfl, HA, HJ1, Za, HB⟩ := hcut
  cases kq with
  | zero => exact absurd HA.out (by simp [impl_ImageOK.j0])
  | succ kj1 =>
   have H := HA.out
   clear HA
   simp only [impl_ImageOK.j0] at H
   by_cases c14 : x15_1 = true
   ·subst c14
    have H1 : (some false) = some r := by rw [if_pos rfl] at H; exact H
    clear H
    have H := H1
    clear H1
    obtain rfl := Option.some.inj H
    go_wp2
    go_ret
    exact ⟨by first | rfl | (simp [errW_none, errW_some] <;> rfl) | (simp [*, errW_none, errW_some] <;> rfl), zg_2 HB.out Zb.out⟩
   ·replace c14 := Bool.eq_false_iff.mpr c14
    subst c14
    have H1 : (impl_ImageOK.l0 kj1 l0_3 (l0_3.length : Int) 0 l0_0 l0_1 l0_2 l0_3) = some r := by rw [if_neg (show ¬ (false = true) by decide)] at H; exact H
    clear H
    have H := H1
    clear H1
    have H' := zm H
    clear H
    have hcz15_0 : wc.cell? ⟨gb405, 0, none⟩ = some (.slice A0_0 l0_0.length c0_0) := (blk_cell Za.out 0).trans rfl
    have hcz15_1 : wc.cell? ⟨gb405, 1, none⟩ = some (.slice A0_1 l0_1.length c0_1) := (blk_cell Za.out 1).trans rfl
    have hcz15_2 : wc.cell? ⟨gb405, 2, none⟩ = some (.slice A0_2 l0_2.length c0_2) := (blk_cell Za.out 2).trans rfl
    have hcz15_3 : wc.cell? ⟨gb405, 3, none⟩ = some (.slice A0_3 l0_3.length c0_3) := (blk_cell Za.out 3).trans rfl
    have hfz15_0 := blk_frozen Za.out 0
    have hfz15_1 := blk_frozen Za.out 1
    have hfz15_2 := blk_frozen Za.out 2
    have hfz15_3 := blk_frozen Za.out 3
    go_wp2
    go_loopg [19] kj1 (fun kq v19 w' => ∃ (x19_2 : Int), v19 = .int .i64 x19_2 ∧ Aside0 (impl_ImageOK.l0 kq l0_3 (l0_3.length : Int) x19_2 l0_0 l0_1 l0_2 l0_3 = some r) ∧ Aside0 (kq ≤ kj1) ∧ Aside0 (w'.heap[gb405]? = some (.cells #[(.slice A0_0 l0_0.length c0_0), (.slice A0_1 l0_1.length c0_1), (.slice A0_2 l0_2.length c0_2), (.slice A0_3 l0_3.length c0_3)] 26 (0, 0))) ∧ Aside0 (Below w.heap.size w w'))
    case atStart => exact ⟨(0), zr, H', ⟨Nat.le_refl _⟩, ⟨by (with_reducible repeat (first | refine blk_drewN ?_ _ | refine blk_drew ?_ | refine blk_alloc ?_ _)); exact Za.out⟩, ⟨zg_2 HB.out Zb.out⟩⟩
    case round =>
     clear H'
     try clear c1
     try clear p2
     try clear c3
     try clear c5
     try clear c13
     try clear c14
     try clear hcz15_0
     try clear hcz15_1
     try clear hcz15_2
     try clear hcz15_3
     try clear hfz15_0
     try clear hfz15_1
     try clear hfz15_2
     try clear hfz15_3
     try clear p2
     obtain ⟨x19_2, rfl, HA, HK2, Za, HB⟩ := hrel
     cases gk with
     | zero => exact absurd HA.out (by simp [impl_ImageOK.l0])
     | succ k2 =>
      have H := HA.out
      clear HA
      simp only [impl_ImageOK.l0] at H
      by_cases c16 : x19_2 < (l0_3.length : Int)
      ·rw [if_pos c16] at H
       have c16b0 : decide (x19_2 < (l0_3.length : Int)) = true := decide_eq_true c16
       clear c16
       by_cases c17 : 0 ≤ x19_2
       ·rw [if_pos c17] at H
        have c17b0 : decide (0 ≤ x19_2) = true := decide_eq_true c17
        clear c17
        by_cases c18 : x19_2 < (l0_3.length : Int)
        ·rw [if_pos c18] at H
         have c18b0 : decide (x19_2 < (l0_3.length : Int)) = true := decide_eq_true c18
         clear c18
         by_cases c19 : x19_2 < (l0_0.length : Int)
         ·rw [if_pos c19] at H
          have c19b0 : decide (x19_2 < (l0_0.length : Int)) = true := decide_eq_true c19
          clear c19
          by_cases c20 : (rd l0_0 x19_2) = 0
          ·rw [if_pos c20] at H
           have c20b0 : ((rd l0_0 x19_2) == 0) = true := beq_iff_eq.mpr c20
           have c20b1 : ((rd l0_0 x19_2) != 0) = false := bne_eq_false_iff_eq.mpr c20
           clear c20
           by_cases c21 : (rd l0_3 x19_2) = 0
           ·rw [if_pos c21] at H
            have c21b0 : ((rd l0_3 x19_2) == 0) = true := beq_iff_eq.mpr c21
            have c21b1 : ((rd l0_3 x19_2) != 0) = false := bne_eq_false_iff_eq.mpr c21
            clear c21
            have H' := zm H
            clear H
            have p411 : 0 ≤ (x19_2 : Int) := zd
            have q411 : x19_2 < (l0_3.length : Int) := zd
            obtain ⟨ad411, e411, hx411_0⟩ := Kd.at_int Zd.out x19_2 p411 q411
            cases e411
            replace hx411_0 := (HB.out.cell (World.block_lt_of_cell? w _ hx411_0)).trans hx411_0
            replace p411 := eq_true p411
            replace q411 := eq_true q411
            have hcz22_0 : wr.cell? ⟨gb405, 0, none⟩ = some (.slice A0_0 l0_0.length c0_0) := (blk_cell Za.out 0).trans rfl
            have hcz22_1 : wr.cell? ⟨gb405, 1, none⟩ = some (.slice A0_1 l0_1.length c0_1) := (blk_cell Za.out 1).trans rfl
            have hcz22_2 : wr.cell? ⟨gb405, 2, none⟩ = some (.slice A0_2 l0_2.length c0_2) := (blk_cell Za.out 2).trans rfl
            have hcz22_3 : wr.cell? ⟨gb405, 3, none⟩ = some (.slice (some ad411) l0_3.length c0_3) := (blk_cell Za.out 3).trans rfl
            have hfz22_0 := blk_frozen Za.out 0
            have hfz22_1 := blk_frozen Za.out 1
            have hfz22_2 := blk_frozen Za.out 2
            have hfz22_3 := blk_frozen Za.out 3
            have p412 : 0 ≤ (x19_2 : Int) := zd
            have q412 : x19_2 < (l0_0.length : Int) := zd
            obtain ⟨ad412, e412, hx412_0⟩ := Kd.at_int Zc.out x19_2 p412 q412
            cases e412
            replace hx412_0 := (HB.out.cell (World.block_lt_of_cell? w _ hx412_0)).trans hx412_0
            replace p412 := eq_true p412
            replace q412 := eq_true q412
            go_wp2
            go_roundg k2
            case measure => have := HJ1.out; have := HK2.out; omega
            case rel => exact ⟨(wrap64 (x19_2 + 1)), zr, H', ⟨by have := HJ1.out; have := HK2.out; omega⟩, ⟨by (with_reducible repeat (first | refine blk_drewN ?_ _ | refine blk_drew ?_ | refine blk_alloc ?_ _)); exact Za.out⟩, ⟨zg_2 HB.out Zb.out⟩⟩
           ·rw [if_neg c21] at H
            have c21b0 : ((rd l0_3 x19_2) == 0) = false := beq_eq_false_iff_ne.mpr c21
            have c21b1 : ((rd l0_3 x19_2) != 0) = true := bne_iff_ne.mpr c21
            obtain rfl := Option.some.inj H
            have p411 : 0 ≤ (x19_2 : Int) := zd
            have q411 : x19_2 < (l0_3.length : Int) := zd
            obtain ⟨ad411, e411, hx411_0⟩ := Kd.at_int Zd.out x19_2 p411 q411
            cases e411
            replace hx411_0 := (HB.out.cell (World.block_lt_of_cell? w _ hx411_0)).trans hx411_0
            replace p411 := eq_true p411
            replace q411 := eq_true q411
            have hcz23_0 : wr.cell? ⟨gb405, 0, none⟩ = some (.slice A0_0 l0_0.length c0_0) := (blk_cell Za.out 0).trans rfl
            have hcz23_1 : wr.cell? ⟨gb405, 1, none⟩ = some (.slice A0_1 l0_1.length c0_1) := (blk_cell Za.out 1).trans rfl
            have hcz23_2 : wr.cell? ⟨gb405, 2, none⟩ = some (.slice A0_2 l0_2.length c0_2) := (blk_cell Za.out 2).trans rfl
            have hcz23_3 : wr.cell? ⟨gb405, 3, none⟩ = some (.slice (some ad411) l0_3.length c0_3) := (blk_cell Za.out 3).trans rfl
            have hfz23_0 := blk_frozen Za.out 0
            have hfz23_1 := blk_frozen Za.out 1
            have hfz23_2 := blk_frozen Za.out 2
            have hfz23_3 := blk_frozen Za.out 3
            have p412 : 0 ≤ (x19_2 : Int) := zd
            have q412 : x19_2 < (l0_0.length : Int) := zd
            obtain ⟨ad412, e412, hx412_0⟩ := Kd.at_int Zc.out x19_2 p412 q412
            cases e412
            replace hx412_0 := (HB.out.cell (World.block_lt_of_cell? w _ hx412_0)).trans hx412_0
            replace p412 := eq_true p412
            replace q412 := eq_true q412
            go_wp2
            go_ret
            exact ⟨by first | rfl | (simp [errW_none, errW_some] <;> rfl) | (simp [*, errW_none, errW_some] <;> rfl), zg_2 HB.out Zb.out⟩
          ·rw [if_neg c20] at H
           have c20b0 : ((rd l0_0 x19_2) == 0) = false := beq_eq_false_iff_ne.mpr c20
           have c20b1 : ((rd l0_0 x19_2) != 0) = true := bne_iff_ne.mpr c20
           have H' := zm H
           clear H
           have p411 : 0 ≤ (x19_2 : Int) := zd
           have q411 : x19_2 < (l0_3.length : Int) := zd
           obtain ⟨ad411, e411, hx411_0⟩ := Kd.at_int Zd.out x19_2 p411 q411
           cases e411
           replace hx411_0 := (HB.out.cell (World.block_lt_of_cell? w _ hx411_0)).trans hx411_0
           replace p411 := eq_true p411
           replace q411 := eq_true q411
           have hcz24_0 : wr.cell? ⟨gb405, 0, none⟩ = some (.slice A0_0 l0_0.length c0_0) := (blk_cell Za.out 0).trans rfl
           have hcz24_1 : wr.cell? ⟨gb405, 1, none⟩ = some (.slice A0_1 l0_1.length c0_1) := (blk_cell Za.out 1).trans rfl
           have hcz24_2 : wr.cell? ⟨gb405, 2, none⟩ = some (.slice A0_2 l0_2.length c0_2) := (blk_cell Za.out 2).trans rfl
           have hcz24_3 : wr.cell? ⟨gb405, 3, none⟩ = some (.slice (some ad411) l0_3.length c0_3) := (blk_cell Za.out 3).trans rfl
           have hfz24_0 := blk_frozen Za.out 0
           have hfz24_1 := blk_frozen Za.out 1
           have hfz24_2 := blk_frozen Za.out 2
           have hfz24_3 := blk_frozen Za.out 3
           have p412 : 0 ≤ (x19_2 : Int) := zd
           have q412 : x19_2 < (l0_0.length : Int) := zd
           obtain ⟨ad412, e412, hx412_0⟩ := Kd.at_int Zc.out x19_2 p412 q412
           cases e412
           replace hx412_0 := (HB.out.cell (World.block_lt_of_cell? w _ hx412_0)).trans hx412_0
           replace p412 := eq_true p412
           replace q412 := eq_true q412
           go_wp2
           go_roundg k2
           case measure => have := HJ1.out; have := HK2.out; omega
           case rel => exact ⟨(wrap64 (x19_2 + 1)), zr, H', ⟨by have := HJ1.out; have := HK2.out; omega⟩, ⟨by (with_reducible repeat (first | refine blk_drewN ?_ _ | refine blk_drew ?_ | refine blk_alloc ?_ _)); exact Za.out⟩, ⟨zg_2 HB.out Zb.out⟩⟩
         ·rw [if_neg c19] at H
          exact absurd H (by simp)
        ·rw [if_neg c18] at H
         exact absurd H (by simp)
       ·rw [if_neg c17] at H
        exact absurd H (by simp)
      ·rw [if_neg c16] at H
       have c16b0 : decide (x19_2 < (l0_3.length : Int)) = false := decide_eq_false c16
       clear c16
       obtain rfl := Option.some.inj H
       go_wp2
       go_ret
       exact ⟨by first | rfl | (simp [errW_none, errW_some] <;> rfl) | (simp [*, errW_none, errW_some] <;> rfl), zg_2 HB.out Zb.out⟩

-- NOT PRINTED: function 3 (laws_FnCheck)
section
attribute [local go_sem high] eqA77
/-! ### impl_Image_value: function 90 -/
def impl_Image_value.f (l0_0 : List Int) (l0_1 : List Int) (l0_2 : List (S103)) (l0_3 : List Int) (l1 : List Int) (a2 : Int) : Option (Int) := if 0 ≤ a2 then (if a2 < (l1.length : Int) then (if (rd l1 a2) < 2 then (some 0) else (if 0 ≤ (wrap64 ((rd l1 a2) - 2)) then (if (wrap64 ((rd l1 a2) - 2)) < (l0_3.length : Int) then (some (rd l0_3 (wrap64 ((rd l1 a2) - 2)))) else (none)) else (none))) else (none)) else (none)
set_option maxHeartbeats 8000000 in
set_option maxRecDepth 100000 in
theorem impl_Image_value.calls (A0_0 : Option Addr) (c0_0 : Nat) (l0_0 : List Int) (A0_1 : Option Addr) (c0_1 : Nat) (l0_1 : List Int) (A0_2 : Option Addr) (c0_2 : Nat) (l0_2 : List (S103)) (A0_3 : Option Addr) (c0_3 : Nat) (l0_3 : List Int) (A1 : Option Addr) (c1 : Nat) (l1 : List Int) (a2 : Int) (r : Int) (w : World) (hr0_0 : Kd.C (Kd.int .i64) w A0_0 l0_0.length l0_0) (hc0_0 : l0_0.length ≤ c0_0) (hr0_1 : Kd.C (Kd.int .i64) w A0_1 l0_1.length l0_1) (hc0_1 : l0_1.length ≤ c0_1) (hr0_2 : Kd.C k103 w A0_2 l0_2.length l0_2) (hc0_2 : l0_2.length ≤ c0_2) (hr0_3 : Kd.C (Kd.int .i64) w A0_3 l0_3.length l0_3) (hc0_3 : l0_3.length ≤ c0_3) (hr1 : Kd.C (Kd.int .i64) w A1 l1.length l1) (hc1 : l1.length ≤ c1) (h : impl_Image_value.f l0_0 l0_1 l0_2 l0_3 l1 a2 = some r) :
    Calls Tryz.prog 90 #[.agg #[.slice A0_0 l0_0.length c0_0, .slice A0_1 l0_1.length c0_1, .slice A0_2 l0_2.length c0_2, .slice A0_3 l0_3.length c0_3], .slice A1 l1.length c1, .int .i64 a2] w fun e w' => e = .returned (.int .i64 r) ∧ Below w.heap.size w w' := by
 have hu26 := Tryz.underlying26
 have Ze := zm hr0_0
 have Zf := zm hc0_0
 clear hr0_0 hc0_0
 have Zg := zm hr0_1
 have Zh := zm hc0_1
 clear hr0_1 hc0_1
 have Zi := zm hr0_2
 have Zj := zm hc0_2
 clear hr0_2 hc0_2
 have Zd := zm hr0_3
 have Zk := zm hc0_3
 clear hr0_3 hc0_3
 have HR1 := zm hr1
 have HC1 := zm hc1
 clear hr1 hc1
 have HB := zm (Below.refl w.heap.size w)
 have H : (if 0 ≤ a2 then (if a2 < (l1.length : Int) then (if (rd l1 a2) < 2 then (some 0) else (if 0 ≤ (wrap64 ((rd l1 a2) - 2)) then (if (wrap64 ((rd l1 a2) - 2)) < (l0_3.length : Int) then (some (rd l0_3 (wrap64 ((rd l1 a2) - 2)))) else (none)) else (none))) else (none)) else (none)) = some r := h
 clear h
 by_cases c4 : 0 ≤ a2
 ·rw [if_pos c4] at H
  have c4b0 : decide (0 ≤ a2) = true := decide_eq_true c4
  clear c4
  by_cases c5 : a2 < (l1.length : Int)
  ·rw [if_pos c5] at H
   have c5b0 : decide (a2 < (l1.length : Int)) = true := decide_eq_true c5
   clear c5
   by_cases c6 : (rd l1 a2) < 2
   ·rw [if_pos c6] at H
    have c6b0 : decide ((rd l1 a2) < 2) = true := decide_eq_true c6
    clear c6
    obtain rfl := Option.some.inj H
    go_enter Tryz.func90, Tryz.ntmps90
    go_wp2_with (first | ((with_reducible refine gate_dst (N := 3) rfl ?_); refine box_event ?hg (N := 3) ?hd (cs := #[.slice A0_0 l0_0.length c0_0, .slice A0_1 l0_1.length c0_1, .slice A0_2 l0_2.length c0_2, .slice A0_3 l0_3.length c0_3]) (t := 26) ?hr ?_; (case hd => rfl); (case hg => rfl); (case hr => first | (go_simp; done) | (go_simp; rfl)); intro gb117 hg w7 hbox hb; have n0_ := zm (below_step (zg_1 HB.out) hb); have n1_ := zm (hbox); have n2_ := zm ((by rw [hg]; exact (below_size (zg_1 HB.out)) : w.heap.size ≤ gb117)); have n3_ := zm ((by rw [hg]; exact (below_size (zg_1 HB.out)) : w.heap.size ≤ gb117)); clear HB; have HB := n0_; have Za := n1_; have Zc := n2_; have Zb := n3_; clear n0_ n1_ n2_ n3_; clear hb hbox hg; have p118 : 0 ≤ (a2 : Int) := zd; have q118 : a2 < (l1.length : Int) := zd; obtain ⟨ad118, e118, hx118_0⟩ := Kd.at_int HR1.out a2 p118 q118; cases e118; replace hx118_0 := (HB.out.cell (World.block_lt_of_cell? w _ hx118_0)).trans hx118_0; replace p118 := eq_true p118; replace q118 := eq_true q118))
    repeat (go_quiet (first | ((with_reducible refine gate_dst (N := 3) rfl ?_); refine box_event ?hg (N := 3) ?hd (cs := #[.slice A0_0 l0_0.length c0_0, .slice A0_1 l0_1.length c0_1, .slice A0_2 l0_2.length c0_2, .slice A0_3 l0_3.length c0_3]) (t := 26) ?hr ?_; (case hd => rfl); (case hg => rfl); (case hr => first | (go_simp; done) | (go_simp; rfl)); intro gb117 hg w7 hbox hb; have n0_ := zm (below_step (zg_1 HB.out) hb); have n1_ := zm (hbox); have n2_ := zm ((by rw [hg]; exact (below_size (zg_1 HB.out)) : w.heap.size ≤ gb117)); have n3_ := zm ((by rw [hg]; exact (below_size (zg_1 HB.out)) : w.heap.size ≤ gb117)); clear HB; have HB := n0_; have Za := n1_; have Zc := n2_; have Zb := n3_; clear n0_ n1_ n2_ n3_; clear hb hbox hg; have p118 : 0 ≤ (a2 : Int) := zd; have q118 : a2 < (l1.length : Int) := zd; obtain ⟨ad118, e118, hx118_0⟩ := Kd.at_int HR1.out a2 p118 q118; cases e118; replace hx118_0 := (HB.out.cell (World.block_lt_of_cell? w _ hx118_0)).trans hx118_0; replace p118 := eq_true p118; replace q118 := eq_true q118)); try go_wp2_with (first | ((with_reducible refine gate_dst (N := 3) rfl ?_); refine box_event ?hg (N := 3) ?hd (cs := #[.slice A0_0 l0_0.length c0_0, .slice A0_1 l0_1.length c0_1, .slice A0_2 l0_2.length c0_2, .slice A0_3 l0_3.length c0_3]) (t := 26) ?hr ?_; (case hd => rfl); (case hg => rfl); (case hr => first | (go_simp; done) | (go_simp; rfl)); intro gb117 hg w7 hbox hb; have n0_ := zm (below_step (zg_1 HB.out) hb); have n1_ := zm (hbox); have n2_ := zm ((by rw [hg]; exact (below_size (zg_1 HB.out)) : w.heap.size ≤ gb117)); have n3_ := zm ((by rw [hg]; exact (below_size (zg_1 HB.out)) : w.heap.size ≤ gb117)); clear HB; have HB := n0_; have Za := n1_; have Zc := n2_; have Zb := n3_; clear n0_ n1_ n2_ n3_; clear hb hbox hg; have p118 : 0 ≤ (a2 : Int) := zd; have q118 : a2 < (l1.length : Int) := zd; obtain ⟨ad118, e118, hx118_0⟩ := Kd.at_int HR1.out a2 p118 q118; cases e118; replace hx118_0 := (HB.out.cell (World.block_lt_of_cell? w _ hx118_0)).trans hx118_0; replace p118 := eq_true p118; replace q118 := eq_true q118)))
    go_ret
    exact ⟨by first | rfl | (simp [errW_none, errW_some] <;> rfl) | (simp [*, errW_none, errW_some] <;> rfl), zg_2 HB.out Zb.out⟩
   ·rw [if_neg c6] at H
    have c6b0 : decide ((rd l1 a2) < 2) = false := decide_eq_false c6
    clear c6
    obtain ⟨ji8, hji8⟩ : ∃ j_ : Int, (wrap64 ((rd l1 a2) - 2)) = j_ := ⟨_, rfl⟩
    replace H : (if 0 ≤ (ji8) then (if (ji8) < (l0_3.length : Int) then (some (rd l0_3 (ji8))) else (none)) else (none)) = some r := by first | (rw [hji8] at H; exact H) | (simp only [hji8] at H ⊢; exact H)
    have hji8w : (IntKind.i64.wrap ((rd l1 a2) - 2)) = ji8 := (i64_w _).trans hji8
    by_cases c9 : 0 ≤ (ji8)
    ·rw [if_pos c9] at H
     have c9b0 : decide (0 ≤ (ji8)) = true := decide_eq_true c9
     clear c9
     by_cases c10 : (ji8) < (l0_3.length : Int)
     ·rw [if_pos c10] at H
      have c10b0 : decide ((ji8) < (l0_3.length : Int)) = true := decide_eq_true c10
      clear c10
      obtain rfl := Option.some.inj H
      go_enter Tryz.func90, Tryz.ntmps90
      go_wp2_with (first | ((with_reducible refine gate_dst (N := 3) rfl ?_); refine box_event ?hg (N := 3) ?hd (cs := #[.slice A0_0 l0_0.length c0_0, .slice A0_1 l0_1.length c0_1, .slice A0_2 l0_2.length c0_2, .slice A0_3 l0_3.length c0_3]) (t := 26) ?hr ?_; (case hd => rfl); (case hg => rfl); (case hr => first | (go_simp; done) | (go_simp; rfl)); intro gb117 hg w11 hbox hb; have n0_ := zm (below_step (zg_1 HB.out) hb); have n1_ := zm (hbox); have n2_ := zm ((by rw [hg]; exact (below_size (zg_1 HB.out)) : w.heap.size ≤ gb117)); have n3_ := zm ((by rw [hg]; exact (below_size (zg_1 HB.out)) : w.heap.size ≤ gb117)); clear HB; have HB := n0_; have Za := n1_; have Zc := n2_; have Zb := n3_; clear n0_ n1_ n2_ n3_; clear hb hbox hg; have p118 : 0 ≤ (a2 : Int) := zd; have q118 : a2 < (l1.length : Int) := zd; obtain ⟨ad118, e118, hx118_0⟩ := Kd.at_int HR1.out a2 p118 q118; cases e118; replace hx118_0 := (HB.out.cell (World.block_lt_of_cell? w _ hx118_0)).trans hx118_0; replace p118 := eq_true p118; replace q118 := eq_true q118; have hcz12_0 : w11.cell? ⟨gb117, 0, none⟩ = some (.slice A0_0 l0_0.length c0_0) := (blk_cell Za.out 0).trans rfl; have hcz12_1 : w11.cell? ⟨gb117, 1, none⟩ = some (.slice A0_1 l0_1.length c0_1) := (blk_cell Za.out 1).trans rfl; have hcz12_2 : w11.cell? ⟨gb117, 2, none⟩ = some (.slice A0_2 l0_2.length c0_2) := (blk_cell Za.out 2).trans rfl; have hcz12_3 : w11.cell? ⟨gb117, 3, none⟩ = some (.slice A0_3 l0_3.length c0_3) := (blk_cell Za.out 3).trans rfl; have hfz12_0 := blk_frozen Za.out 0; have hfz12_1 := blk_frozen Za.out 1; have hfz12_2 := blk_frozen Za.out 2; have hfz12_3 := blk_frozen Za.out 3; have p119 : 0 ≤ (a2 : Int) := zd; have q119 : a2 < (l1.length : Int) := zd; obtain ⟨ad119, e119, hx119_0⟩ := Kd.at_int HR1.out a2 p119 q119; obtain rfl : ad118 = ad119 := (by injection e119); replace hx119_0 := (HB.out.cell (World.block_lt_of_cell? w _ hx119_0)).trans hx119_0; replace p119 := eq_true p119; replace q119 := eq_true q119; have p120 : 0 ≤ ((ji8) : Int) := zd; have q120 : (ji8) < (l0_3.length : Int) := zd; obtain ⟨ad120, e120, hx120_0⟩ := Kd.at_int Zd.out (ji8) p120 q120; cases e120; replace hx120_0 := (HB.out.cell (World.block_lt_of_cell? w _ hx120_0)).trans hx120_0; replace p120 := eq_true p120; replace q120 := eq_true q120))
      repeat (go_quiet (first | ((with_reducible refine gate_dst (N := 3) rfl ?_); refine box_event ?hg (N := 3) ?hd (cs := #[.slice A0_0 l0_0.length c0_0, .slice A0_1 l0_1.length c0_1, .slice A0_2 l0_2.length c0_2, .slice A0_3 l0_3.length c0_3]) (t := 26) ?hr ?_; (case hd => rfl); (case hg => rfl); (case hr => first | (go_simp; done) | (go_simp; rfl)); intro gb117 hg w11 hbox hb; have n0_ := zm (below_step (zg_1 HB.out) hb); have n1_ := zm (hbox); have n2_ := zm ((by rw [hg]; exact (below_size (zg_1 HB.out)) : w.heap.size ≤ gb117)); have n3_ := zm ((by rw [hg]; exact (below_size (zg_1 HB.out)) : w.heap.size ≤ gb117)); clear HB; have HB := n0_; have Za := n1_; have Zc := n2_; have Zb := n3_; clear n0_ n1_ n2_ n3_; clear hb hbox hg; have p118 : 0 ≤ (a2 : Int) := zd; have q118 : a2 < (l1.length : Int) := zd; obtain ⟨ad118, e118, hx118_0⟩ := Kd.at_int HR1.out a2 p118 q118; cases e118; replace hx118_0 := (HB.out.cell (World.block_lt_of_cell? w _ hx118_0)).trans hx118_0; replace p118 := eq_true p118; replace q118 := eq_true q118; have hcz12_0 : w11.cell? ⟨gb117, 0, none⟩ = some (.slice A0_0 l0_0.length c0_0) := (blk_cell Za.out 0).trans rfl; have hcz12_1 : w11.cell? ⟨gb117, 1, none⟩ = some (.slice A0_1 l0_1.length c0_1) := (blk_cell Za.out 1).trans rfl; have hcz12_2 : w11.cell? ⟨gb117, 2, none⟩ = some (.slice A0_2 l0_2.length c0_2) := (blk_cell Za.out 2).trans rfl; have hcz12_3 : w11.cell? ⟨gb117, 3, none⟩ = some (.slice A0_3 l0_3.length c0_3) := (blk_cell Za.out 3).trans rfl; have hfz12_0 := blk_frozen Za.out 0; have hfz12_1 := blk_frozen Za.out 1; have hfz12_2 := blk_frozen Za.out 2; have hfz12_3 := blk_frozen Za.out 3; have p119 : 0 ≤ (a2 : Int) := zd; have q119 : a2 < (l1.length : Int) := zd; obtain ⟨ad119, e119, hx119_0⟩ := Kd.at_int HR1.out a2 p119 q119; obtain rfl : ad118 = ad119 := (by injection e119); replace hx119_0 := (HB.out.cell (World.block_lt_of_cell? w _ hx119_0)).trans hx119_0; replace p119 := eq_true p119; replace q119 := eq_true q119; have p120 : 0 ≤ ((ji8) : Int) := zd; have q120 : (ji8) < (l0_3.length : Int) := zd; obtain ⟨ad120, e120, hx120_0⟩ := Kd.at_int Zd.out (ji8) p120 q120; cases e120; replace hx120_0 := (HB.out.cell (World.block_lt_of_cell? w _ hx120_0)).trans hx120_0; replace p120 := eq_true p120; replace q120 := eq_true q120)); try go_wp2_with (first | ((with_reducible refine gate_dst (N := 3) rfl ?_); refine box_event ?hg (N := 3) ?hd (cs := #[.slice A0_0 l0_0.length c0_0, .slice A0_1 l0_1.length c0_1, .slice A0_2 l0_2.length c0_2, .slice A0_3 l0_3.length c0_3]) (t := 26) ?hr ?_; (case hd => rfl); (case hg => rfl); (case hr => first | (go_simp; done) | (go_simp; rfl)); intro gb117 hg w11 hbox hb; have n0_ := zm (below_step (zg_1 HB.out) hb); have n1_ := zm (hbox); have n2_ := zm ((by rw [hg]; exact (below_size (zg_1 HB.out)) : w.heap.size ≤ gb117)); have n3_ := zm ((by rw [hg]; exact (below_size (zg_1 HB.out)) : w.heap.size ≤ gb117)); clear HB; have HB := n0_; have Za := n1_; have Zc := n2_; have Zb := n3_; clear n0_ n1_ n2_ n3_; clear hb hbox hg; have p118 : 0 ≤ (a2 : Int) := zd; have q118 : a2 < (l1.length : Int) := zd; obtain ⟨ad118, e118, hx118_0⟩ := Kd.at_int HR1.out a2 p118 q118; cases e118; replace hx118_0 := (HB.out.cell (World.block_lt_of_cell? w _ hx118_0)).trans hx118_0; replace p118 := eq_true p118; replace q118 := eq_true q118; have hcz12_0 : w11.cell? ⟨gb117, 0, none⟩ = some (.slice A0_0 l0_0.length c0_0) := (blk_cell Za.out 0).trans rfl; have hcz12_1 : w11.cell? ⟨gb117, 1, none⟩ = some (.slice A0_1 l0_1.length c0_1) := (blk_cell Za.out 1).trans rfl; have hcz12_2 : w11.cell? ⟨gb117, 2, none⟩ = some (.slice A0_2 l0_2.length c0_2) := (blk_cell Za.out 2).trans rfl; have hcz12_3 : w11.cell? ⟨gb117, 3, none⟩ = some (.slice A0_3 l0_3.length c0_3) := (blk_cell Za.out 3).trans rfl; have hfz12_0 := blk_frozen Za.out 0; have hfz12_1 := blk_frozen Za.out 1; have hfz12_2 := blk_frozen Za.out 2; have hfz12_3 := blk_frozen Za.out 3; have p119 : 0 ≤ (a2 : Int) := zd; have q119 : a2 < (l1.length : Int) := zd; obtain ⟨ad119, e119, hx119_0⟩ := Kd.at_int HR1.out a2 p119 q119; obtain rfl : ad118 = ad119 := (by injection e119); replace hx119_0 := (HB.out.cell (World.block_lt_of_cell? w _ hx119_0)).trans hx119_0; replace p119 := eq_true p119; replace q119 := eq_true q119; have p120 : 0 ≤ ((ji8) : Int) := zd; have q120 : (ji8) < (l0_3.length : Int) := zd; obtain ⟨ad120, e120, hx120_0⟩ := Kd.at_int Zd.out (ji8) p120 q120; cases e120; replace hx120_0 := (HB.out.cell (World.block_lt_of_cell? w _ hx120_0)).trans hx120_0; replace p120 := eq_true p120; replace q120 := eq_true q120)))
      go_ret
      exact ⟨by first | rfl | (simp [errW_none, errW_some] <;> rfl) | (simp only [← hji8]; first | rfl | (simp [errW_none, errW_some] <;> rfl)) | (simp [*, errW_none, errW_some] <;> rfl), zg_2 HB.out Zb.out⟩
     ·rw [if_neg c10] at H
      exact absurd H (by simp)
    ·rw [if_neg c9] at H
     exact absurd H (by simp)
  ·rw [if_neg c5] at H
   exact absurd H (by simp)
 ·rw [if_neg c4] at H
  exact absurd H (by simp)
end
section
attribute [local go_sem high] eqA77
/-! ### impl_Image_shown_1: function 89 -/
def impl_Image_shown_1.l0 : Nat → List Int → List Int → Int → Int → List Int → List Int → List (S103) → List Int → Option (List Int)
  | 0, _, _, _, _, _, _, _, _ => none
  | k + 1, x0, x4, x8, x9, x122000, x122001, x122002, x122003 => if x9 < x8 then ((impl_Image_value.f x122000 x122001 x122002 x122003 x0 x9).bind fun t125 => (if x4.length < 17592186044416 then (impl_Image_shown_1.l0 k x0 (x4 ++ [t125]) x8 (wrap64 (x9 + 1)) x122000 x122001 x122002 x122003) else (none))) else (some x4)
def impl_Image_shown_1.f (k : Nat) (l0 : List Int) (l1_0 : List Int) (l1_1 : List Int) (l1_2 : List (S103)) (l1_3 : List Int) : Option (List Int) := impl_Image_shown_1.l0 k l0 (([] : List Int)) (l0.length : Int) 0 l1_0 l1_1 l1_2 l1_3
theorem impl_Image_shown_1.mono_l : ∀ k, (∀ y0 y1 y2 y3 y4 y5 y6 y7, LeO (impl_Image_shown_1.l0 k y0 y1 y2 y3 y4 y5 y6 y7) (impl_Image_shown_1.l0 (k + 1) y0 y1 y2 y3 y4 y5 y6 y7))
  | 0 => fun _ _ _ _ _ _ _ _ r h => by simp [impl_Image_shown_1.l0] at h
  | k + 1 => by
    have ih0 := impl_Image_shown_1.mono_l k
    · intro y0 y1 y2 y3 y4 y5 y6 y7
      unfold impl_Image_shown_1.l0
      repeat' first
      | (with_reducible exact ih0 _ _ _ _ _ _ _ _)
      | (with_reducible exact LeO.refl _)
      | (with_reducible exact LeO.none _)
      | (with_reducible refine LeO.ite ?_ ?_)
      | (with_reducible refine LeO.bind ?_ (fun _ => ?_))
      | exact ih0 _ _ _ _ _ _ _ _
      | exact LeO.none _
      | refine LeO.ite ?_ ?_
      | refine LeO.bind ?_ (fun _ => ?_)
theorem impl_Image_shown_1.mono : ∀ a0 a1 a2 a3 a4 k, LeO (impl_Image_shown_1.f k a0 a1 a2 a3 a4) (impl_Image_shown_1.f (k + 1) a0 a1 a2 a3 a4) := by
  intro a0 a1 a2 a3 a4 k
  have ih0 := impl_Image_shown_1.mono_l k
  unfold impl_Image_shown_1.f
  repeat' first
      | (with_reducible exact ih0 _ _ _ _ _ _ _ _)
      | (with_reducible exact LeO.refl _)
      | (with_reducible exact LeO.none _)
      | (with_reducible refine LeO.ite ?_ ?_)
      | (with_reducible refine LeO.bind ?_ (fun _ => ?_))
      | exact ih0 _ _ _ _ _ _ _ _
      | exact LeO.none _
      | refine LeO.ite ?_ ?_
      | refine LeO.bind ?_ (fun _ => ?_)
set_option maxHeartbeats 8000000 in
set_option maxRecDepth 100000 in
theorem impl_Image_shown_1.calls (k : Nat) (A0 : Option Addr) (c0 : Nat) (l0 : List Int) (A1_0 : Option Addr) (c1_0 : Nat) (l1_0 : List Int) (A1_1 : Option Addr) (c1_1 : Nat) (l1_1 : List Int) (A1_2 : Option Addr) (c1_2 : Nat) (l1_2 : List (S103)) (A1_3 : Option Addr) (c1_3 : Nat) (l1_3 : List Int) (r : List Int) (w : World) (hr0 : Kd.C (Kd.int .i64) w A0 l0.length l0) (hc0 : l0.length ≤ c0) (hr1_0 : Kd.C (Kd.int .i64) w A1_0 l1_0.length l1_0) (hc1_0 : l1_0.length ≤ c1_0) (hr1_1 : Kd.C (Kd.int .i64) w A1_1 l1_1.length l1_1) (hc1_1 : l1_1.length ≤ c1_1) (hr1_2 : Kd.C k103 w A1_2 l1_2.length l1_2) (hc1_2 : l1_2.length ≤ c1_2) (hr1_3 : Kd.C (Kd.int .i64) w A1_3 l1_3.length l1_3) (hc1_3 : l1_3.length ≤ c1_3) {gb121 : Nat} (hM_ : w.heap[gb121]? = some (.cells #[.slice A1_0 l1_0.length c1_0, .slice A1_1 l1_1.length c1_1, .slice A1_2 l1_2.length c1_2, .slice A1_3 l1_3.length c1_3] 26 (0, 0))) (h : impl_Image_shown_1.f k l0 l1_0 l1_1 l1_2 l1_3 = some r) :
    Calls Tryz.prog 89 #[.slice A0 l0.length c0, .pointer (some ⟨gb121, 0, none⟩)] w fun e w' => ∃ v0_ : Value, e = .returned (v0_) ∧ Kd.R (Kd.int .i64) 3 w' w.heap.size (fun _ => True) v0_ r ∧ Below w.heap.size w w' := by
 have hu26 := Tryz.underlying26
 have HR0 := zm hr0
 have HC0 := zm hc0
 clear hr0 hc0
 have Zc := zm hr1_0
 have Zd := zm hc1_0
 clear hr1_0 hc1_0
 have Ze := zm hr1_1
 have Zf := zm hc1_1
 clear hr1_1 hc1_1
 have Zg := zm hr1_2
 have Zh := zm hc1_2
 clear hr1_2 hc1_2
 have Zi := zm hr1_3
 have Zj := zm hc1_3
 clear hr1_3 hc1_3
 have Za := zm hM_
 clear hM_
 have HB := zm (Below.refl w.heap.size w)
 have H : (impl_Image_shown_1.l0 k l0 (([] : List Int)) (l0.length : Int) 0 l1_0 l1_1 l1_2 l1_3) = some r := h
 clear h
 obtain ⟨y122, hy122⟩ : ∃ y_ : List Int, y_ = (([] : List Int)) := ⟨_, rfl⟩
 replace H : (impl_Image_shown_1.l0 k l0 y122 (l0.length : Int) 0 l1_0 l1_1 l1_2 l1_3) = some r := by first | (rw [hy122]; with_reducible exact H) | (have H2_ := (Option.bind_some _ _).symm.trans H; rw [hy122]; with_reducible exact H2_) | (have H2_ := (Option.bind_some _ _).symm.trans H; with_reducible exact H2_) | with_reducible exact H | (rw [hy122]; exact H) | exact H
 have Ny122 := zm hy122
 clear hy122
 have H' := zm H
 clear H
 go_enter Tryz.func89, Tryz.ntmps89
 go_wp2_with (first | ((with_reducible refine gate_dst (N := 6) rfl ?_); refine Kd.R_lit (Kd.int .i64) _ 3 ?hg (N := 6) ?hd (xs := ([] : List Int)) (inner := []) (ok := fun _ => True) (okp := fun _ => True) ?hr ?hp (fun _ hk => hk) trivial (Below.refl _ _) (Nat.le_refl _) (by simp) ?_; (case hd => rfl); (case hg => rfl); (case hr => first | (go_simp; done) | (go_simp; rfl)); (case hp => exact (Reps.none _ _)); intro v123 w4 ho5 hb hg_ hnew_; clear hg_ hnew_; (first | rw [← Ny122.out] at ho5 | (simp only [Int.reduceToNat] at ho5; rw [← Ny122.out] at ho5)); have n0_ := zm (Kd.R_lower ho5 (below_size (zg_1 HB.out))); have n1_ := zm (blk_below (g := gb121) (o := .cells #[.slice A1_0 l1_0.length c1_0, .slice A1_1 l1_1.length c1_1, .slice A1_2 l1_2.length c1_2, .slice A1_3 l1_3.length c1_3] 26 (0, 0)) (zg_3 Za.out) hb); have n2_ := zm (below_step (zg_1 HB.out) hb); clear Za; clear HB; have Zk := n0_; have Za := n1_; have HB := n2_; clear n0_ n1_ n2_; clear hb ho5))
 go_loopg [4, 9] k (fun kq v4 v9 w' => ∃ (x4_1 : List Int) (x9_1 : Int), v9 = .int .i64 x9_1 ∧ Aside0 (impl_Image_shown_1.l0 kq l0 x4_1 (l0.length : Int) x9_1 l1_0 l1_1 l1_2 l1_3 = some r) ∧ Aside0 (kq ≤ k) ∧ Aside0 (Kd.R (Kd.int .i64) 3 w' w.heap.size (fun _ => True) v4 x4_1) ∧ Aside0 (w'.heap[gb121]? = some (.cells #[(.slice A1_0 l1_0.length c1_0), (.slice A1_1 l1_1.length c1_1), (.slice A1_2 l1_2.length c1_2), (.slice A1_3 l1_3.length c1_3)] 26 (0, 0))) ∧ Aside0 (Below w.heap.size w w'))
 case atStart => exact ⟨(y122), (0), zr, H', ⟨Nat.le_refl _⟩, ⟨by (with_reducible repeat (first | apply Kd.R_alloc | apply Kd.R_drewN | apply Kd.R_drew)); exact Zk.out⟩, ⟨by (with_reducible repeat (first | refine blk_drewN ?_ _ | refine blk_drew ?_ | refine blk_alloc ?_ _)); exact Za.out⟩, ⟨zg_1 HB.out⟩⟩
 case round =>
  clear H'
  try clear c1
  try clear p2
  obtain ⟨x4_1, x9_1, rfl, HA, HK1, Zb, Za, HB⟩ := hrel
  cases gk with
  | zero => exact absurd HA.out (by simp [impl_Image_shown_1.l0])
  | succ k1 =>
   have H := HA.out
   clear HA
   simp only [impl_Image_shown_1.l0] at H
   by_cases c6 : x9_1 < (l0.length : Int)
   ·rw [if_pos c6] at H
    have c6b0 : decide (x9_1 < (l0.length : Int)) = true := decide_eq_true c6
    clear c6
    replace H := Option.bind_eq_some_iff.mp H
    obtain ⟨t125, A70, H⟩ := H
    replace H : (if x4_1.length < 17592186044416 then (impl_Image_shown_1.l0 k1 l0 (x4_1 ++ [t125]) (l0.length : Int) (wrap64 (x9_1 + 1)) l1_0 l1_1 l1_2 l1_3) else (none)) = some r := H
    have A7 := zm A70
    clear A70
    by_cases c8 : x4_1.length < 17592186044416
    ·rw [if_pos c8] at H
     have LMc8 := zm c8
     clear c8
     obtain ⟨y126, hy126⟩ : ∃ y_ : List Int, y_ = (x4_1 ++ [t125]) := ⟨_, rfl⟩
     replace H : (impl_Image_shown_1.l0 k1 l0 y126 (l0.length : Int) (wrap64 (x9_1 + 1)) l1_0 l1_1 l1_2 l1_3) = some r := by first | (rw [hy126]; with_reducible exact H) | (have H2_ := (Option.bind_some _ _).symm.trans H; rw [hy126]; with_reducible exact H2_) | (have H2_ := (Option.bind_some _ _).symm.trans H; with_reducible exact H2_) | with_reducible exact H | (rw [hy126]; exact H) | exact H
     have Ny126 := zm hy126
     clear hy126
     have H' := zm H
     clear H
     have hcz9_0 : wr.cell? ⟨gb121, 0, none⟩ = some (.slice A1_0 l1_0.length c1_0) := (blk_cell Za.out 0).trans rfl
     have hcz9_1 : wr.cell? ⟨gb121, 1, none⟩ = some (.slice A1_1 l1_1.length c1_1) := (blk_cell Za.out 1).trans rfl
     have hcz9_2 : wr.cell? ⟨gb121, 2, none⟩ = some (.slice A1_2 l1_2.length c1_2) := (blk_cell Za.out 2).trans rfl
     have hcz9_3 : wr.cell? ⟨gb121, 3, none⟩ = some (.slice A1_3 l1_3.length c1_3) := (blk_cell Za.out 3).trans rfl
     have hfz9_0 := blk_frozen Za.out 0
     have hfz9_1 := blk_frozen Za.out 1
     have hfz9_2 := blk_frozen Za.out 2
     have hfz9_3 := blk_frozen Za.out 3
     go_wp2_with (first | ((with_reducible refine gate_callee (f := 90) rfl ?_); refine goesL_ (some 16) rfl rfl Tryz.func90 (by kernel_rfl) rfl #[.agg #[.slice A1_0 l1_0.length c1_0, .slice A1_1 l1_1.length c1_1, .slice A1_2 l1_2.length c1_2, .slice A1_3 l1_3.length c1_3], .slice A0 l0.length c0, .int .i64 x9_1] rfl zq ?_; (with_reducible refine (impl_Image_value.calls _ _ l1_0 _ _ l1_1 _ _ l1_2 _ _ l1_3 _ _ l0 x9_1 t125 _ ?side1 ?side2 ?side3 ?side4 ?side5 ?side6 ?side7 ?side8 ?side9 ?side10 A7.out).mono ?_); (case side1 => exact zC (Kd.C_below Zc.out HB.out)); (case side2 => exact Zd.out); (case side3 => exact zC (Kd.C_below Ze.out HB.out)); (case side4 => exact Zf.out); (case side5 => exact zC (Kd.C_below Zg.out HB.out)); (case side6 => exact Zh.out); (case side7 => exact zC (Kd.C_below Zi.out HB.out)); (case side8 => exact Zj.out); (case side9 => exact zC (Kd.C_below HR0.out HB.out)); (case side10 => exact HC0.out); rintro e w10 ⟨rfl, hb⟩; refine ⟨_, rfl, ?_⟩; have n0_ := zm (Kd.R_below (zg_6 Zb.out) hb); have n1_ := zm (blk_below (g := gb121) (o := .cells #[.slice A1_0 l1_0.length c1_0, .slice A1_1 l1_1.length c1_1, .slice A1_2 l1_2.length c1_2, .slice A1_3 l1_3.length c1_3] 26 (0, 0)) (zg_3 Za.out) hb); have n2_ := zm (below_step (zg_1 HB.out) hb); clear Zb; clear Za; clear HB; have Zb := n0_; have Za := n1_; have HB := n2_; clear n0_ n1_ n2_; (try clear hb); (try clear hb2); (try clear hk); (try clear hi)) | ((with_reducible refine gate_builtin (b := .append) (xs := #[.tmp 12, .tmp 17]) rfl ?_); at_builtin; refine Kd.R_append (Kd.int .i64) (w0 := w) w.heap.size rfl (.tmp 12) (.tmp 17) 23 3 (.int .i64 0) 8 rfl Tryz.underlying23 info3 rfl (by decide) (by omega) u4 x4_1 t125 [.int .i64 t125] (fun _ => True) (fun _ => False) rfl rfl ?aP (fun _ hk => hk.elim) ?aF ?aO ?aB ?aS ?aL ?_; (case aP => exact rfl); (case aB => exact (zg_1 HB.out)); (case aF => exact (fun _ _ => trivial)); (case aO => exact (zg_6 Zb.out)); (case aS => exact (below_size (zg_1 HB.out))); (case aL => have := LMc8.out; omega); intro v127 w11 ho hb hg hat; rw [← Ny126.out] at ho; have n0_ := zm (blk_grown (g := gb121) (o := .cells #[.slice A1_0 l1_0.length c1_0, .slice A1_1 l1_1.length c1_1, .slice A1_2 l1_2.length c1_2, .slice A1_3 l1_3.length c1_3] 26 (0, 0)) (zg_3 Za.out) hg (Kd.R_ne Zb.out Za.out (by decide))); have n1_ := zm (hb); have n2_ := zm (ho); clear Za; clear HB; clear Zb; have Za := n0_; have HB := n1_; have Zl := n2_; clear n0_ n1_ n2_; clear ho hb hg hat))
     go_roundg k1
     case measure => have := HK1.out; omega
     case rel => exact ⟨(y126), (wrap64 (x9_1 + 1)), zr, H', ⟨by have := HK1.out; omega⟩, ⟨by (with_reducible repeat (first | apply Kd.R_alloc | apply Kd.R_drewN | apply Kd.R_drew)); exact Zl.out⟩, ⟨by (with_reducible repeat (first | refine blk_drewN ?_ _ | refine blk_drew ?_ | refine blk_alloc ?_ _)); exact Za.out⟩, ⟨zg_1 HB.out⟩⟩
    ·rw [if_neg c8] at H
     exact absurd H (by simp)
   ·rw [if_neg c6] at H
    have c6b0 : decide (x9_1 < (l0.length : Int)) = false := decide_eq_false c6
    clear c6
    obtain rfl := Option.some.inj H
    go_wp2
    go_ret
    exact ⟨_, by first | rfl | (simp [errW_none, errW_some] <;> rfl) | (simp [*, errW_none, errW_some] <;> rfl), by (with_reducible repeat (first | apply Kd.R_alloc | apply Kd.R_drewN | apply Kd.R_drew)); exact Zb.out, zg_1 HB.out⟩
end
end Go.Proofs.YtglcnnmobkocmaaGreat.Q
