/- What laws.FnExactDiffUpdates reaches, part 2: the functions as Lean functions, the proofs that the program's functions answer so, and plain laws about them. -/
import Derived.Test.YtglcnnmobkocmaaGreatKFnExactDiffUpdates1
namespace Go.Proofs.YtglcnnmobkocmaaGreat.Q
open Go.RowKit Go.Proofs.YtglcnnmobkocmaaGreat.Ext Go.Proofs.YtglcnnmobkocmaaGreatW.PrintWords Go.Proofs.YtglcnnmobkocmaaGreatW.PrintLast Go.Proofs.YtglcnnmobkocmaaGreatW.PrintMore
attribute [local go_sem] max2_int min2_int max_two min_two max_three min_three max_four min_four   -- for this text's walks alone
set_option linter.unusedVariables false
set_option linter.unusedSimpArgs false

set_option linter.unusedVariables false
set_option linter.unusedSimpArgs false
theorem impl_areNames_reps {l : List ByteArray} {inner : List Value} {w : World} {base : Nat} {ok : Nat → Prop} (h : Reps (Kd.M Kd.string w base ok) 1 l inner) : inner = l.map Value.string := by
  obtain ⟨h1, h2⟩ := h
  refine List.ext_getElem (by rw [h1, List.length_map, Nat.mul_one]) (fun j hj hj' => ?_)
  have hl : j < l.length := by rw [List.length_map] at hj'; exact hj'
  have h3 : ((inner.drop (j * 1)).take 1) = [.string l[j]] := h2 j l[j] (List.getElem?_eq_getElem hl)
  rw [Nat.mul_one, List.drop_eq_getElem_cons hj, List.take_succ_cons, List.take_zero] at h3
  rw [List.getElem_map]
  injection h3
theorem impl_areNames_own {w : World} {base : Nat} {ok : Nat → Prop} {v : Value} {l : List ByteArray} (h : Kd.R Kd.string 9 w base ok v l) : w.ownsRow base 9 1 v l.length ((l.map (·.data.toList)).map encStr) := by
  rw [Lib.map_encStr]
  obtain ⟨_, inner, ho, hr⟩ := h
  have := impl_areNames_reps hr
  subst this; exact ho
theorem impl_areNames_held {w w' : World} {g : Nat} {d : Array (List UInt8)} (h : Sort.Holds encStr w g 0 d) (hb : Below w.heap.size w w') (hg : g < w.heap.size) : Sort.Holds encStr w' g 0 d := fun j hj => by
  obtain ⟨h1, h2⟩ := h j hj
  refine ⟨pw_cell_below hb h1, ?_⟩
  have := hb.block g hg
  unfold World.frozen? at h2 ⊢
  simpa [this] using h2
def impl_areNames_sorted (l : List ByteArray) : List (List UInt8) := (l.map (·.data.toList)).mergeSort (fun x y => decide (x ≤ y))
def impl_areNames.f (k : Nat) (l0 : List ByteArray) : Option Bool := if l0.length < 8796093022208 then (if (l0.length : Int) ≤ 3 then ((all115_impl_snapNameOK.f k l0 ()).bind fun t => if t = true then some (((Lib.compact (impl_areNames_sorted l0)).length : Int) == (l0.length : Int)) else some false) else some false) else none
theorem impl_areNames.mono : ∀ a0 k, LeO (impl_areNames.f k a0) (impl_areNames.f (k + 1) a0) := fun l k => LeO.ite (LeO.ite (LeO.bind (all115_impl_snapNameOK.mono l () k) fun t => LeO.refl _) (LeO.refl _)) (LeO.refl _)
set_option maxHeartbeats 4000000 in
set_option maxRecDepth 100000 in
theorem impl_areNames.calls (k : Nat) (A0 : Option Addr) (c0 : Nat) (l0 : List ByteArray) (r : Bool) (w : World) (hr0 : Kd.C Kd.string w A0 l0.length l0) (hc0 : l0.length ≤ c0) (h : impl_areNames.f k l0 = some r) :
    Calls Tryz.prog 73 #[.slice A0 l0.length c0] w fun e w' => e = .returned (.bool r) ∧ Below w.heap.size w w' := by
 unfold impl_areNames.f at h
 have hlim : l0.length < 8796093022208 := by
  by_cases c : l0.length < 8796093022208
  ·exact c
  ·rw [if_neg c] at h; cases h
 rw [if_pos hlim] at h
 have hclone : slices_Clone_string_string.f l0 = some l0 := by unfold slices_Clone_string_string.f; exact if_pos hlim
 have key : ∀ (w1 : World) (v1 : Value), Below w.heap.size w w1 → Kd.R Kd.string 9 w1 w.heap.size (fun _ => True) v1 l0 →
  ∃ A1 c1, v1 = .slice A1 l0.length c1 ∧ Calls Tryz.prog 114 #[.slice A1 l0.length c1] w1 (fun e w2 => e = .returned (.tuple #[]) ∧ Below w.heap.size w w2 ∧ ∀ w3, Below w2.heap.size w2 w3 → Calls Tryz.prog 117 #[.slice A1 l0.length c1] w3 (fun e w' => ∃ A2 c2, e = .returned (.slice A2 (Lib.compact (impl_areNames_sorted l0)).length c2) ∧ Below w.heap.size w w')) := by
  intro w1 v1 hb1 hR
  have hown := impl_areNames_own hR
  obtain ⟨A1, c1, e1⟩ := Kd.R_slice hR
  by_cases hn : l0 = []
  ·subst hn
   refine ⟨A1, c1, e1, (calls_of_every_depth fun D => AnyS.slices_Sort_string_none_alone Tryz.laysSort D A1 c1 w1).mono ?_⟩
   rintro e w' ⟨rfl, rfl⟩
   refine ⟨rfl, hb1, fun w3 hb3 => (calls_of_every_depth fun D => AnyS.slices_Compact_string_empty_in Tryz.laysCompact D A1 c1 w3).mono ?_⟩
   rintro e w' ⟨rfl, rfl⟩
   exact ⟨A1, c1, by simp [impl_areNames_sorted, Lib.compact, Lib.compactUpTo], below_step hb1 hb3⟩
  ·have hpos : 0 < l0.length := List.length_pos_iff.2 hn
   have hnn : v1 ≠ .slice none 0 0 := by rw [e1]; intro e; injection e with _ e2 _; omega
   obtain ⟨g, cap, e2, hbg, hgl, hncap, hcm, hlen, hH⟩ := Lib.holds_of_ownsRow hown hnn
   rw [e2] at e1
   injection e1 with e3 _ e4
   subst e3 e4 e2
   have hl2 : (impl_areNames_sorted l0).length = l0.length := by unfold impl_areNames_sorted; rw [List.length_mergeSort, List.length_map]
   have hsort := calls_of_every_depth fun D => AnyS.slices_Sort_string_alone Tryz.laysSort D g 0 cap (l0.map (·.data.toList)) w1 hH hgl (by rw [hlen]; omega)
   rw [hlen] at hsort
   refine ⟨_, _, rfl, hsort.mono ?_⟩
   rintro e w2 ⟨rfl, nn, os, rfl⟩
   refine ⟨rfl, hb1.grown (grownBy_sorted _) hb1.size (fun j hj => by cases hj; exact hbg), fun w3 hb3 => ?_⟩
   have hsz : g < (Sort.grow (Sort.putRow encStr (Sort.ahead w1 nn) g 0 (impl_areNames_sorted l0).toArray) os).heap.size := Nat.lt_of_lt_of_le hgl (grownBy_sorted (n := nn) (os := os) _).size
   have hH2 : Sort.Holds encStr (Sort.grow (Sort.putRow encStr (Sort.ahead w1 nn) g 0 (impl_areNames_sorted l0).toArray) os) g 0 (impl_areNames_sorted l0).toArray :=
    Sort.holds_grow encStr _ os g 0 _ (by simpa [Sort.putRow, Sort.mapBlock, Sort.ahead] using hgl) (Sort.holds_putRow encStr _ g 0 _ _ (Sort.holds_ahead encStr w1 nn g 0 _ hH) (by simp [impl_areNames_sorted]))
   have hH3 := impl_areNames_held hH2 hb3 hsz
   have hcomp := calls_of_every_depth fun D => AnyS.slices_Compact_string_in Tryz.laysCompact D g 0 cap (impl_areNames_sorted l0) w3 hH3 (by rw [hl2]; omega) (by rw [hl2]; exact hncap)
   rw [hl2] at hcomp
   refine hcomp.mono ?_
   rintro e w4 ⟨rfl, q, rfl⟩
   exact ⟨_, _, rfl, Lib.below_putRow (below_step (hb1.grown (grownBy_sorted _) hb1.size (fun j hj => by cases hj; exact hbg)) hb3) hbg⟩
 have HR0 := zm hr0; have HC0 := zm hc0; have HCL := zm hclone; have KEY := zm key; clear key hclone hr0 hc0
 by_cases c3 : (l0.length : Int) ≤ 3
 ·rw [if_pos c3] at h
  obtain ⟨t, ht, h⟩ := Option.bind_eq_some_iff.mp h
  have hd : decide ((l0.length : Int) ≤ 3) = true := decide_eq_true c3
  have HT := zm ht; clear ht
  cases t
  ·cases h
   go_enter Tryz.func73, Tryz.ntmps73
   go_wp2_with (first
    | (go_at_call 113; refine (slices_Clone_string_string.calls A0 c0 l0 l0 w HR0.out HC0.out HCL.out).mono ?_; rintro e w1 ⟨v1, rfl, hR, hB1⟩; obtain ⟨A1, c1, rfl, hS⟩ := KEY.out w1 v1 hB1 hR; have HS := zm hS; clear hS hR hB1)
    | (go_at_call 114; refine HS.out.mono ?_; rintro e w2 ⟨rfl, hB2, hC⟩; have HB2 := zm hB2; have HC := zm hC; clear hB2 hC)
    | (go_at_call 115; refine (all115_impl_snapNameOK.calls k A0 c0 l0 () false w2 (Kd.C_below HR0.out HB2.out) HC0.out HT.out).mono ?_; rintro e w3 ⟨rfl, hB3⟩; have HB3 := zm hB3; clear hB3))
   go_ret
   exact ⟨rfl, below_step HB2.out HB3.out⟩
  ·cases h
   go_enter Tryz.func73, Tryz.ntmps73
   go_wp2_with (first
    | (go_at_call 113; refine (slices_Clone_string_string.calls A0 c0 l0 l0 w HR0.out HC0.out HCL.out).mono ?_; rintro e w1 ⟨v1, rfl, hR, hB1⟩; obtain ⟨A1, c1, rfl, hS⟩ := KEY.out w1 v1 hB1 hR; have HS := zm hS; clear hS hR hB1)
    | (go_at_call 114; refine HS.out.mono ?_; rintro e w2 ⟨rfl, hB2, hC⟩; have HB2 := zm hB2; have HC := zm hC; clear hB2 hC)
    | (go_at_call 115; refine (all115_impl_snapNameOK.calls k A0 c0 l0 () true w2 (Kd.C_below HR0.out HB2.out) HC0.out HT.out).mono ?_; rintro e w3 ⟨rfl, hB3⟩; have HB3 := zm hB3; clear hB3)
    | (go_at_call 117; refine (HC.out w3 HB3.out).mono ?_; rintro e w4 ⟨A2, c2, rfl, hB4⟩; have HB4 := zm hB4; clear hB4))
   go_ret
   exact ⟨rfl, HB4.out⟩
 ·rw [if_neg c3] at h
  cases h
  have hd : decide ((l0.length : Int) ≤ 3) = false := decide_eq_false c3
  go_enter Tryz.func73, Tryz.ntmps73
  go_wp2_with (first
   | (go_at_call 113; refine (slices_Clone_string_string.calls A0 c0 l0 l0 w HR0.out HC0.out HCL.out).mono ?_; rintro e w1 ⟨v1, rfl, hR, hB1⟩; obtain ⟨A1, c1, rfl, hS⟩ := KEY.out w1 v1 hB1 hR; have HS := zm hS; clear hS hR hB1)
   | (go_at_call 114; refine HS.out.mono ?_; rintro e w2 ⟨rfl, hB2, hC⟩; have HB2 := zm hB2; have HC := zm hC; clear hB2 hC))
  go_ret
  exact ⟨rfl, HB2.out⟩
def impl_Image_nearlyOK.f (k : Nat) (l0_0 : List Int) (l0_1 : List Int) (l0_2 : List (S103)) (l0_3 : List Int) : Option (Bool) := (impl_RefsOK.f l0_0).bind fun t332 => (if t332 = true then (if (l0_2.length : Int) ≤ 3 then ((impl_Image_names.f k l0_0 l0_1 l0_2 l0_3).bind fun t333 => ((impl_areNames.f k t333).bind fun t336 => (if t336 = true then ((impl_Image_tables.f k l0_0 l0_1 l0_2 l0_3).bind fun t337 => ((all75_impl_Image_nearlyOK_1.f k t337 ()).bind fun t340 => (if t340 = true then (if (l0_3.length : Int) = 24 then ((all80_impl_isNumber.f l0_3 ()).bind fun t341 => (some t341)) else (some false)) else (some false)))) else (some false)))) else (some false)) else (some false))
theorem impl_Image_nearlyOK.mono : ∀ a0 a1 a2 a3 k, LeO (impl_Image_nearlyOK.f k a0 a1 a2 a3) (impl_Image_nearlyOK.f (k + 1) a0 a1 a2 a3) := by
  intro a0 a1 a2 a3 k
  unfold impl_Image_nearlyOK.f
  repeat' first| (with_reducible first | exact all75_impl_Image_nearlyOK_1.mono _ _ _ | exact impl_Image_names.mono _ _ _ _ _ | exact impl_Image_tables.mono _ _ _ _ _ | exact impl_areNames.mono _ _ | exact LeO.refl _ | exact LeO.none _ | refine LeO.ite ?_ ?_ | refine LeO.bind ?_ (fun _ => ?_)) | exact all75_impl_Image_nearlyOK_1.mono _ _ _ | exact impl_Image_names.mono _ _ _ _ _ | exact impl_Image_tables.mono _ _ _ _ _ | exact impl_areNames.mono _ _ | exact LeO.none _ | refine LeO.ite ?_ ?_ | refine LeO.bind ?_ (fun _ => ?_)
set_option maxHeartbeats 8000000 in
set_option maxRecDepth 100000 in
theorem impl_Image_nearlyOK.calls (k : Nat) (A0_0 : Option Addr) (c0_0 : Nat) (l0_0 : List Int) (A0_1 : Option Addr) (c0_1 : Nat) (l0_1 : List Int) (A0_2 : Option Addr) (c0_2 : Nat) (l0_2 : List (S103)) (A0_3 : Option Addr) (c0_3 : Nat) (l0_3 : List Int) (r : Bool) (w : World) (hr0_0 : Kd.C (Kd.int .i64) w A0_0 l0_0.length l0_0) (hc0_0 : l0_0.length ≤ c0_0) (hr0_1 : Kd.C (Kd.int .i64) w A0_1 l0_1.length l0_1) (hc0_1 : l0_1.length ≤ c0_1) (hr0_2 : Kd.C k103 w A0_2 l0_2.length l0_2) (hc0_2 : l0_2.length ≤ c0_2) (hr0_3 : Kd.C (Kd.int .i64) w A0_3 l0_3.length l0_3) (hc0_3 : l0_3.length ≤ c0_3) (h : impl_Image_nearlyOK.f k l0_0 l0_1 l0_2 l0_3 = some r) :
    Calls Tryz.prog 34 #[.agg #[.slice A0_0 l0_0.length c0_0, .slice A0_1 l0_1.length c0_1, .slice A0_2 l0_2.length c0_2, .slice A0_3 l0_3.length c0_3]] w fun e w' => e = .returned (.bool r) ∧ Below w.heap.size w w' := by
 have hu26 := Tryz.underlying26; have Ze := zm hr0_0; have Zf := zm hc0_0; clear hr0_0 hc0_0; have Zj := zm hr0_1; have Zk := zm hc0_1; clear hr0_1 hc0_1; have Zl := zm hr0_2; have Zm := zm hc0_2; clear hr0_2 hc0_2; have Zh := zm hr0_3; have Zi := zm hc0_3; clear hr0_3 hc0_3; have HB := zm (Below.refl w.heap.size w); have H := h
 unfold impl_Image_nearlyOK.f at H
 clear h; replace H := Option.bind_eq_some_iff.mp H
 obtain ⟨t332, A20, H⟩ := H
 try dsimp only at H
 have A2 := zm A20; clear A20
 by_cases c3 : t332 = true
 ·subst c3
  replace H : (if (l0_2.length : Int) ≤ 3 then ((impl_Image_names.f k l0_0 l0_1 l0_2 l0_3).bind fun t333 => ((impl_areNames.f k t333).bind fun t336 => (if t336 = true then ((impl_Image_tables.f k l0_0 l0_1 l0_2 l0_3).bind fun t337 => ((all75_impl_Image_nearlyOK_1.f k t337 ()).bind fun t340 => (if t340 = true then (if (l0_3.length : Int) = 24 then ((all80_impl_isNumber.f l0_3 ()).bind fun t341 => (some t341)) else (some false)) else (some false)))) else (some false)))) else (some false)) = some r := by rw [if_pos rfl] at H; exact H
  by_cases c4 : (l0_2.length : Int) ≤ 3
  ·rw [if_pos c4] at H
   have c4b0 := decide_eq_true c4
   have c4b1 : decide (l0_2.length ≤ 3) = true := decide_eq_true (by omega)
   clear c4; replace H := Option.bind_eq_some_iff.mp H
   obtain ⟨t333, A50, H⟩ := H
   try dsimp only at H
   have A5 := zm A50; clear A50; replace H := Option.bind_eq_some_iff.mp H
   obtain ⟨t336, A60, H⟩ := H
   try dsimp only at H
   have A6 := zm A60; clear A60
   by_cases c7 : t336 = true
   ·subst c7
    replace H : ((impl_Image_tables.f k l0_0 l0_1 l0_2 l0_3).bind fun t337 => ((all75_impl_Image_nearlyOK_1.f k t337 ()).bind fun t340 => (if t340 = true then (if (l0_3.length : Int) = 24 then ((all80_impl_isNumber.f l0_3 ()).bind fun t341 => (some t341)) else (some false)) else (some false)))) = some r := by rw [if_pos rfl] at H; exact H
    replace H := Option.bind_eq_some_iff.mp H
    obtain ⟨t337, A80, H⟩ := H
    try dsimp only at H
    have A8 := zm A80; clear A80; replace H := Option.bind_eq_some_iff.mp H
    obtain ⟨t340, A90, H⟩ := H
    try dsimp only at H
    have A9 := zm A90; clear A90
    by_cases c10 : t340 = true
    ·subst c10
     replace H : (if (l0_3.length : Int) = 24 then ((all80_impl_isNumber.f l0_3 ()).bind fun t341 => (some t341)) else (some false)) = some r := by rw [if_pos rfl] at H; exact H
     by_cases c11 : (l0_3.length : Int) = 24
     ·rw [if_pos c11] at H
      have c11b0 : ((l0_3.length : Int) == 24) = true := beq_iff_eq.mpr c11
      have c11b1 : ((l0_3.length : Int) != 24) = false := bne_eq_false_iff_eq.mpr c11
      clear c11; replace H := Option.bind_eq_some_iff.mp H
      obtain ⟨t341, A120, H⟩ := H
      replace H : (some t341) = some r := H
      have A12 := zm A120; clear A120; obtain rfl := Option.some.inj H
      go_enter Tryz.func34, Tryz.ntmps34
      go_wp2_with (first | ((with_reducible refine gate_dst (N := 1) rfl ?_); (try (refine gate_guard (by rfl) ?_; dsimp only)); refine box_event ?hg (N := 1) ?hd (cs := #[.slice A0_0 l0_0.length c0_0, .slice A0_1 l0_1.length c0_1, .slice A0_2 l0_2.length c0_2, .slice A0_3 l0_3.length c0_3]) (t := 26) ?hr ?_; (case hd => rfl); (case hg => rfl); (case hr => first | (go_simp; done) | (go_simp; rfl)); intro gb331 hg w13 hbox hb; have n0_ := zm (below_step (zg_1 HB.out) hb); have n1_ := zm (hbox); have n2_ := zm ((by rw [hg]; exact (below_size (zg_1 HB.out)) : w.heap.size ≤ gb331)); have n3_ := zm ((by rw [hg]; exact (below_size (zg_1 HB.out)) : w.heap.size ≤ gb331)); replace HB := n0_; have Za := n1_; have Zg := n2_; have Zc := n3_; clear n0_ n1_ n2_ n3_; clear hb hbox hg; obtain ⟨hcz14_0, hcz14_1, hcz14_2, hcz14_3, hfz14_0, hfz14_1, hfz14_2, hfz14_3⟩ := zb4 Za.out) | ((with_reducible refine gate_callee (f := 72) rfl ?_); refine goesL_ (some 5) rfl rfl Tryz.func72 (by kernel_rfl) rfl #[.slice A0_0 l0_0.length c0_0] rfl zq ?_; (with_reducible refine (impl_RefsOK.calls _ _ l0_0 true _ ?side1 ?side2 A2.out).mono ?_); (case side1 => exact zC (Kd.C_below Ze.out HB.out)); (case side2 => exact Zf.out); rintro e w15 ⟨rfl, hb⟩; refine ⟨_, rfl, ?_⟩; have n0_ := zm (blk_below (zg_3 Za.out) hb); have n1_ := zm (below_step (zg_2 HB.out Zc.out) hb); replace Za := n0_; replace HB := n1_; clear n0_ n1_; (try clear hb); (try clear hb2); (try clear hk); (try clear hi); obtain ⟨hcz16_0, hcz16_1, hcz16_2, hcz16_3, hfz16_0, hfz16_1, hfz16_2, hfz16_3⟩ := zb4 Za.out) | (go_at_call 74; (with_reducible refine (impl_Image_names.calls k _ _ l0_0 _ _ l0_1 _ _ l0_2 _ _ l0_3 t333 _ ?side1 ?side2 ?side3 ?side4 ?side5 ?side6 ?side7 ?side8 A5.out).mono ?_); (case side1 => exact zC (Kd.C_below Ze.out HB.out)); (case side2 => exact Zf.out); (case side3 => exact zC (Kd.C_below Zj.out HB.out)); (case side4 => exact Zk.out); (case side5 => exact zC (Kd.C_below Zl.out HB.out)); (case side6 => exact Zm.out); (case side7 => exact zC (Kd.C_below Zh.out HB.out)); (case side8 => exact Zi.out); rintro e w17 ⟨v334, rfl, ho0, hb⟩; have n0_ := zm (Kd.R_lower ho0 (below_size (zg_2 HB.out Zc.out))); have n1_ := zm (blk_below (zg_3 Za.out) hb); have n2_ := zm (below_step (zg_2 HB.out Zc.out) hb); have Zb := n0_; replace Za := n1_; replace HB := n2_; clear n0_ n1_ n2_; (try clear hb); (try clear hb2); (try clear hk); (try clear hi); (try clear ho0); obtain ⟨Ao18, co18, eo18⟩ := Kd.R_slice Zb.out; subst eo18) | (go_at_call 73; (with_reducible refine (impl_areNames.calls k _ _ t333 true _ ?side1 ?side2 A6.out).mono ?_); (case side1 => exact zC ((Kd.R_reads' Zb.out).2.2)); (case side2 => exact (Kd.R_reads' Zb.out).2.1); rintro e w19 ⟨rfl, hb⟩; have n0_ := zm (Kd.R_below (zg_6 Zb.out) hb); have n1_ := zm (blk_below (zg_3 Za.out) hb); have n2_ := zm (below_step (zg_2 HB.out Zc.out) hb); replace Zb := n0_; replace Za := n1_; replace HB := n2_; clear n0_ n1_ n2_; (try clear hb); (try clear hb2); (try clear hk); (try clear hi); obtain ⟨hcz20_0, hcz20_1, hcz20_2, hcz20_3, hfz20_0, hfz20_1, hfz20_2, hfz20_3⟩ := zb4 Za.out) | (go_at_call 76; (with_reducible refine (impl_Image_tables.calls k _ _ l0_0 (fun k_ => k_ < w.heap.size) _ _ l0_1 (fun k_ => k_ < w.heap.size) _ _ l0_2 _ _ l0_3 t337 _ ?side1 ?side2 ?side3 ?side4 ?side5 ?side6 A8.out).mono ?_); (case side1 => exact zC (Kd.C_below Ze.out HB.out)); (case side2 => exact Zf.out); (case side3 => exact Kd.V_mk Zk.out (Kd.F_below (Kd.C_F (Kd.heap_int .i64) Zj.out) (zg_2 HB.out Zc.out))); (case side4 => exact Kd.V_mk Zm.out (Kd.F_below (Kd.C_F k103_heap Zl.out) (zg_2 HB.out Zc.out))); (case side5 => exact zC (Kd.C_below Zh.out HB.out)); (case side6 => exact Zi.out); rintro e w21 ⟨v338, rfl, ho0, hb⟩; have n0_ := zm (Kd.R_below (zg_6 Zb.out) hb); have n1_ := zm (Kd.N_lower (Kd.N_mono (ok' := fun k_ => some k_ ≠ (.slice Ao18 t333.length co18 : Value).ownBlock ∧ k_ ≠ gb331) ho0 (fun k_ hk_ => ⟨Or.elim hk_ (fun hs_ => Or.elim hs_ (fun hs_ => fun e_ => Nat.not_le.2 hs_ (Kd.R_base Zb.out k_ e_.symm)) (fun hs_ => fun e_ => Nat.not_le.2 hs_ (Kd.R_base Zb.out k_ e_.symm))) (fun hn_ => (Kd.fresh' (Kd.R_lt (zg_6 Zb.out)) k_ hn_)), Or.elim hk_ (fun hs_ => Or.elim hs_ (fun hs_ => fun e_ => Nat.not_le.2 hs_ (by rw [e_]; exact Zg.out)) (fun hs_ => fun e_ => Nat.not_le.2 hs_ (by rw [e_]; exact Zg.out))) (fun hn_ => (Kd.freshB (g := gb331) (o := .cells #[.slice A0_0 l0_0.length c0_0, .slice A0_1 l0_1.length c0_1, .slice A0_2 l0_2.length c0_2, .slice A0_3 l0_3.length c0_3] 26 (0, 0)) (zg_3 Za.out) k_ hn_))⟩)) (below_size (zg_2 HB.out Zc.out))); have n2_ := zm (blk_below (zg_3 Za.out) hb); have n3_ := zm (below_step (zg_2 HB.out Zc.out) hb); replace Zb := n0_; have Zd := n1_; replace Za := n2_; replace HB := n3_; clear n0_ n1_ n2_ n3_; (try clear hb); (try clear hb2); (try clear hk); (try clear hi); (try clear ho0); obtain ⟨Ao22, co22, eo22⟩ := Kd.N_slice Zd.out; subst eo22) | (go_at_call 75; (with_reducible refine (all75_impl_Image_nearlyOK_1.calls k _ _ t337 () true _ ?side1 ?side2 A9.out).mono ?_); (case side1 => exact zC ((Kd.N_reads' Zd.out).2.2)); (case side2 => exact (Kd.N_reads' Zd.out).2.1); rintro e w23 ⟨rfl, hb⟩; have n0_ := zm (Kd.R_below (zg_6 Zb.out) hb); have n1_ := zm (Kd.N_below (zg_4 Zd.out) hb); have n2_ := zm (blk_below (zg_3 Za.out) hb); have n3_ := zm (below_step (zg_2 HB.out Zc.out) hb); replace Zb := n0_; replace Zd := n1_; replace Za := n2_; replace HB := n3_; clear n0_ n1_ n2_ n3_; (try clear hb); (try clear hb2); (try clear hk); (try clear hi); obtain ⟨hcz24_0, hcz24_1, hcz24_2, hcz24_3, hfz24_0, hfz24_1, hfz24_2, hfz24_3⟩ := zb4 Za.out) | (go_at_call 80; (with_reducible refine (all80_impl_isNumber.calls _ _ l0_3 () t341 _ ?side1 ?side2 A12.out).mono ?_); (case side1 => exact zC (Kd.C_below Zh.out HB.out)); (case side2 => exact Zi.out); rintro e w25 ⟨rfl, hb⟩; have n0_ := zm (Kd.R_below (zg_6 Zb.out) hb); have n1_ := zm (Kd.N_below (zg_4 Zd.out) hb); have n2_ := zm (blk_below (zg_3 Za.out) hb); have n3_ := zm (below_step (zg_2 HB.out Zc.out) hb); replace Zb := n0_; replace Zd := n1_; replace Za := n2_; replace HB := n3_; clear n0_ n1_ n2_ n3_; (try clear hb); (try clear hb2); (try clear hk); (try clear hi)))
      go_ret
      exact ⟨ze, zg_2 HB.out Zc.out⟩
     ·rw [if_neg c11] at H
      have c11b0 : ((l0_3.length : Int) == 24) = false := beq_eq_false_iff_ne.mpr c11
      have c11b1 : ((l0_3.length : Int) != 24) = true := bne_iff_ne.mpr c11
      obtain rfl := Option.some.inj H
      go_enter Tryz.func34, Tryz.ntmps34
      go_wp2_with (first | ((with_reducible refine gate_dst (N := 1) rfl ?_); (try (refine gate_guard (by rfl) ?_; dsimp only)); refine box_event ?hg (N := 1) ?hd (cs := #[.slice A0_0 l0_0.length c0_0, .slice A0_1 l0_1.length c0_1, .slice A0_2 l0_2.length c0_2, .slice A0_3 l0_3.length c0_3]) (t := 26) ?hr ?_; (case hd => rfl); (case hg => rfl); (case hr => first | (go_simp; done) | (go_simp; rfl)); intro gb331 hg w26 hbox hb; have n0_ := zm (below_step (zg_1 HB.out) hb); have n1_ := zm (hbox); have n2_ := zm ((by rw [hg]; exact (below_size (zg_1 HB.out)) : w.heap.size ≤ gb331)); have n3_ := zm ((by rw [hg]; exact (below_size (zg_1 HB.out)) : w.heap.size ≤ gb331)); replace HB := n0_; have Za := n1_; have Zg := n2_; have Zc := n3_; clear n0_ n1_ n2_ n3_; clear hb hbox hg; obtain ⟨hcz27_0, hcz27_1, hcz27_2, hcz27_3, hfz27_0, hfz27_1, hfz27_2, hfz27_3⟩ := zb4 Za.out) | ((with_reducible refine gate_callee (f := 72) rfl ?_); refine goesL_ (some 5) rfl rfl Tryz.func72 (by kernel_rfl) rfl #[.slice A0_0 l0_0.length c0_0] rfl zq ?_; (with_reducible refine (impl_RefsOK.calls _ _ l0_0 true _ ?side1 ?side2 A2.out).mono ?_); (case side1 => exact zC (Kd.C_below Ze.out HB.out)); (case side2 => exact Zf.out); rintro e w28 ⟨rfl, hb⟩; refine ⟨_, rfl, ?_⟩; have n0_ := zm (blk_below (zg_3 Za.out) hb); have n1_ := zm (below_step (zg_2 HB.out Zc.out) hb); replace Za := n0_; replace HB := n1_; clear n0_ n1_; (try clear hb); (try clear hb2); (try clear hk); (try clear hi); obtain ⟨hcz29_0, hcz29_1, hcz29_2, hcz29_3, hfz29_0, hfz29_1, hfz29_2, hfz29_3⟩ := zb4 Za.out) | (go_at_call 74; (with_reducible refine (impl_Image_names.calls k _ _ l0_0 _ _ l0_1 _ _ l0_2 _ _ l0_3 t333 _ ?side1 ?side2 ?side3 ?side4 ?side5 ?side6 ?side7 ?side8 A5.out).mono ?_); (case side1 => exact zC (Kd.C_below Ze.out HB.out)); (case side2 => exact Zf.out); (case side3 => exact zC (Kd.C_below Zj.out HB.out)); (case side4 => exact Zk.out); (case side5 => exact zC (Kd.C_below Zl.out HB.out)); (case side6 => exact Zm.out); (case side7 => exact zC (Kd.C_below Zh.out HB.out)); (case side8 => exact Zi.out); rintro e w30 ⟨v334, rfl, ho0, hb⟩; have n0_ := zm (Kd.R_lower ho0 (below_size (zg_2 HB.out Zc.out))); have n1_ := zm (blk_below (zg_3 Za.out) hb); have n2_ := zm (below_step (zg_2 HB.out Zc.out) hb); have Zb := n0_; replace Za := n1_; replace HB := n2_; clear n0_ n1_ n2_; (try clear hb); (try clear hb2); (try clear hk); (try clear hi); (try clear ho0); obtain ⟨Ao31, co31, eo31⟩ := Kd.R_slice Zb.out; subst eo31) | (go_at_call 73; (with_reducible refine (impl_areNames.calls k _ _ t333 true _ ?side1 ?side2 A6.out).mono ?_); (case side1 => exact zC ((Kd.R_reads' Zb.out).2.2)); (case side2 => exact (Kd.R_reads' Zb.out).2.1); rintro e w32 ⟨rfl, hb⟩; have n0_ := zm (Kd.R_below (zg_6 Zb.out) hb); have n1_ := zm (blk_below (zg_3 Za.out) hb); have n2_ := zm (below_step (zg_2 HB.out Zc.out) hb); replace Zb := n0_; replace Za := n1_; replace HB := n2_; clear n0_ n1_ n2_; (try clear hb); (try clear hb2); (try clear hk); (try clear hi); obtain ⟨hcz33_0, hcz33_1, hcz33_2, hcz33_3, hfz33_0, hfz33_1, hfz33_2, hfz33_3⟩ := zb4 Za.out) | (go_at_call 76; (with_reducible refine (impl_Image_tables.calls k _ _ l0_0 (fun k_ => k_ < w.heap.size) _ _ l0_1 (fun k_ => k_ < w.heap.size) _ _ l0_2 _ _ l0_3 t337 _ ?side1 ?side2 ?side3 ?side4 ?side5 ?side6 A8.out).mono ?_); (case side1 => exact zC (Kd.C_below Ze.out HB.out)); (case side2 => exact Zf.out); (case side3 => exact Kd.V_mk Zk.out (Kd.F_below (Kd.C_F (Kd.heap_int .i64) Zj.out) (zg_2 HB.out Zc.out))); (case side4 => exact Kd.V_mk Zm.out (Kd.F_below (Kd.C_F k103_heap Zl.out) (zg_2 HB.out Zc.out))); (case side5 => exact zC (Kd.C_below Zh.out HB.out)); (case side6 => exact Zi.out); rintro e w34 ⟨v338, rfl, ho0, hb⟩; have n0_ := zm (Kd.R_below (zg_6 Zb.out) hb); have n1_ := zm (Kd.N_lower (Kd.N_mono (ok' := fun k_ => some k_ ≠ (.slice Ao31 t333.length co31 : Value).ownBlock ∧ k_ ≠ gb331) ho0 (fun k_ hk_ => ⟨Or.elim hk_ (fun hs_ => Or.elim hs_ (fun hs_ => fun e_ => Nat.not_le.2 hs_ (Kd.R_base Zb.out k_ e_.symm)) (fun hs_ => fun e_ => Nat.not_le.2 hs_ (Kd.R_base Zb.out k_ e_.symm))) (fun hn_ => (Kd.fresh' (Kd.R_lt (zg_6 Zb.out)) k_ hn_)), Or.elim hk_ (fun hs_ => Or.elim hs_ (fun hs_ => fun e_ => Nat.not_le.2 hs_ (by rw [e_]; exact Zg.out)) (fun hs_ => fun e_ => Nat.not_le.2 hs_ (by rw [e_]; exact Zg.out))) (fun hn_ => (Kd.freshB (g := gb331) (o := .cells #[.slice A0_0 l0_0.length c0_0, .slice A0_1 l0_1.length c0_1, .slice A0_2 l0_2.length c0_2, .slice A0_3 l0_3.length c0_3] 26 (0, 0)) (zg_3 Za.out) k_ hn_))⟩)) (below_size (zg_2 HB.out Zc.out))); have n2_ := zm (blk_below (zg_3 Za.out) hb); have n3_ := zm (below_step (zg_2 HB.out Zc.out) hb); replace Zb := n0_; have Zd := n1_; replace Za := n2_; replace HB := n3_; clear n0_ n1_ n2_ n3_; (try clear hb); (try clear hb2); (try clear hk); (try clear hi); (try clear ho0); obtain ⟨Ao35, co35, eo35⟩ := Kd.N_slice Zd.out; subst eo35) | (go_at_call 75; (with_reducible refine (all75_impl_Image_nearlyOK_1.calls k _ _ t337 () true _ ?side1 ?side2 A9.out).mono ?_); (case side1 => exact zC ((Kd.N_reads' Zd.out).2.2)); (case side2 => exact (Kd.N_reads' Zd.out).2.1); rintro e w36 ⟨rfl, hb⟩; have n0_ := zm (Kd.R_below (zg_6 Zb.out) hb); have n1_ := zm (Kd.N_below (zg_4 Zd.out) hb); have n2_ := zm (blk_below (zg_3 Za.out) hb); have n3_ := zm (below_step (zg_2 HB.out Zc.out) hb); replace Zb := n0_; replace Zd := n1_; replace Za := n2_; replace HB := n3_; clear n0_ n1_ n2_ n3_; (try clear hb); (try clear hb2); (try clear hk); (try clear hi); obtain ⟨hcz37_0, hcz37_1, hcz37_2, hcz37_3, hfz37_0, hfz37_1, hfz37_2, hfz37_3⟩ := zb4 Za.out))
      go_ret
      exact ⟨ze, zg_2 HB.out Zc.out⟩
    ·replace c10 := Bool.eq_false_iff.mpr c10
     subst c10
     replace H : (some false) = some r := by rw [if_neg (show ¬ (false = true) by decide)] at H; exact H
     obtain rfl := Option.some.inj H
     go_enter Tryz.func34, Tryz.ntmps34
     go_wp2_with (first | ((with_reducible refine gate_dst (N := 1) rfl ?_); (try (refine gate_guard (by rfl) ?_; dsimp only)); refine box_event ?hg (N := 1) ?hd (cs := #[.slice A0_0 l0_0.length c0_0, .slice A0_1 l0_1.length c0_1, .slice A0_2 l0_2.length c0_2, .slice A0_3 l0_3.length c0_3]) (t := 26) ?hr ?_; (case hd => rfl); (case hg => rfl); (case hr => first | (go_simp; done) | (go_simp; rfl)); intro gb331 hg w38 hbox hb; have n0_ := zm (below_step (zg_1 HB.out) hb); have n1_ := zm (hbox); have n2_ := zm ((by rw [hg]; exact (below_size (zg_1 HB.out)) : w.heap.size ≤ gb331)); have n3_ := zm ((by rw [hg]; exact (below_size (zg_1 HB.out)) : w.heap.size ≤ gb331)); replace HB := n0_; have Za := n1_; have Zg := n2_; have Zc := n3_; clear n0_ n1_ n2_ n3_; clear hb hbox hg; obtain ⟨hcz39_0, hcz39_1, hcz39_2, hcz39_3, hfz39_0, hfz39_1, hfz39_2, hfz39_3⟩ := zb4 Za.out) | ((with_reducible refine gate_callee (f := 72) rfl ?_); refine goesL_ (some 5) rfl rfl Tryz.func72 (by kernel_rfl) rfl #[.slice A0_0 l0_0.length c0_0] rfl zq ?_; (with_reducible refine (impl_RefsOK.calls _ _ l0_0 true _ ?side1 ?side2 A2.out).mono ?_); (case side1 => exact zC (Kd.C_below Ze.out HB.out)); (case side2 => exact Zf.out); rintro e w40 ⟨rfl, hb⟩; refine ⟨_, rfl, ?_⟩; have n0_ := zm (blk_below (zg_3 Za.out) hb); have n1_ := zm (below_step (zg_2 HB.out Zc.out) hb); replace Za := n0_; replace HB := n1_; clear n0_ n1_; (try clear hb); (try clear hb2); (try clear hk); (try clear hi); obtain ⟨hcz41_0, hcz41_1, hcz41_2, hcz41_3, hfz41_0, hfz41_1, hfz41_2, hfz41_3⟩ := zb4 Za.out) | (go_at_call 74; (with_reducible refine (impl_Image_names.calls k _ _ l0_0 _ _ l0_1 _ _ l0_2 _ _ l0_3 t333 _ ?side1 ?side2 ?side3 ?side4 ?side5 ?side6 ?side7 ?side8 A5.out).mono ?_); (case side1 => exact zC (Kd.C_below Ze.out HB.out)); (case side2 => exact Zf.out); (case side3 => exact zC (Kd.C_below Zj.out HB.out)); (case side4 => exact Zk.out); (case side5 => exact zC (Kd.C_below Zl.out HB.out)); (case side6 => exact Zm.out); (case side7 => exact zC (Kd.C_below Zh.out HB.out)); (case side8 => exact Zi.out); rintro e w42 ⟨v334, rfl, ho0, hb⟩; have n0_ := zm (Kd.R_lower ho0 (below_size (zg_2 HB.out Zc.out))); have n1_ := zm (blk_below (zg_3 Za.out) hb); have n2_ := zm (below_step (zg_2 HB.out Zc.out) hb); have Zb := n0_; replace Za := n1_; replace HB := n2_; clear n0_ n1_ n2_; (try clear hb); (try clear hb2); (try clear hk); (try clear hi); (try clear ho0); obtain ⟨Ao43, co43, eo43⟩ := Kd.R_slice Zb.out; subst eo43) | (go_at_call 73; (with_reducible refine (impl_areNames.calls k _ _ t333 true _ ?side1 ?side2 A6.out).mono ?_); (case side1 => exact zC ((Kd.R_reads' Zb.out).2.2)); (case side2 => exact (Kd.R_reads' Zb.out).2.1); rintro e w44 ⟨rfl, hb⟩; have n0_ := zm (Kd.R_below (zg_6 Zb.out) hb); have n1_ := zm (blk_below (zg_3 Za.out) hb); have n2_ := zm (below_step (zg_2 HB.out Zc.out) hb); replace Zb := n0_; replace Za := n1_; replace HB := n2_; clear n0_ n1_ n2_; (try clear hb); (try clear hb2); (try clear hk); (try clear hi); obtain ⟨hcz45_0, hcz45_1, hcz45_2, hcz45_3, hfz45_0, hfz45_1, hfz45_2, hfz45_3⟩ := zb4 Za.out) | (go_at_call 76; (with_reducible refine (impl_Image_tables.calls k _ _ l0_0 (fun k_ => k_ < w.heap.size) _ _ l0_1 (fun k_ => k_ < w.heap.size) _ _ l0_2 _ _ l0_3 t337 _ ?side1 ?side2 ?side3 ?side4 ?side5 ?side6 A8.out).mono ?_); (case side1 => exact zC (Kd.C_below Ze.out HB.out)); (case side2 => exact Zf.out); (case side3 => exact Kd.V_mk Zk.out (Kd.F_below (Kd.C_F (Kd.heap_int .i64) Zj.out) (zg_2 HB.out Zc.out))); (case side4 => exact Kd.V_mk Zm.out (Kd.F_below (Kd.C_F k103_heap Zl.out) (zg_2 HB.out Zc.out))); (case side5 => exact zC (Kd.C_below Zh.out HB.out)); (case side6 => exact Zi.out); rintro e w46 ⟨v338, rfl, ho0, hb⟩; have n0_ := zm (Kd.R_below (zg_6 Zb.out) hb); have n1_ := zm (Kd.N_lower (Kd.N_mono (ok' := fun k_ => some k_ ≠ (.slice Ao43 t333.length co43 : Value).ownBlock ∧ k_ ≠ gb331) ho0 (fun k_ hk_ => ⟨Or.elim hk_ (fun hs_ => Or.elim hs_ (fun hs_ => fun e_ => Nat.not_le.2 hs_ (Kd.R_base Zb.out k_ e_.symm)) (fun hs_ => fun e_ => Nat.not_le.2 hs_ (Kd.R_base Zb.out k_ e_.symm))) (fun hn_ => (Kd.fresh' (Kd.R_lt (zg_6 Zb.out)) k_ hn_)), Or.elim hk_ (fun hs_ => Or.elim hs_ (fun hs_ => fun e_ => Nat.not_le.2 hs_ (by rw [e_]; exact Zg.out)) (fun hs_ => fun e_ => Nat.not_le.2 hs_ (by rw [e_]; exact Zg.out))) (fun hn_ => (Kd.freshB (g := gb331) (o := .cells #[.slice A0_0 l0_0.length c0_0, .slice A0_1 l0_1.length c0_1, .slice A0_2 l0_2.length c0_2, .slice A0_3 l0_3.length c0_3] 26 (0, 0)) (zg_3 Za.out) k_ hn_))⟩)) (below_size (zg_2 HB.out Zc.out))); have n2_ := zm (blk_below (zg_3 Za.out) hb); have n3_ := zm (below_step (zg_2 HB.out Zc.out) hb); replace Zb := n0_; have Zd := n1_; replace Za := n2_; replace HB := n3_; clear n0_ n1_ n2_ n3_; (try clear hb); (try clear hb2); (try clear hk); (try clear hi); (try clear ho0); obtain ⟨Ao47, co47, eo47⟩ := Kd.N_slice Zd.out; subst eo47) | (go_at_call 75; (with_reducible refine (all75_impl_Image_nearlyOK_1.calls k _ _ t337 () false _ ?side1 ?side2 A9.out).mono ?_); (case side1 => exact zC ((Kd.N_reads' Zd.out).2.2)); (case side2 => exact (Kd.N_reads' Zd.out).2.1); rintro e w48 ⟨rfl, hb⟩; have n0_ := zm (Kd.R_below (zg_6 Zb.out) hb); have n1_ := zm (Kd.N_below (zg_4 Zd.out) hb); have n2_ := zm (blk_below (zg_3 Za.out) hb); have n3_ := zm (below_step (zg_2 HB.out Zc.out) hb); replace Zb := n0_; replace Zd := n1_; replace Za := n2_; replace HB := n3_; clear n0_ n1_ n2_ n3_; (try clear hb); (try clear hb2); (try clear hk); (try clear hi)))
     go_ret
     exact ⟨ze, zg_2 HB.out Zc.out⟩
   ·replace c7 := Bool.eq_false_iff.mpr c7
    subst c7
    replace H : (some false) = some r := by rw [if_neg (show ¬ (false = true) by decide)] at H; exact H
    obtain rfl := Option.some.inj H
    go_enter Tryz.func34, Tryz.ntmps34
    go_wp2_with (first | ((with_reducible refine gate_dst (N := 1) rfl ?_); (try (refine gate_guard (by rfl) ?_; dsimp only)); refine box_event ?hg (N := 1) ?hd (cs := #[.slice A0_0 l0_0.length c0_0, .slice A0_1 l0_1.length c0_1, .slice A0_2 l0_2.length c0_2, .slice A0_3 l0_3.length c0_3]) (t := 26) ?hr ?_; (case hd => rfl); (case hg => rfl); (case hr => first | (go_simp; done) | (go_simp; rfl)); intro gb331 hg w49 hbox hb; have n0_ := zm (below_step (zg_1 HB.out) hb); have n1_ := zm (hbox); have n2_ := zm ((by rw [hg]; exact (below_size (zg_1 HB.out)) : w.heap.size ≤ gb331)); have n3_ := zm ((by rw [hg]; exact (below_size (zg_1 HB.out)) : w.heap.size ≤ gb331)); replace HB := n0_; have Za := n1_; have Zg := n2_; have Zc := n3_; clear n0_ n1_ n2_ n3_; clear hb hbox hg; obtain ⟨hcz50_0, hcz50_1, hcz50_2, hcz50_3, hfz50_0, hfz50_1, hfz50_2, hfz50_3⟩ := zb4 Za.out) | ((with_reducible refine gate_callee (f := 72) rfl ?_); refine goesL_ (some 5) rfl rfl Tryz.func72 (by kernel_rfl) rfl #[.slice A0_0 l0_0.length c0_0] rfl zq ?_; (with_reducible refine (impl_RefsOK.calls _ _ l0_0 true _ ?side1 ?side2 A2.out).mono ?_); (case side1 => exact zC (Kd.C_below Ze.out HB.out)); (case side2 => exact Zf.out); rintro e w51 ⟨rfl, hb⟩; refine ⟨_, rfl, ?_⟩; have n0_ := zm (blk_below (zg_3 Za.out) hb); have n1_ := zm (below_step (zg_2 HB.out Zc.out) hb); replace Za := n0_; replace HB := n1_; clear n0_ n1_; (try clear hb); (try clear hb2); (try clear hk); (try clear hi); obtain ⟨hcz52_0, hcz52_1, hcz52_2, hcz52_3, hfz52_0, hfz52_1, hfz52_2, hfz52_3⟩ := zb4 Za.out) | (go_at_call 74; (with_reducible refine (impl_Image_names.calls k _ _ l0_0 _ _ l0_1 _ _ l0_2 _ _ l0_3 t333 _ ?side1 ?side2 ?side3 ?side4 ?side5 ?side6 ?side7 ?side8 A5.out).mono ?_); (case side1 => exact zC (Kd.C_below Ze.out HB.out)); (case side2 => exact Zf.out); (case side3 => exact zC (Kd.C_below Zj.out HB.out)); (case side4 => exact Zk.out); (case side5 => exact zC (Kd.C_below Zl.out HB.out)); (case side6 => exact Zm.out); (case side7 => exact zC (Kd.C_below Zh.out HB.out)); (case side8 => exact Zi.out); rintro e w53 ⟨v334, rfl, ho0, hb⟩; have n0_ := zm (Kd.R_lower ho0 (below_size (zg_2 HB.out Zc.out))); have n1_ := zm (blk_below (zg_3 Za.out) hb); have n2_ := zm (below_step (zg_2 HB.out Zc.out) hb); have Zb := n0_; replace Za := n1_; replace HB := n2_; clear n0_ n1_ n2_; (try clear hb); (try clear hb2); (try clear hk); (try clear hi); (try clear ho0); obtain ⟨Ao54, co54, eo54⟩ := Kd.R_slice Zb.out; subst eo54) | (go_at_call 73; (with_reducible refine (impl_areNames.calls k _ _ t333 false _ ?side1 ?side2 A6.out).mono ?_); (case side1 => exact zC ((Kd.R_reads' Zb.out).2.2)); (case side2 => exact (Kd.R_reads' Zb.out).2.1); rintro e w55 ⟨rfl, hb⟩; have n0_ := zm (Kd.R_below (zg_6 Zb.out) hb); have n1_ := zm (blk_below (zg_3 Za.out) hb); have n2_ := zm (below_step (zg_2 HB.out Zc.out) hb); replace Zb := n0_; replace Za := n1_; replace HB := n2_; clear n0_ n1_ n2_; (try clear hb); (try clear hb2); (try clear hk); (try clear hi)))
    go_ret
    exact ⟨ze, zg_2 HB.out Zc.out⟩
  ·rw [if_neg c4] at H
   have c4b0 := decide_eq_false c4
   have c4b1 : decide (l0_2.length ≤ 3) = false := decide_eq_false (by omega)
   clear c4; obtain rfl := Option.some.inj H
   go_enter Tryz.func34, Tryz.ntmps34
   go_wp2_with (first | ((with_reducible refine gate_dst (N := 1) rfl ?_); (try (refine gate_guard (by rfl) ?_; dsimp only)); refine box_event ?hg (N := 1) ?hd (cs := #[.slice A0_0 l0_0.length c0_0, .slice A0_1 l0_1.length c0_1, .slice A0_2 l0_2.length c0_2, .slice A0_3 l0_3.length c0_3]) (t := 26) ?hr ?_; (case hd => rfl); (case hg => rfl); (case hr => first | (go_simp; done) | (go_simp; rfl)); intro gb331 hg w56 hbox hb; have n0_ := zm (below_step (zg_1 HB.out) hb); have n1_ := zm (hbox); have n2_ := zm ((by rw [hg]; exact (below_size (zg_1 HB.out)) : w.heap.size ≤ gb331)); have n3_ := zm ((by rw [hg]; exact (below_size (zg_1 HB.out)) : w.heap.size ≤ gb331)); replace HB := n0_; have Za := n1_; have Zg := n2_; have Zc := n3_; clear n0_ n1_ n2_ n3_; clear hb hbox hg; obtain ⟨hcz57_0, hcz57_1, hcz57_2, hcz57_3, hfz57_0, hfz57_1, hfz57_2, hfz57_3⟩ := zb4 Za.out) | ((with_reducible refine gate_callee (f := 72) rfl ?_); refine goesL_ (some 5) rfl rfl Tryz.func72 (by kernel_rfl) rfl #[.slice A0_0 l0_0.length c0_0] rfl zq ?_; (with_reducible refine (impl_RefsOK.calls _ _ l0_0 true _ ?side1 ?side2 A2.out).mono ?_); (case side1 => exact zC (Kd.C_below Ze.out HB.out)); (case side2 => exact Zf.out); rintro e w58 ⟨rfl, hb⟩; refine ⟨_, rfl, ?_⟩; have n0_ := zm (blk_below (zg_3 Za.out) hb); have n1_ := zm (below_step (zg_2 HB.out Zc.out) hb); replace Za := n0_; replace HB := n1_; clear n0_ n1_; (try clear hb); (try clear hb2); (try clear hk); (try clear hi); obtain ⟨hcz59_0, hcz59_1, hcz59_2, hcz59_3, hfz59_0, hfz59_1, hfz59_2, hfz59_3⟩ := zb4 Za.out))
   go_ret
   exact ⟨ze, zg_2 HB.out Zc.out⟩
 ·replace c3 := Bool.eq_false_iff.mpr c3
  subst c3
  replace H : (some false) = some r := by rw [if_neg (show ¬ (false = true) by decide)] at H; exact H
  obtain rfl := Option.some.inj H
  go_enter Tryz.func34, Tryz.ntmps34
  go_wp2_with (first | ((with_reducible refine gate_dst (N := 1) rfl ?_); (try (refine gate_guard (by rfl) ?_; dsimp only)); refine box_event ?hg (N := 1) ?hd (cs := #[.slice A0_0 l0_0.length c0_0, .slice A0_1 l0_1.length c0_1, .slice A0_2 l0_2.length c0_2, .slice A0_3 l0_3.length c0_3]) (t := 26) ?hr ?_; (case hd => rfl); (case hg => rfl); (case hr => first | (go_simp; done) | (go_simp; rfl)); intro gb331 hg w60 hbox hb; have n0_ := zm (below_step (zg_1 HB.out) hb); have n1_ := zm (hbox); have n2_ := zm ((by rw [hg]; exact (below_size (zg_1 HB.out)) : w.heap.size ≤ gb331)); have n3_ := zm ((by rw [hg]; exact (below_size (zg_1 HB.out)) : w.heap.size ≤ gb331)); replace HB := n0_; have Za := n1_; have Zg := n2_; have Zc := n3_; clear n0_ n1_ n2_ n3_; clear hb hbox hg; obtain ⟨hcz61_0, hcz61_1, hcz61_2, hcz61_3, hfz61_0, hfz61_1, hfz61_2, hfz61_3⟩ := zb4 Za.out) | ((with_reducible refine gate_callee (f := 72) rfl ?_); refine goesL_ (some 5) rfl rfl Tryz.func72 (by kernel_rfl) rfl #[.slice A0_0 l0_0.length c0_0] rfl zq ?_; (with_reducible refine (impl_RefsOK.calls _ _ l0_0 false _ ?side1 ?side2 A2.out).mono ?_); (case side1 => exact zC (Kd.C_below Ze.out HB.out)); (case side2 => exact Zf.out); rintro e w62 ⟨rfl, hb⟩; refine ⟨_, rfl, ?_⟩; have n0_ := zm (blk_below (zg_3 Za.out) hb); have n1_ := zm (below_step (zg_2 HB.out Zc.out) hb); replace Za := n0_; replace HB := n1_; clear n0_ n1_; (try clear hb); (try clear hb2); (try clear hk); (try clear hi)))
  go_ret
  exact ⟨ze, zg_2 HB.out Zc.out⟩
def slices_Equal_int_int.l0 : Nat → List Int → List Int → Int → Int → Option (Bool)
  | 0, _, _, _, _ => none
  | k + 1, x0, x1, x12, x13 => if x13 < x12 then (if 0 ≤ x13 then (if x13 < (x0.length : Int) then (if x13 < (x1.length : Int) then (if (rd x0 x13) = (rd x1 x13) then (slices_Equal_int_int.l0 k x0 x1 x12 (wrap64 (x13 + 1))) else (some false)) else (none)) else (none)) else (none)) else (some true)
def slices_Equal_int_int.f (k : Nat) (l0 : List Int) (l1 : List Int) : Option (Bool) := if (l0.length : Int) = (l1.length : Int) then (slices_Equal_int_int.l0 k l0 l1 (l0.length : Int) 0) else (some false)
theorem slices_Equal_int_int.mono_l : ∀ k, (∀ y0 y1 y2 y3, LeO (slices_Equal_int_int.l0 k y0 y1 y2 y3) (slices_Equal_int_int.l0 (k + 1) y0 y1 y2 y3))
  | 0 => fun _ _ _ _ r h => by simp [slices_Equal_int_int.l0] at h
  | k + 1 => by
    have ih0 := slices_Equal_int_int.mono_l k
    · intro y0 y1 y2 y3
      unfold slices_Equal_int_int.l0
      repeat' first| (with_reducible first | exact ih0 _ _ _ _ | exact LeO.refl _ | exact LeO.none _ | refine LeO.ite ?_ ?_ | refine LeO.bind ?_ (fun _ => ?_)) | exact ih0 _ _ _ _ | exact LeO.none _ | refine LeO.ite ?_ ?_ | refine LeO.bind ?_ (fun _ => ?_)
theorem slices_Equal_int_int.mono : ∀ a0 a1 k, LeO (slices_Equal_int_int.f k a0 a1) (slices_Equal_int_int.f (k + 1) a0 a1) := by
  intro a0 a1 k
  have ih0 := slices_Equal_int_int.mono_l k
  unfold slices_Equal_int_int.f
  repeat' first| (with_reducible first | exact ih0 _ _ _ _ | exact LeO.refl _ | exact LeO.none _ | refine LeO.ite ?_ ?_ | refine LeO.bind ?_ (fun _ => ?_)) | exact ih0 _ _ _ _ | exact LeO.none _ | refine LeO.ite ?_ ?_ | refine LeO.bind ?_ (fun _ => ?_)
set_option maxHeartbeats 8000000 in
set_option maxRecDepth 100000 in
theorem slices_Equal_int_int.calls (k : Nat) (A0 : Option Addr) (c0 : Nat) (l0 : List Int) (A1 : Option Addr) (c1 : Nat) (l1 : List Int) (r : Bool) (w : World) (hr0 : Kd.C (Kd.int .i64) w A0 l0.length l0) (hc0 : l0.length ≤ c0) (hr1 : Kd.C (Kd.int .i64) w A1 l1.length l1) (hc1 : l1.length ≤ c1) (h : slices_Equal_int_int.f k l0 l1 = some r) :
    Calls Tryz.prog 37 #[.slice A0 l0.length c0, .slice A1 l1.length c1] w fun e w' => e = .returned (.bool r) ∧ Drawn0 w w' := by
 have HR0 := zm hr0; have HC0 := zm hc0; clear hr0 hc0; have HR1 := zm hr1; have HC1 := zm hc1; clear hr1 hc1; have H := h
 unfold slices_Equal_int_int.f at H
 clear h
 by_cases c3 : (l0.length : Int) = (l1.length : Int)
 ·rw [if_pos c3] at H
  have c3b0 : ((l0.length : Int) == (l1.length : Int)) = true := beq_iff_eq.mpr c3
  have c3b1 : ((l0.length : Int) != (l1.length : Int)) = false := bne_eq_false_iff_eq.mpr c3
  have c3b2 : (l0.length == l1.length) = true := by first | simpa using c3 | (simp at c3 ⊢; omega)
  clear c3
  have H' := zm H
  clear H
  go_enter Tryz.func37, Tryz.ntmps37
  go_wp2
  repeat (go_quiet (fail); try go_wp2)
  go_loopg [13] k (fun kq v13 w' => ∃ (x13_1 : Int), v13 = .int .i64 x13_1 ∧ Aside0 (slices_Equal_int_int.l0 kq l0 l1 (l0.length : Int) x13_1 = some r) ∧ Aside0 (kq ≤ k) ∧ Drawn0 w w')
  case atStart => exact ⟨(0), zr, H', ⟨Nat.le_refl _⟩, by repeat (first | exact Drawn0.refl _ | apply Drawn0.step)⟩
  case round =>
   clear H'
   try clear c1
   try clear p2
   try clear c3
   try clear c3b0
   try clear c3b1
   try clear c3b2
   obtain ⟨x13_1, rfl, HA, HK1, ⟨m1, rfl⟩⟩ := hrel
   cases gk with
   | zero => exact absurd HA.out (by simp [slices_Equal_int_int.l0])
   | succ k1 =>
    have H := HA.out; clear HA
    simp only [slices_Equal_int_int.l0] at H
    by_cases c4 : x13_1 < (l0.length : Int)
    ·rw [if_pos c4] at H
     have c4b0 := decide_eq_true c4; clear c4
     by_cases c5 : 0 ≤ x13_1
     ·rw [if_pos c5] at H
      have c5b0 := decide_eq_true c5; clear c5
      by_cases c6 : x13_1 < (l0.length : Int)
      ·rw [if_pos c6] at H
       have c6b0 := decide_eq_true c6; clear c6
       by_cases c7 : x13_1 < (l1.length : Int)
       ·rw [if_pos c7] at H
        have c7b0 := decide_eq_true c7; clear c7
        by_cases c8 : (rd l0 x13_1) = (rd l1 x13_1)
        ·rw [if_pos c8] at H
         have c8b0 : ((rd l0 x13_1) == (rd l1 x13_1)) = true := beq_iff_eq.mpr c8
         have c8b1 : ((rd l0 x13_1) != (rd l1 x13_1)) = false := bne_eq_false_iff_eq.mpr c8
         clear c8
         have H' := zm H
         clear H
         have p403 : 0 ≤ (x13_1 : Int) := zd
         have q403 : x13_1 < (l0.length : Int) := zd
         obtain ⟨ad403, e403, hx403_0⟩ := Kd.at_int HR0.out x13_1 p403 q403
         cases e403; replace p403 := eq_true p403; replace q403 := eq_true q403
         have p404 : 0 ≤ (x13_1 : Int) := zd
         have q404 : x13_1 < (l1.length : Int) := zd
         obtain ⟨ad404, e404, hx404_0⟩ := Kd.at_int HR1.out x13_1 p404 q404
         cases e404; replace p404 := eq_true p404; replace q404 := eq_true q404
         go_wp2
         repeat (go_quiet (fail); try go_wp2)
         go_roundg k1
         case measure => have := HK1.out; omega
         case rel => exact ⟨(wrap64 (x13_1 + 1)), zr, H', ⟨by have := HK1.out; omega⟩, by repeat (first | exact Drawn0.refl _ | apply Drawn0.step)⟩
        ·rw [if_neg c8] at H
         have c8b0 : ((rd l0 x13_1) == (rd l1 x13_1)) = false := beq_eq_false_iff_ne.mpr c8
         have c8b1 : ((rd l0 x13_1) != (rd l1 x13_1)) = true := bne_iff_ne.mpr c8
         obtain rfl := Option.some.inj H
         have p403 : 0 ≤ (x13_1 : Int) := zd
         have q403 : x13_1 < (l0.length : Int) := zd
         obtain ⟨ad403, e403, hx403_0⟩ := Kd.at_int HR0.out x13_1 p403 q403
         cases e403; replace p403 := eq_true p403; replace q403 := eq_true q403
         have p404 : 0 ≤ (x13_1 : Int) := zd
         have q404 : x13_1 < (l1.length : Int) := zd
         obtain ⟨ad404, e404, hx404_0⟩ := Kd.at_int HR1.out x13_1 p404 q404
         cases e404; replace p404 := eq_true p404; replace q404 := eq_true q404
         go_wp2
         repeat (go_quiet (fail); try go_wp2)
         go_ret
         exact ⟨zr, by repeat (first | exact Drawn0.refl _ | apply Drawn0.step)⟩
       ·rw [if_neg c7] at H
        exact absurd H (by simp)
      ·rw [if_neg c6] at H
       exact absurd H (by simp)
     ·rw [if_neg c5] at H
      exact absurd H (by simp)
    ·rw [if_neg c4] at H
     have c4b0 := decide_eq_false c4; clear c4; obtain rfl := Option.some.inj H
     go_wp2
     repeat (go_quiet (fail); try go_wp2)
     go_ret
     exact ⟨zr, by repeat (first | exact Drawn0.refl _ | apply Drawn0.step)⟩
 ·rw [if_neg c3] at H
  have c3b0 : ((l0.length : Int) == (l1.length : Int)) = false := beq_eq_false_iff_ne.mpr c3
  have c3b1 : ((l0.length : Int) != (l1.length : Int)) = true := bne_iff_ne.mpr c3
  have c3b2 : (l0.length == l1.length) = false := by first | simpa using c3 | (simp at c3 ⊢; omega)
  obtain rfl := Option.some.inj H
  go_enter Tryz.func37, Tryz.ntmps37
  go_wp2
  repeat (go_quiet (fail); try go_wp2)
  go_ret
  exact ⟨zr, by repeat (first | exact Drawn0.refl _ | apply Drawn0.step)⟩
mutual
def impl_ImageOK.j0 : Nat → Bool → List Int → List Int → List (S103) → List Int → Option (Bool)
  | 0, _, _, _, _, _ => none
  | k + 1, x15, x406000, x406001, x406002, x406003 => if x15 = true then (some false) else (impl_ImageOK.l0 k x406003 (x406003.length : Int) 0 x406000 x406001 x406002 x406003)
def impl_ImageOK.l0 : Nat → List Int → Int → Int → List Int → List Int → List (S103) → List Int → Option (Bool)
  | 0, _, _, _, _, _, _, _ => none
  | k + 1, x17, x18, x19, x406000, x406001, x406002, x406003 => if x19 < x18 then (if 0 ≤ x19 then (if x19 < (x17.length : Int) then (if x19 < (x406000.length : Int) then (if (rd x406000 x19) = 0 then (if (rd x17 x19) = 0 then (impl_ImageOK.l0 k x17 x18 (wrap64 (x19 + 1)) x406000 x406001 x406002 x406003) else (some false)) else (impl_ImageOK.l0 k x17 x18 (wrap64 (x19 + 1)) x406000 x406001 x406002 x406003)) else (none)) else (none)) else (none)) else (some true)
end
def impl_ImageOK.f (k : Nat) (l0_0 : List Int) (l0_1 : List Int) (l0_2 : List (S103)) (l0_3 : List Int) : Option (Bool) := (impl_Image_nearlyOK.f k l0_0 l0_1 l0_2 l0_3).bind fun t406 => (if t406 = true then ((impl_Image_counted.f k l0_0 l0_1 l0_2 l0_3).bind fun t407 => ((slices_Equal_int_int.f k l0_0 t407).bind fun t410 => (impl_ImageOK.j0 k (!t410) l0_0 l0_1 l0_2 l0_3))) else (impl_ImageOK.j0 k true l0_0 l0_1 l0_2 l0_3))
theorem impl_ImageOK.mono_l : ∀ k, (∀ y0 y1 y2 y3 y4, LeO (impl_ImageOK.j0 k y0 y1 y2 y3 y4) (impl_ImageOK.j0 (k + 1) y0 y1 y2 y3 y4)) ∧ (∀ y0 y1 y2 y3 y4 y5 y6, LeO (impl_ImageOK.l0 k y0 y1 y2 y3 y4 y5 y6) (impl_ImageOK.l0 (k + 1) y0 y1 y2 y3 y4 y5 y6))
  | 0 => ⟨fun _ _ _ _ _ r h => by simp [impl_ImageOK.j0] at h, fun _ _ _ _ _ _ _ r h => by simp [impl_ImageOK.l0] at h⟩
  | k + 1 => by
    obtain ⟨ih0, ih1⟩ := impl_ImageOK.mono_l k
    refine ⟨?_, ?_⟩
    · intro y0 y1 y2 y3 y4
      unfold impl_ImageOK.j0
      repeat' first| (with_reducible first | exact ih0 _ _ _ _ _ | exact ih1 _ _ _ _ _ _ _ | exact impl_Image_counted.mono _ _ _ _ _ | exact impl_Image_nearlyOK.mono _ _ _ _ _ | exact slices_Equal_int_int.mono _ _ _ | exact LeO.refl _ | exact LeO.none _ | refine LeO.ite ?_ ?_ | refine LeO.bind ?_ (fun _ => ?_)) | exact ih0 _ _ _ _ _ | exact ih1 _ _ _ _ _ _ _ | exact impl_Image_counted.mono _ _ _ _ _ | exact impl_Image_nearlyOK.mono _ _ _ _ _ | exact slices_Equal_int_int.mono _ _ _ | exact LeO.none _ | refine LeO.ite ?_ ?_ | refine LeO.bind ?_ (fun _ => ?_)
    · intro y0 y1 y2 y3 y4 y5 y6
      unfold impl_ImageOK.l0
      repeat' first| (with_reducible first | exact ih0 _ _ _ _ _ | exact ih1 _ _ _ _ _ _ _ | exact impl_Image_counted.mono _ _ _ _ _ | exact impl_Image_nearlyOK.mono _ _ _ _ _ | exact slices_Equal_int_int.mono _ _ _ | exact LeO.refl _ | exact LeO.none _ | refine LeO.ite ?_ ?_ | refine LeO.bind ?_ (fun _ => ?_)) | exact ih0 _ _ _ _ _ | exact ih1 _ _ _ _ _ _ _ | exact impl_Image_counted.mono _ _ _ _ _ | exact impl_Image_nearlyOK.mono _ _ _ _ _ | exact slices_Equal_int_int.mono _ _ _ | exact LeO.none _ | refine LeO.ite ?_ ?_ | refine LeO.bind ?_ (fun _ => ?_)
theorem impl_ImageOK.mono : ∀ a0 a1 a2 a3 k, LeO (impl_ImageOK.f k a0 a1 a2 a3) (impl_ImageOK.f (k + 1) a0 a1 a2 a3) := by
  intro a0 a1 a2 a3 k
  obtain ⟨ih0, ih1⟩ := impl_ImageOK.mono_l k
  unfold impl_ImageOK.f
  repeat' first| (with_reducible first | exact ih0 _ _ _ _ _ | exact ih1 _ _ _ _ _ _ _ | exact impl_Image_counted.mono _ _ _ _ _ | exact impl_Image_nearlyOK.mono _ _ _ _ _ | exact slices_Equal_int_int.mono _ _ _ | exact LeO.refl _ | exact LeO.none _ | refine LeO.ite ?_ ?_ | refine LeO.bind ?_ (fun _ => ?_)) | exact ih0 _ _ _ _ _ | exact ih1 _ _ _ _ _ _ _ | exact impl_Image_counted.mono _ _ _ _ _ | exact impl_Image_nearlyOK.mono _ _ _ _ _ | exact slices_Equal_int_int.mono _ _ _ | exact LeO.none _ | refine LeO.ite ?_ ?_ | refine LeO.bind ?_ (fun _ => ?_)
def impl_ImageOK.T1 : Bool × List (List Nat × List Nat) := (true, [([], []), ([0], [0]), ([1], [1]), ([2, 1], [2]), ([3], [3]), ([4, 3], [3, 4]), ([3], [3]), ([6, 3, 3], [3, 6]), ([5, 7, 7, 3], [3, 5, 7]), ([8, 3], [3, 8]), ([3, 9], [3, 9])])
def impl_ImageOK.B1 : List Nat := [0, 1, 3, 7, 15, 31, 15, 79, 255, 511, 1023]
theorem impl_ImageOK.tab1 : rtab .any (opsOf Tryz.f13 1) = impl_ImageOK.T1 := by kernel_rfl
theorem impl_ImageOK.bits1 : waitsOk impl_ImageOK.T1.2 impl_ImageOK.B1 = true := by kernel_rfl
set_option maxHeartbeats 8000000 in
set_option maxRecDepth 100000 in
theorem impl_ImageOK.calls (k : Nat) (A0_0 : Option Addr) (c0_0 : Nat) (l0_0 : List Int) (A0_1 : Option Addr) (c0_1 : Nat) (l0_1 : List Int) (A0_2 : Option Addr) (c0_2 : Nat) (l0_2 : List (S103)) (A0_3 : Option Addr) (c0_3 : Nat) (l0_3 : List Int) (r : Bool) (w : World) (hr0_0 : Kd.C (Kd.int .i64) w A0_0 l0_0.length l0_0) (hc0_0 : l0_0.length ≤ c0_0) (hr0_1 : Kd.C (Kd.int .i64) w A0_1 l0_1.length l0_1) (hc0_1 : l0_1.length ≤ c0_1) (hr0_2 : Kd.C k103 w A0_2 l0_2.length l0_2) (hc0_2 : l0_2.length ≤ c0_2) (hr0_3 : Kd.C (Kd.int .i64) w A0_3 l0_3.length l0_3) (hc0_3 : l0_3.length ≤ c0_3) (h : impl_ImageOK.f k l0_0 l0_1 l0_2 l0_3 = some r) :
    Calls Tryz.prog 13 #[.agg #[.slice A0_0 l0_0.length c0_0, .slice A0_1 l0_1.length c0_1, .slice A0_2 l0_2.length c0_2, .slice A0_3 l0_3.length c0_3]] w fun e w' => e = .returned (.bool r) ∧ Below w.heap.size w w' := by
 have hu26 := Tryz.underlying26; have Zc := zm hr0_0; have Ze := zm hc0_0; clear hr0_0 hc0_0; have Zf := zm hr0_1; have Zg := zm hc0_1; clear hr0_1 hc0_1; have Zh := zm hr0_2; have Zi := zm hc0_2; clear hr0_2 hc0_2; have Zd := zm hr0_3; have Zj := zm hc0_3; clear hr0_3 hc0_3; have HB := zm (Below.refl w.heap.size w); have H := h
 unfold impl_ImageOK.f at H
 clear h; have HC2 := zm H; clear H
 go_enter Tryz.func13, Tryz.ntmps13
 go_upto_region 1 with (first | ((with_reducible refine gate_dst (N := 1) rfl ?_); refine box_event ?hg (N := 1) ?hd (cs := #[.slice A0_0 l0_0.length c0_0, .slice A0_1 l0_1.length c0_1, .slice A0_2 l0_2.length c0_2, .slice A0_3 l0_3.length c0_3]) (t := 26) ?hr ?_; (case hd => rfl); (case hg => rfl); (case hr => first | (go_simp; done) | (go_simp; rfl)); intro gb405 hg w3 hbox hb; have n0_ := zm (below_step (zg_1 HB.out) hb); have n1_ := zm (hbox); have n2_ := zm ((by rw [hg]; exact (below_size (zg_1 HB.out)) : w.heap.size ≤ gb405)); have n3_ := zm ((by rw [hg]; exact (below_size (zg_1 HB.out)) : w.heap.size ≤ gb405)); replace HB := n0_; have Za := n1_; have Zl := n2_; have Zb := n3_; clear n0_ n1_ n2_ n3_; clear hb hbox hg))
 (try simp only [Act.put, zs, zz, zt])
 go_cut [15] (fun v15 wc => ∃ (kq : Nat) (x15_1 : Bool), v15 = .bool x15_1 ∧ Aside0 (impl_ImageOK.j0 kq x15_1 l0_0 l0_1 l0_2 l0_3 = some r) ∧ Aside0 (kq ≤ k) ∧ Aside0 (wc.heap[gb405]? = some (.cells #[(.slice A0_0 l0_0.length c0_0), (.slice A0_1 l0_1.length c0_1), (.slice A0_2 l0_2.length c0_2), (.slice A0_3 l0_3.length c0_3)] 26 (0, 0))) ∧ Aside0 (Below w.heap.size w wc))
 case first =>
  have H := HC2.out; clear HC2; replace H := Option.bind_eq_some_iff.mp H
  obtain ⟨t406, A40, H⟩ := H
  try dsimp only at H
  have A4 := zm A40; clear A40
  by_cases c5 : t406 = true
  ·subst c5
   replace H : ((impl_Image_counted.f k l0_0 l0_1 l0_2 l0_3).bind fun t407 => ((slices_Equal_int_int.f k l0_0 t407).bind fun t410 => (impl_ImageOK.j0 k (!t410) l0_0 l0_1 l0_2 l0_3))) = some r := by rw [if_pos rfl] at H; exact H
   replace H := Option.bind_eq_some_iff.mp H
   obtain ⟨t407, A60, H⟩ := H
   try dsimp only at H
   have A6 := zm A60; clear A60; replace H := Option.bind_eq_some_iff.mp H
   obtain ⟨t410, A70, H⟩ := H
   try dsimp only at H
   have A7 := zm A70; clear A70
   have H' := zm H
   clear H
   try go_wp2
   have n0_ := zm (blk_drew Za.out); have n1_ := zm (below_drew1 HB.out); clear Za; clear HB; have Za := n0_; have HB := n1_; clear n0_ n1_
   refine start_ (n := 11) (S := fun w' => w'.cell? ⟨gb405, 0, none⟩ = some (.slice A0_0 l0_0.length c0_0) ∧ w'.cell? ⟨gb405, 1, none⟩ = some (.slice A0_1 l0_1.length c0_1) ∧ w'.cell? ⟨gb405, 2, none⟩ = some (.slice A0_2 l0_2.length c0_2) ∧ w'.cell? ⟨gb405, 3, none⟩ = some (.slice A0_3 l0_3.length c0_3)) (ds := []) #[false, false, false, false, false, false, false, false, false, false, false] (by kernel_rfl) rfl rfl ⟨(blk_cell Za.out 0).trans rfl, (blk_cell Za.out 1).trans rfl, (blk_cell Za.out 2).trans rfl, (blk_cell Za.out 3).trans rfl⟩ (fun hHeld => ?_); refine with_tabW impl_ImageOK.tab1 impl_ImageOK.bits1 (fun HT_ HW_ => ?_)
   generalize w3.drew = w8 at Za HB hHeld ⊢
   refine take_ (i := 0) (N := some 5) (v := ?_) (a' := ?_) #[true, false, false, false, false, false, false, false, false, false, false] rfl rfl (take_ofW HT_.out HW_.out (by kernel_rfl)) (fun _ _ _ h => h) (Or.inl ⟨by rfl, ?_⟩) hHeld ?_ ?_
   rotate_left
   ·rintro w' ⟨s0, s1, s2, s3⟩
    go_simp
    with_reducible rfl
   rotate_left
   ·simp only [Act.put, zs, zz, zt, i64_w, i32_w]
    rfl
   refine one_ (i := 1) (N := some 6) #[true, true, false, false, false, false, false, false, false, false, false] rfl rfl (one_of HT_.out (by kernel_rfl)) (by decide) (fun K hK => ?_)
   refine goes_ Tryz.func34 (by kernel_rfl) rfl #[.agg #[.slice A0_0 l0_0.length c0_0, .slice A0_1 l0_1.length c0_1, .slice A0_2 l0_2.length c0_2, .slice A0_3 l0_3.length c0_3]] (by rfl) rfl rfl zq ?_
   with_reducible refine (impl_Image_nearlyOK.calls k _ _ l0_0 _ _ l0_1 _ _ l0_2 _ _ l0_3 true _ ?side1 ?side2 ?side3 ?side4 ?side5 ?side6 ?side7 ?side8 A4.out).mono ?_
   (case side1 => exact zC (Kd.C_below Zc.out HB.out))
   (case side2 => exact Ze.out)
   (case side3 => exact zC (Kd.C_below Zf.out HB.out))
   (case side4 => exact Zg.out)
   (case side5 => exact zC (Kd.C_below Zh.out HB.out))
   (case side6 => exact Zi.out)
   (case side7 => exact zC (Kd.C_below Zd.out HB.out))
   (case side8 => exact Zj.out)
   rintro e w9 ⟨rfl, hb⟩
   refine ⟨_, rfl, ?_⟩
   have n0_ := zm (blk_below (zg_3 Za.out) hb); have n1_ := zm (below_step (zg_2 HB.out Zb.out) hb); clear Za; clear HB; have Za := n0_; have HB := n1_; clear n0_ n1_
   (try clear hb)
   (try clear hb2)
   (try clear hk)
   (try clear hi)
   refine hK.out _ _ ⟨(blk_cell Za.out 0).trans rfl, (blk_cell Za.out 1).trans rfl, (blk_cell Za.out 2).trans rfl, (blk_cell Za.out 3).trans rfl⟩ (fun hHeld => ?_)
   clear hK K
   refine norm_ (a' := ?_) ?_ ?_
   rotate_left
   ·show Act.put _ (some 6) _ = _
    simp only [Act.put, zs, zz, zt, i64_w, i32_w]
    rfl
   refine pure_ (i := 2) (N := some 7) (v := ?_) (a' := ?_) #[true, true, true, false, false, false, false, false, false, false, false] rfl rfl (any_of HT_.out (by kernel_rfl)) (fun _ _ _ h => h) (Or.inl ⟨by rfl, ?_⟩) ?_ ?_
   rotate_left
   ·intro w'
    go_simp
    with_reducible rfl
   rotate_left
   ·simp only [Act.put, zs, zz, zt, i64_w, i32_w]
    rfl
   refine pure_ (i := 3) (N := some 8) (v := ?_) (a' := ?_) #[true, true, true, true, false, false, false, false, false, false, false] rfl rfl (any_of HT_.out (by kernel_rfl)) (fun _ _ _ h => h) (Or.inl ⟨by rfl, ?_⟩) ?_ ?_
   rotate_left
   ·intro w'
    go_simp
    with_reducible rfl
   rotate_left
   ·simp only [Act.put, zs, zz, zt, i64_w, i32_w]
    rfl
   refine pure_ (i := 4) (N := some 9) (v := ?_) (a' := ?_) #[true, true, true, true, true, false, false, false, false, false, false] rfl rfl (any_of HT_.out (by kernel_rfl)) (fun _ _ _ h => h) (Or.inl ⟨by rfl, ?_⟩) ?_ ?_
   rotate_left
   ·intro w'
    go_simp
    with_reducible rfl
   rotate_left
   ·simp only [Act.put, zs, zz, zt, i64_w, i32_w]
    rfl
   refine take_ (i := 5) (N := some 10) (v := ?_) (a' := ?_) #[true, true, true, true, true, true, false, false, false, false, false] rfl rfl (take_ofW HT_.out HW_.out (by kernel_rfl)) (fun _ _ _ h => h) (Or.inl ⟨by rfl, ?_⟩) hHeld ?_ ?_
   rotate_left
   ·rintro w' ⟨s0, s1, s2, s3⟩
    go_simp
    with_reducible rfl
   rotate_left
   ·simp only [Act.put, zs, zz, zt, i64_w, i32_w]
    rfl
   refine take_ (i := 6) (N := some 11) (v := ?_) (a' := ?_) #[true, true, true, true, true, true, true, false, false, false, false] rfl rfl (take_ofW HT_.out HW_.out (by kernel_rfl)) (fun _ _ _ h => h) (Or.inl ⟨by rfl, ?_⟩) hHeld ?_ ?_
   rotate_left
   ·rintro w' ⟨s0, s1, s2, s3⟩
    go_simp
    with_reducible rfl
   rotate_left
   ·simp only [Act.put, zs, zz, zt, i64_w, i32_w]
    rfl
   refine one_ (i := 7) (N := some 12) #[true, true, true, true, true, true, true, true, false, false, false] rfl rfl (one_of HT_.out (by kernel_rfl)) (by decide) (fun K hK => ?_)
   refine goes_ Tryz.func35 (by kernel_rfl) rfl #[.agg #[.slice A0_0 l0_0.length c0_0, .slice A0_1 l0_1.length c0_1, .slice A0_2 l0_2.length c0_2, .slice A0_3 l0_3.length c0_3]] (by rfl) rfl rfl zq ?_
   with_reducible refine (impl_Image_counted.calls k _ _ l0_0 _ _ l0_1 _ _ l0_2 _ _ l0_3 t407 _ ?side1 ?side2 ?side3 ?side4 ?side5 ?side6 ?side7 ?side8 A6.out).mono ?_
   (case side1 => exact zC (Kd.C_below Zc.out HB.out))
   (case side2 => exact Ze.out)
   (case side3 => exact zC (Kd.C_below Zf.out HB.out))
   (case side4 => exact Zg.out)
   (case side5 => exact zC (Kd.C_below Zh.out HB.out))
   (case side6 => exact Zi.out)
   (case side7 => exact zC (Kd.C_below Zd.out HB.out))
   (case side8 => exact Zj.out)
   rintro e w10 ⟨v408, rfl, ho0, hb⟩
   refine ⟨_, rfl, ?_⟩
   have n0_ := zm (Kd.R_lower ho0 (below_size (zg_2 HB.out Zb.out))); have n1_ := zm (blk_below (zg_3 Za.out) hb); have n2_ := zm (below_step (zg_2 HB.out Zb.out) hb); clear Za; clear HB; have Zk := n0_; have Za := n1_; have HB := n2_; clear n0_ n1_ n2_
   (try clear hb)
   (try clear hb2)
   (try clear hk)
   (try clear hi)
   (try clear ho0)
   obtain ⟨Ao11, co11, eo11⟩ := Kd.R_slice Zk.out
   (first | subst eo11 | (injection eo11 with f1_ f2_ f3_; have f4_ := f1_.symm; have f5_ := f3_.symm; clear f1_ f2_ f3_; subst f4_; subst f5_))
   refine hK.out _ _ ⟨(blk_cell Za.out 0).trans rfl, (blk_cell Za.out 1).trans rfl, (blk_cell Za.out 2).trans rfl, (blk_cell Za.out 3).trans rfl⟩ (fun hHeld => ?_)
   clear hK K
   refine norm_ (a' := ?_) ?_ ?_
   rotate_left
   ·show Act.put _ (some 12) _ = _
    simp only [Act.put, zs, zz, zt, i64_w, i32_w]
    rfl
   refine one_ (i := 8) (N := some 13) #[true, true, true, true, true, true, true, true, true, false, false] rfl rfl (one_of HT_.out (by kernel_rfl)) (by decide) (fun K hK => ?_)
   refine goes_ Tryz.func37 (by kernel_rfl) rfl #[.slice A0_0 l0_0.length c0_0, .slice Ao11 t407.length co11] (by rfl) rfl rfl zq ?_
   with_reducible refine (slices_Equal_int_int.calls k _ _ l0_0 _ _ t407 t410 _ ?side1 ?side2 ?side3 ?side4 A7.out).mono ?_
   (case side1 => exact zC (Kd.C_below Zc.out HB.out))
   (case side2 => exact Ze.out)
   (case side3 => exact zC ((Kd.R_reads' Zk.out).2.2))
   (case side4 => exact (Kd.R_reads' Zk.out).2.1)
   rintro e w' ⟨rfl, ⟨nd, rfl⟩⟩
   refine ⟨_, rfl, ?_⟩
   refine hK.out _ _ ⟨(blk_cell Za.out 0).trans rfl, (blk_cell Za.out 1).trans rfl, (blk_cell Za.out 2).trans rfl, (blk_cell Za.out 3).trans rfl⟩ (fun hHeld => ?_)
   clear hK K
   refine norm_ (a' := ?_) ?_ ?_
   rotate_left
   ·show Act.put _ (some 13) _ = _
    simp only [Act.put, zs, zz, zt, i64_w, i32_w]
    rfl
   refine pure_ (i := 9) (N := some 14) (v := ?_) (a' := ?_) #[true, true, true, true, true, true, true, true, true, true, false] rfl rfl (any_of HT_.out (by kernel_rfl)) (fun _ _ _ h => h) (Or.inl ⟨by rfl, ?_⟩) ?_ ?_
   rotate_left
   ·intro w'
    go_simp
    with_reducible rfl
   rotate_left
   ·simp only [Act.put, zs, zz, zt, i64_w, i32_w]
    rfl
   refine pure_ (i := 10) (N := some 15) (v := ?_) (a' := ?_) #[true, true, true, true, true, true, true, true, true, true, true] rfl rfl (any_of HT_.out (by kernel_rfl)) (fun _ _ _ h => h) (Or.inl ⟨by rfl, ?_⟩) ?_ ?_
   rotate_left
   ·intro w'
    go_simp
    with_reducible rfl
   rotate_left
   ·simp only [Act.put, zs, zz, zt, i64_w, i32_w]
    rfl
   refine done_ (done_of HT_.out (by kernel_rfl)) ?_
   try go_wp2
   go_meet
   case rel => exact ⟨_, (!t410), zr, H', ⟨by first | omega | exact Nat.le_refl _⟩, ⟨zl Za.out⟩, ⟨zg_2 HB.out Zb.out⟩⟩
  ·replace c5 := Bool.eq_false_iff.mpr c5
   subst c5
   replace H : (impl_ImageOK.j0 k true l0_0 l0_1 l0_2 l0_3) = some r := by rw [if_neg (show ¬ (false = true) by decide)] at H; exact H
   have H' := zm H
   clear H
   try go_wp2
   have n0_ := zm (blk_drew Za.out); have n1_ := zm (below_drew1 HB.out); clear Za; clear HB; have Za := n0_; have HB := n1_; clear n0_ n1_
   refine start_ (n := 11) (S := fun w' => w'.cell? ⟨gb405, 0, none⟩ = some (.slice A0_0 l0_0.length c0_0) ∧ w'.cell? ⟨gb405, 1, none⟩ = some (.slice A0_1 l0_1.length c0_1) ∧ w'.cell? ⟨gb405, 2, none⟩ = some (.slice A0_2 l0_2.length c0_2) ∧ w'.cell? ⟨gb405, 3, none⟩ = some (.slice A0_3 l0_3.length c0_3)) (ds := []) #[false, false, false, false, false, false, false, false, false, false, false] (by kernel_rfl) rfl rfl ⟨(blk_cell Za.out 0).trans rfl, (blk_cell Za.out 1).trans rfl, (blk_cell Za.out 2).trans rfl, (blk_cell Za.out 3).trans rfl⟩ (fun hHeld => ?_); refine with_tabW impl_ImageOK.tab1 impl_ImageOK.bits1 (fun HT_ HW_ => ?_)
   generalize w3.drew = w12 at Za HB hHeld ⊢
   refine take_ (i := 0) (N := some 5) (v := ?_) (a' := ?_) #[true, false, false, false, false, false, false, false, false, false, false] rfl rfl (take_ofW HT_.out HW_.out (by kernel_rfl)) (fun _ _ _ h => h) (Or.inl ⟨by rfl, ?_⟩) hHeld ?_ ?_
   rotate_left
   ·rintro w' ⟨s0, s1, s2, s3⟩
    go_simp
    with_reducible rfl
   rotate_left
   ·simp only [Act.put, zs, zz, zt, i64_w, i32_w]
    rfl
   refine one_ (i := 1) (N := some 6) #[true, true, false, false, false, false, false, false, false, false, false] rfl rfl (one_of HT_.out (by kernel_rfl)) (by decide) (fun K hK => ?_)
   refine goes_ Tryz.func34 (by kernel_rfl) rfl #[.agg #[.slice A0_0 l0_0.length c0_0, .slice A0_1 l0_1.length c0_1, .slice A0_2 l0_2.length c0_2, .slice A0_3 l0_3.length c0_3]] (by rfl) rfl rfl zq ?_
   with_reducible refine (impl_Image_nearlyOK.calls k _ _ l0_0 _ _ l0_1 _ _ l0_2 _ _ l0_3 false _ ?side1 ?side2 ?side3 ?side4 ?side5 ?side6 ?side7 ?side8 A4.out).mono ?_
   (case side1 => exact zC (Kd.C_below Zc.out HB.out))
   (case side2 => exact Ze.out)
   (case side3 => exact zC (Kd.C_below Zf.out HB.out))
   (case side4 => exact Zg.out)
   (case side5 => exact zC (Kd.C_below Zh.out HB.out))
   (case side6 => exact Zi.out)
   (case side7 => exact zC (Kd.C_below Zd.out HB.out))
   (case side8 => exact Zj.out)
   rintro e w13 ⟨rfl, hb⟩
   refine ⟨_, rfl, ?_⟩
   have n0_ := zm (blk_below (zg_3 Za.out) hb); have n1_ := zm (below_step (zg_2 HB.out Zb.out) hb); clear Za; clear HB; have Za := n0_; have HB := n1_; clear n0_ n1_
   (try clear hb)
   (try clear hb2)
   (try clear hk)
   (try clear hi)
   refine hK.out _ _ ⟨(blk_cell Za.out 0).trans rfl, (blk_cell Za.out 1).trans rfl, (blk_cell Za.out 2).trans rfl, (blk_cell Za.out 3).trans rfl⟩ (fun hHeld => ?_)
   clear hK K
   refine norm_ (a' := ?_) ?_ ?_
   rotate_left
   ·show Act.put _ (some 6) _ = _
    simp only [Act.put, zs, zz, zt, i64_w, i32_w]
    rfl
   refine pure_ (i := 2) (N := some 7) (v := ?_) (a' := ?_) #[true, true, true, false, false, false, false, false, false, false, false] rfl rfl (any_of HT_.out (by kernel_rfl)) (fun _ _ _ h => h) (Or.inl ⟨by rfl, ?_⟩) ?_ ?_
   rotate_left
   ·intro w'
    go_simp
    with_reducible rfl
   rotate_left
   ·simp only [Act.put, zs, zz, zt, i64_w, i32_w]
    rfl
   refine pure_ (i := 3) (N := some 8) (v := ?_) (a' := ?_) #[true, true, true, true, false, false, false, false, false, false, false] rfl rfl (any_of HT_.out (by kernel_rfl)) (fun _ _ _ h => h) (Or.inl ⟨by rfl, ?_⟩) ?_ ?_
   rotate_left
   ·intro w'
    go_simp
    with_reducible rfl
   rotate_left
   ·simp only [Act.put, zs, zz, zt, i64_w, i32_w]
    rfl
   refine pure_ (i := 4) (N := some 9) (v := undef) (a' := ?_) #[true, true, true, true, true, false, false, false, false, false, false] rfl rfl (any_of HT_.out (by kernel_rfl)) (fun _ _ _ h => h) (Or.inr ⟨by rfl, rfl⟩) ?_ ?_
   rotate_left
   ·simp only [Act.put, zs, zz, zt, i64_w, i32_w]
    rfl
   refine pure_ (i := 5) (N := some 10) (v := undef) (a' := ?_) #[true, true, true, true, true, true, false, false, false, false, false] rfl rfl (any_of HT_.out (by kernel_rfl)) (fun _ _ _ h => h) (Or.inr ⟨by rfl, rfl⟩) ?_ ?_
   rotate_left
   ·simp only [Act.put, zs, zz, zt, i64_w, i32_w]
    rfl
   refine pure_ (i := 6) (N := some 11) (v := undef) (a' := ?_) #[true, true, true, true, true, true, true, false, false, false, false] rfl rfl (any_of HT_.out (by kernel_rfl)) (fun _ _ _ h => h) (Or.inr ⟨by rfl, rfl⟩) ?_ ?_
   rotate_left
   ·simp only [Act.put, zs, zz, zt, i64_w, i32_w]
    rfl
   refine pure_ (i := 7) (N := some 12) (v := undef) (a' := ?_) #[true, true, true, true, true, true, true, true, false, false, false] rfl rfl (any_of HT_.out (by kernel_rfl)) (fun _ _ _ h => h) (Or.inr ⟨by rfl, rfl⟩) ?_ ?_
   rotate_left
   ·simp only [Act.put, zs, zz, zt, i64_w, i32_w]
    rfl
   refine pure_ (i := 8) (N := some 13) (v := undef) (a' := ?_) #[true, true, true, true, true, true, true, true, true, false, false] rfl rfl (any_of HT_.out (by kernel_rfl)) (fun _ _ _ h => h) (Or.inr ⟨by rfl, rfl⟩) ?_ ?_
   rotate_left
   ·simp only [Act.put, zs, zz, zt, i64_w, i32_w]
    rfl
   refine pure_ (i := 9) (N := some 14) (v := undef) (a' := ?_) #[true, true, true, true, true, true, true, true, true, true, false] rfl rfl (any_of HT_.out (by kernel_rfl)) (fun _ _ _ h => h) (Or.inr ⟨by rfl, rfl⟩) ?_ ?_
   rotate_left
   ·simp only [Act.put, zs, zz, zt, i64_w, i32_w]
    rfl
   refine pure_ (i := 10) (N := some 15) (v := ?_) (a' := ?_) #[true, true, true, true, true, true, true, true, true, true, true] rfl rfl (any_of HT_.out (by kernel_rfl)) (fun _ _ _ h => h) (Or.inl ⟨by rfl, ?_⟩) ?_ ?_
   rotate_left
   ·intro w'
    go_simp
    with_reducible rfl
   rotate_left
   ·simp only [Act.put, zs, zz, zt, i64_w, i32_w]
    rfl
   refine done_ (done_of HT_.out (by kernel_rfl)) ?_
   try go_wp2
   go_meet
   case rel => exact ⟨_, (true), zr, H', ⟨by first | omega | exact Nat.le_refl _⟩, ⟨zl Za.out⟩, ⟨zg_2 HB.out Zb.out⟩⟩
 case rest =>
  clear HC2
  try clear c1
  try clear p2
  try clear c3
  try clear c5
  try clear c13
  obtain ⟨kq, x15_1, rfl, HA, HJ1, Za, HB⟩ := hcut
  cases kq with
  | zero => exact absurd HA.out (by simp [impl_ImageOK.j0])
  | succ kj1 =>
   have H := HA.out; clear HA
   simp only [impl_ImageOK.j0] at H
   by_cases c14 : x15_1 = true
   ·subst c14
    replace H : (some false) = some r := by rw [if_pos rfl] at H; exact H
    obtain rfl := Option.some.inj H
    go_wp2
    go_ret
    exact ⟨ze, zg_2 HB.out Zb.out⟩
   ·replace c14 := Bool.eq_false_iff.mpr c14
    subst c14
    replace H : (impl_ImageOK.l0 kj1 l0_3 (l0_3.length : Int) 0 l0_0 l0_1 l0_2 l0_3) = some r := by rw [if_neg (show ¬ (false = true) by decide)] at H; exact H
    have H' := zm H
    clear H
    obtain ⟨hcz15_0, hcz15_1, hcz15_2, hcz15_3, hfz15_0, hfz15_1, hfz15_2, hfz15_3⟩ := zb4 Za.out
    go_wp2
    go_loopg [19] kj1 (fun kq v19 w' => ∃ (x19_2 : Int), v19 = .int .i64 x19_2 ∧ Aside0 (impl_ImageOK.l0 kq l0_3 (l0_3.length : Int) x19_2 l0_0 l0_1 l0_2 l0_3 = some r) ∧ Aside0 (kq ≤ kj1) ∧ Aside0 (w'.heap[gb405]? = some (.cells #[(.slice A0_0 l0_0.length c0_0), (.slice A0_1 l0_1.length c0_1), (.slice A0_2 l0_2.length c0_2), (.slice A0_3 l0_3.length c0_3)] 26 (0, 0))) ∧ Aside0 (Below w.heap.size w w'))
    case atStart => exact ⟨(0), zr, H', ⟨Nat.le_refl _⟩, ⟨zl Za.out⟩, ⟨zg_2 HB.out Zb.out⟩⟩
    case round =>
     clear H'
     try clear c1
     try clear p2
     try clear c3
     try clear c5
     try clear c13
     try clear c14
     try clear p2
     obtain ⟨x19_2, rfl, HA, HK2, Za, HB⟩ := hrel
     cases gk with
     | zero => exact absurd HA.out (by simp [impl_ImageOK.l0])
     | succ k2 =>
      have H := HA.out; clear HA
      simp only [impl_ImageOK.l0] at H
      by_cases c16 : x19_2 < (l0_3.length : Int)
      ·rw [if_pos c16] at H
       have c16b0 := decide_eq_true c16; clear c16
       by_cases c17 : 0 ≤ x19_2
       ·rw [if_pos c17] at H
        have c17b0 := decide_eq_true c17; clear c17
        by_cases c18 : x19_2 < (l0_3.length : Int)
        ·rw [if_pos c18] at H
         have c18b0 := decide_eq_true c18; clear c18
         by_cases c19 : x19_2 < (l0_0.length : Int)
         ·rw [if_pos c19] at H
          have c19b0 := decide_eq_true c19; clear c19
          by_cases c20 : (rd l0_0 x19_2) = 0
          ·rw [if_pos c20] at H
           have c20b0 : ((rd l0_0 x19_2) == 0) = true := beq_iff_eq.mpr c20
           have c20b1 : ((rd l0_0 x19_2) != 0) = false := bne_eq_false_iff_eq.mpr c20
           clear c20
           by_cases c21 : (rd l0_3 x19_2) = 0
           ·rw [if_pos c21] at H
            have c21b0 : ((rd l0_3 x19_2) == 0) = true := beq_iff_eq.mpr c21
            have c21b1 : ((rd l0_3 x19_2) != 0) = false := bne_eq_false_iff_eq.mpr c21
            clear c21
            have H' := zm H
            clear H
            have p411 : 0 ≤ (x19_2 : Int) := zd
            have q411 : x19_2 < (l0_3.length : Int) := zd
            obtain ⟨ad411, e411, hx411_0⟩ := Kd.at_int Zd.out x19_2 p411 q411
            cases e411; replace hx411_0 := (HB.out.cell (World.block_lt_of_cell? w _ hx411_0)).trans hx411_0; replace p411 := eq_true p411; replace q411 := eq_true q411
            obtain ⟨hcz22_0, hcz22_1, hcz22_2, hcz22_3, hfz22_0, hfz22_1, hfz22_2, hfz22_3⟩ := zb4 Za.out
            have p412 : 0 ≤ (x19_2 : Int) := zd
            have q412 : x19_2 < (l0_0.length : Int) := zd
            obtain ⟨ad412, e412, hx412_0⟩ := Kd.at_int Zc.out x19_2 p412 q412
            cases e412; replace hx412_0 := (HB.out.cell (World.block_lt_of_cell? w _ hx412_0)).trans hx412_0; replace p412 := eq_true p412; replace q412 := eq_true q412
            go_wp2
            go_roundg k2
            case measure => have := HJ1.out; have := HK2.out; omega
            case rel => exact ⟨(wrap64 (x19_2 + 1)), zr, H', ⟨by have := HJ1.out; have := HK2.out; omega⟩, ⟨zl Za.out⟩, ⟨zg_2 HB.out Zb.out⟩⟩
           ·rw [if_neg c21] at H
            have c21b0 : ((rd l0_3 x19_2) == 0) = false := beq_eq_false_iff_ne.mpr c21
            have c21b1 : ((rd l0_3 x19_2) != 0) = true := bne_iff_ne.mpr c21
            obtain rfl := Option.some.inj H
            have p411 : 0 ≤ (x19_2 : Int) := zd
            have q411 : x19_2 < (l0_3.length : Int) := zd
            obtain ⟨ad411, e411, hx411_0⟩ := Kd.at_int Zd.out x19_2 p411 q411
            cases e411; replace hx411_0 := (HB.out.cell (World.block_lt_of_cell? w _ hx411_0)).trans hx411_0; replace p411 := eq_true p411; replace q411 := eq_true q411
            obtain ⟨hcz23_0, hcz23_1, hcz23_2, hcz23_3, hfz23_0, hfz23_1, hfz23_2, hfz23_3⟩ := zb4 Za.out
            have p412 : 0 ≤ (x19_2 : Int) := zd
            have q412 : x19_2 < (l0_0.length : Int) := zd
            obtain ⟨ad412, e412, hx412_0⟩ := Kd.at_int Zc.out x19_2 p412 q412
            cases e412; replace hx412_0 := (HB.out.cell (World.block_lt_of_cell? w _ hx412_0)).trans hx412_0; replace p412 := eq_true p412; replace q412 := eq_true q412
            go_wp2
            go_ret
            exact ⟨ze, zg_2 HB.out Zb.out⟩
          ·rw [if_neg c20] at H
           have c20b0 : ((rd l0_0 x19_2) == 0) = false := beq_eq_false_iff_ne.mpr c20
           have c20b1 : ((rd l0_0 x19_2) != 0) = true := bne_iff_ne.mpr c20
           have H' := zm H
           clear H
           have p411 : 0 ≤ (x19_2 : Int) := zd
           have q411 : x19_2 < (l0_3.length : Int) := zd
           obtain ⟨ad411, e411, hx411_0⟩ := Kd.at_int Zd.out x19_2 p411 q411
           cases e411; replace hx411_0 := (HB.out.cell (World.block_lt_of_cell? w _ hx411_0)).trans hx411_0; replace p411 := eq_true p411; replace q411 := eq_true q411
           obtain ⟨hcz24_0, hcz24_1, hcz24_2, hcz24_3, hfz24_0, hfz24_1, hfz24_2, hfz24_3⟩ := zb4 Za.out
           have p412 : 0 ≤ (x19_2 : Int) := zd
           have q412 : x19_2 < (l0_0.length : Int) := zd
           obtain ⟨ad412, e412, hx412_0⟩ := Kd.at_int Zc.out x19_2 p412 q412
           cases e412; replace hx412_0 := (HB.out.cell (World.block_lt_of_cell? w _ hx412_0)).trans hx412_0; replace p412 := eq_true p412; replace q412 := eq_true q412
           go_wp2
           go_roundg k2
           case measure => have := HJ1.out; have := HK2.out; omega
           case rel => exact ⟨(wrap64 (x19_2 + 1)), zr, H', ⟨by have := HJ1.out; have := HK2.out; omega⟩, ⟨zl Za.out⟩, ⟨zg_2 HB.out Zb.out⟩⟩
         ·rw [if_neg c19] at H
          exact absurd H (by simp)
        ·rw [if_neg c18] at H
         exact absurd H (by simp)
       ·rw [if_neg c17] at H
        exact absurd H (by simp)
      ·rw [if_neg c16] at H
       have c16b0 := decide_eq_false c16; clear c16; obtain rfl := Option.some.inj H
       go_wp2
       go_ret
       exact ⟨ze, zg_2 HB.out Zb.out⟩

-- NOT PRINTED: function 3 (laws_FnCheck)
def impl_packName.l0 : Nat → ByteArray → Int → Int → Int → Option (Int)
  | 0, _, _, _, _ => none
  | k + 1, x0, x3, x6, x7 => if x7 < x6 then (if 0 ≤ x7 then (if x7 < (x0.size : Int) then (impl_packName.l0 k x0 (wrap64 ((wrap64 ((wrap64 (27 * x3)) + (((bt x0 x7) - 97) % 256))) + 1)) x6 (wrap64 (x7 + 1))) else (none)) else (none)) else (some x3)
def impl_packName.f (k : Nat) (a0 : ByteArray) : Option (Int) := impl_packName.l0 k a0 0 (a0.size : Int) 0
theorem impl_packName.mono_l : ∀ k, (∀ y0 y1 y2 y3, LeO (impl_packName.l0 k y0 y1 y2 y3) (impl_packName.l0 (k + 1) y0 y1 y2 y3))
  | 0 => fun _ _ _ _ r h => by simp [impl_packName.l0] at h
  | k + 1 => by
    have ih0 := impl_packName.mono_l k
    · intro y0 y1 y2 y3
      unfold impl_packName.l0
      repeat' first| (with_reducible first | exact ih0 _ _ _ _ | exact LeO.refl _ | exact LeO.none _ | refine LeO.ite ?_ ?_ | refine LeO.bind ?_ (fun _ => ?_)) | exact ih0 _ _ _ _ | exact LeO.none _ | refine LeO.ite ?_ ?_ | refine LeO.bind ?_ (fun _ => ?_)
theorem impl_packName.mono : ∀ a0 k, LeO (impl_packName.f k a0) (impl_packName.f (k + 1) a0) := by
  intro a0 k
  have ih0 := impl_packName.mono_l k
  unfold impl_packName.f
  repeat' first| (with_reducible first | exact ih0 _ _ _ _ | exact LeO.refl _ | exact LeO.none _ | refine LeO.ite ?_ ?_ | refine LeO.bind ?_ (fun _ => ?_)) | exact ih0 _ _ _ _ | exact LeO.none _ | refine LeO.ite ?_ ?_ | refine LeO.bind ?_ (fun _ => ?_)
set_option maxHeartbeats 8000000 in
set_option maxRecDepth 100000 in
theorem impl_packName.calls (k : Nat) (a0 : ByteArray) (r : Int) (w : World) (h : impl_packName.f k a0 = some r) :
    Calls Tryz.prog 97 #[.string a0] w fun e w' => e = .returned (.int .i64 r) ∧ Drawn0 w w' := by
 have H : (impl_packName.l0 k a0 0 (a0.size : Int) 0) = some r := h
 clear h
 have H' := zm H
 clear H
 go_enter Tryz.func97, Tryz.ntmps97
 go_wp2
 go_loopg [3, 7] k (fun kq v3 v7 w' => ∃ (x3_1 : Int) (x7_1 : Int), v3 = .int .i64 x3_1 ∧ v7 = .int .i64 x7_1 ∧ Aside0 (impl_packName.l0 kq a0 x3_1 (a0.size : Int) x7_1 = some r) ∧ Aside0 (kq ≤ k) ∧ Drawn0 w w')
 case atStart => exact ⟨(0), (0), zr, zr, H', ⟨Nat.le_refl _⟩, by repeat (first | exact Drawn0.refl _ | apply Drawn0.step)⟩
 case round =>
  clear H'
  obtain ⟨x3_1, x7_1, rfl, rfl, HA, HK1, ⟨m1, rfl⟩⟩ := hrel
  cases gk with
  | zero => exact absurd HA.out (by simp [impl_packName.l0])
  | succ k1 =>
   have H := HA.out; clear HA
   simp only [impl_packName.l0] at H
   by_cases c2 : x7_1 < (a0.size : Int)
   ·rw [if_pos c2] at H
    have c2b0 := decide_eq_true c2; clear c2
    by_cases c3 : 0 ≤ x7_1
    ·rw [if_pos c3] at H
     have c3b0 := decide_eq_true c3; clear c3
     by_cases c4 : x7_1 < (a0.size : Int)
     ·rw [if_pos c4] at H
      have c4b0 := decide_eq_true c4; clear c4
      have H' := zm H
      clear H
      have p5 : 0 ≤ (x7_1 : Int) := zd
      have q5 : x7_1 < (a0.size : Int) := zd
      have hx5 := bt_at a0 x7_1; replace p5 := eq_true p5; replace q5 := eq_true q5
      go_wp2
      go_roundg k1
      case measure => have := HK1.out; omega
      case rel => exact ⟨(wrap64 ((wrap64 ((wrap64 (27 * x3_1)) + (((bt a0 x7_1) - 97) % 256))) + 1)), (wrap64 (x7_1 + 1)), zr, zr, H', ⟨by have := HK1.out; omega⟩, by repeat (first | exact Drawn0.refl _ | apply Drawn0.step)⟩
     ·rw [if_neg c4] at H
      exact absurd H (by simp)
    ·rw [if_neg c3] at H
     exact absurd H (by simp)
   ·rw [if_neg c2] at H
    have c2b0 := decide_eq_false c2; clear c2; obtain rfl := Option.some.inj H
    go_wp2
    go_ret
    exact ⟨zr, by repeat (first | exact Drawn0.refl _ | apply Drawn0.step)⟩
def impl_pack.l0 : Nat → List Int → List Int → Int → Int → Option (ByteArray)
  | 0, _, _, _, _ => none
  | k + 1, x3, x7, x8, x9 => if x9 < x8 then (if 0 ≤ x9 then (if x9 < (x7.length : Int) then ((some (([(rd x7 x9) % 256, ((rd x7 x9) / 256) % 256, ((rd x7 x9) / 65536) % 256, ((rd x7 x9) / 16777216) % 256] : List Int) : List Int)).bind fun y756 => (if x3.length + y756.length < 140737488355328 then (impl_pack.l0 k (x3 ++ y756) x7 x8 (wrap64 (x9 + 1))) else (none))) else (none)) else (none)) else (some (strOfNums x3))
def impl_pack.f (k : Nat) (l0 : List Int) : Option (ByteArray) := impl_pack.l0 k (([] : List Int)) l0 (l0.length : Int) 0
theorem impl_pack.mono_l : ∀ k, (∀ y0 y1 y2 y3, LeO (impl_pack.l0 k y0 y1 y2 y3) (impl_pack.l0 (k + 1) y0 y1 y2 y3))
  | 0 => fun _ _ _ _ r h => by simp [impl_pack.l0] at h
  | k + 1 => by
    have ih0 := impl_pack.mono_l k
    · intro y0 y1 y2 y3
      unfold impl_pack.l0
      repeat' first| (with_reducible first | exact ih0 _ _ _ _ | exact LeO.refl _ | exact LeO.none _ | refine LeO.ite ?_ ?_ | refine LeO.bind ?_ (fun _ => ?_)) | exact ih0 _ _ _ _ | exact LeO.none _ | refine LeO.ite ?_ ?_ | refine LeO.bind ?_ (fun _ => ?_)
theorem impl_pack.mono : ∀ a0 k, LeO (impl_pack.f k a0) (impl_pack.f (k + 1) a0) := by
  intro a0 k
  have ih0 := impl_pack.mono_l k
  unfold impl_pack.f
  repeat' first| (with_reducible first | exact ih0 _ _ _ _ | exact LeO.refl _ | exact LeO.none _ | refine LeO.ite ?_ ?_ | refine LeO.bind ?_ (fun _ => ?_)) | exact ih0 _ _ _ _ | exact LeO.none _ | refine LeO.ite ?_ ?_ | refine LeO.bind ?_ (fun _ => ?_)
set_option maxHeartbeats 8000000 in
set_option maxRecDepth 100000 in
theorem impl_pack.calls (k : Nat) (A0 : Option Addr) (c0 : Nat) (l0 : List Int) (r : ByteArray) (w : World) (hr0 : Kd.C (Kd.int .i64) w A0 l0.length l0) (hc0 : l0.length ≤ c0) (h : impl_pack.f k l0 = some r) :
    Calls Tryz.prog 133 #[.slice A0 l0.length c0] w fun e w' => e = .returned (.string r) ∧ Below w.heap.size w w' := by
 have HR0 := zm hr0; have HC0 := zm hc0; clear hr0 hc0; have HB := zm (Below.refl w.heap.size w)
 have H : (impl_pack.l0 k (([] : List Int)) l0 (l0.length : Int) 0) = some r := h
 clear h
 obtain ⟨y752, hy752⟩ : ∃ y_ : List Int, y_ = (([] : List Int)) := ⟨_, rfl⟩
 replace H : (impl_pack.l0 k y752 l0 (l0.length : Int) 0) = some r := by first | (rw [hy752]; with_reducible exact H) | (have H2_ := (Option.bind_some _ _).symm.trans H; rw [hy752]; with_reducible exact H2_) | (have H2_ := (Option.bind_some _ _).symm.trans H; with_reducible exact H2_) | with_reducible exact H | (rw [hy752]; exact H) | exact H
 have Ny752 := zm hy752; clear hy752
 have H' := zm H
 clear H
 go_enter Tryz.func133, Tryz.ntmps133
 go_wp2_with (first | ((with_reducible refine gate_dst (N := 6) rfl ?_); refine Kd.R_lit (Kd.int .u8) _ 5 ?hg (N := 6) ?hd (xs := ([] : List Int)) (inner := []) (ok := fun _ => True) (okp := fun _ => True) ?hr ?hp (fun _ hk => hk) trivial (Below.refl _ _) (Nat.le_refl _) (by simp) ?_; (case hd => rfl); (case hg => rfl); (case hr => first | (go_simp; done) | (go_simp; rfl)); (case hp => exact (Reps.none _ _)); intro v753 w2 ho3 hb hg_ hnew_; clear hg_ hnew_; (first | rw [← Ny752.out] at ho3 | (simp only [Int.reduceToNat] at ho3; rw [← Ny752.out] at ho3)); have n0_ := zm (Kd.R_lower ho3 (below_size (zg_1 HB.out))); have n1_ := zm (below_step (zg_1 HB.out) hb); have Zc := n0_; replace HB := n1_; clear n0_ n1_; clear hb ho3))
 go_loopg [3, 9] k (fun kq v3 v9 w' => ∃ (x3_1 : List Int) (x9_1 : Int), v9 = .int .i64 x9_1 ∧ Aside0 (impl_pack.l0 kq x3_1 l0 (l0.length : Int) x9_1 = some r) ∧ Aside0 (kq ≤ k) ∧ Aside0 (Kd.R (Kd.int .u8) 5 w' w.heap.size (fun _ => True) v3 x3_1) ∧ Aside0 (Below w.heap.size w w'))
 case atStart => exact ⟨(y752), (0), zr, H', ⟨Nat.le_refl _⟩, ⟨zlR Zc.out⟩, ⟨zg_1 HB.out⟩⟩
 case round =>
  clear H'
  try clear c1
  try clear p2
  obtain ⟨x3_1, x9_1, rfl, HA, HK1, Zb, HB⟩ := hrel
  cases gk with
  | zero => exact absurd HA.out (by simp [impl_pack.l0])
  | succ k1 =>
   have H := HA.out; clear HA
   simp only [impl_pack.l0] at H
   by_cases c4 : x9_1 < (l0.length : Int)
   ·rw [if_pos c4] at H
    have c4b0 := decide_eq_true c4; clear c4
    by_cases c5 : 0 ≤ x9_1
    ·rw [if_pos c5] at H
     have c5b0 := decide_eq_true c5; clear c5
     by_cases c6 : x9_1 < (l0.length : Int)
     ·rw [if_pos c6] at H
      have c6b0 := decide_eq_true c6; clear c6
      obtain ⟨y756, hy756⟩ : ∃ y_ : List Int, y_ = (([(rd l0 x9_1) % 256, ((rd l0 x9_1) / 256) % 256, ((rd l0 x9_1) / 65536) % 256, ((rd l0 x9_1) / 16777216) % 256] : List Int)) := ⟨_, rfl⟩
      replace H : (if x3_1.length + y756.length < 140737488355328 then (impl_pack.l0 k1 (x3_1 ++ y756) l0 (l0.length : Int) (wrap64 (x9_1 + 1))) else (none)) = some r := by first | (rw [hy756]; with_reducible exact H) | (have H2_ := (Option.bind_some _ _).symm.trans H; rw [hy756]; with_reducible exact H2_) | (have H2_ := (Option.bind_some _ _).symm.trans H; with_reducible exact H2_) | with_reducible exact H | (rw [hy756]; exact H) | exact H
      have Ny756 := zm hy756; clear hy756
      by_cases c7 : x3_1.length + y756.length < 140737488355328
      ·rw [if_pos c7] at H
       have LMc7 := zm c7; clear c7
       obtain ⟨y759, hy759⟩ : ∃ y_ : List Int, y_ = (x3_1 ++ y756) := ⟨_, rfl⟩
       replace H : (impl_pack.l0 k1 y759 l0 (l0.length : Int) (wrap64 (x9_1 + 1))) = some r := by first | (rw [hy759]; with_reducible exact H) | (have H2_ := (Option.bind_some _ _).symm.trans H; rw [hy759]; with_reducible exact H2_) | (have H2_ := (Option.bind_some _ _).symm.trans H; with_reducible exact H2_) | with_reducible exact H | (rw [hy759]; exact H) | exact H
       have Ny759 := zm hy759; clear hy759
       have H' := zm H
       clear H
       have p755 : 0 ≤ (x9_1 : Int) := zd
       have q755 : x9_1 < (l0.length : Int) := zd
       obtain ⟨ad755, e755, hx755_0⟩ := Kd.at_int HR0.out x9_1 p755 q755
       cases e755; replace hx755_0 := (HB.out.cell (World.block_lt_of_cell? w _ hx755_0)).trans hx755_0; replace p755 := eq_true p755; replace q755 := eq_true q755
       go_wp2_with (first | ((with_reducible refine gate_dst (N := 25) rfl ?_); refine Kd.R_lit (Kd.int .u8) _ 5 ?hg (N := 25) ?hd (xs := ([(rd l0 x9_1) % 256, ((rd l0 x9_1) / 256) % 256, ((rd l0 x9_1) / 65536) % 256, ((rd l0 x9_1) / 16777216) % 256] : List Int)) (inner := [.int .u8 ((rd l0 x9_1) % 256), .int .u8 (((rd l0 x9_1) / 256) % 256), .int .u8 (((rd l0 x9_1) / 65536) % 256), .int .u8 (((rd l0 x9_1) / 16777216) % 256)]) (ok := fun _ => True) (okp := fun _ => True) ?hr ?hp (fun _ hk => hk) trivial (Below.refl _ _) (Nat.le_refl _) (by simp) ?_; (case hd => rfl); (case hg => rfl); (case hr => first | (go_simp; done) | (go_simp; rfl)); (case hp => exact (Reps.one (show Kd.M (Kd.int .u8) _ _ _ ((rd l0 x9_1) % 256) [.int .u8 ((rd l0 x9_1) % 256)] from rfl) (Reps.one (show Kd.M (Kd.int .u8) _ _ _ (((rd l0 x9_1) / 256) % 256) [.int .u8 (((rd l0 x9_1) / 256) % 256)] from rfl) (Reps.one (show Kd.M (Kd.int .u8) _ _ _ (((rd l0 x9_1) / 65536) % 256) [.int .u8 (((rd l0 x9_1) / 65536) % 256)] from rfl) (Reps.one (show Kd.M (Kd.int .u8) _ _ _ (((rd l0 x9_1) / 16777216) % 256) [.int .u8 (((rd l0 x9_1) / 16777216) % 256)] from rfl) (Reps.none _ _)))))); intro v757 w8 ho9 hb hg_ hnew_; clear hg_ hnew_; (first | rw [← Ny756.out] at ho9 | (simp only [Int.reduceToNat] at ho9; rw [← Ny756.out] at ho9)); have n0_ := zm (Kd.R_elder' (zg_6 Zb.out) (Kd.R_base ho9) hb); have n1_ := zm (Kd.R_lower (Kd.R_new' ho9 (Kd.R_lt (zg_6 Zb.out))) (below_size (zg_1 HB.out))); have n2_ := zm (below_step (zg_1 HB.out) hb); replace Zb := n0_; have Za := n1_; replace HB := n2_; clear n0_ n1_ n2_; clear hb ho9; obtain ⟨Ao11, co11, eo11⟩ := Kd.R_slice Za.out; subst eo11) | ((with_reducible refine gate_builtin (b := .append) (xs := #[.tmp 13, .tmp 25]) rfl ?_); at_builtin; refine Kd.R_append_rows (Kd.int .u8) (w0 := w) w.heap.size rfl (.tmp 13) (.tmp 25) 22 5 (.int .u8 0) 1 rfl Tryz.underlying22 info5 rfl (by decide) (by omega) u3 x3_1 y756 _ _ _ (fun k_ => some k_ ≠ (.slice Ao11 y756.length co11 : Value).ownBlock) (fun _ => False) rfl rfl ?aO ?aR (fun _ _ h => h) (fun _ h => h.elim) ?aF ?aB ?aS ?aL ?_; (case aR => exact zC ((Kd.R_reads' Za.out).2.2)); (case aB => exact (zg_1 HB.out)); (case aF => exact (fun k_ hk => Kd.fresh' (Kd.R_lt (zg_6 Za.out)) k_ hk)); (case aO => exact (by (with_reducible repeat (first | apply Kd.R_alloc | apply Kd.R_drewN | apply Kd.R_drew)); exact Kd.R_mono Zb.out (fun _ hk => hk.2))); (case aS => exact (below_size (zg_1 HB.out))); (case aL => have := LMc7.out; omega); intro v760 w10 ho hb hg hat; rw [← Ny759.out] at ho; have n0_ := zm (Kd.R_after (ok := (fun _ => True)) (zg_6 Za.out) hg hat); have n1_ := zm (hb); have n2_ := zm (ho); clear Zb; replace Za := n0_; replace HB := n1_; have Zd := n2_; clear n0_ n1_ n2_; clear ho hb hg hat))
       go_roundg k1
       case measure => have := HK1.out; omega
       case rel => exact ⟨(y759), (wrap64 (x9_1 + 1)), zr, H', ⟨by have := HK1.out; omega⟩, ⟨by (with_reducible repeat (first | apply Kd.R_alloc | apply Kd.R_drewN | apply Kd.R_drew)); exact Kd.R_mono Zd.out (fun _ hk => trivial)⟩, ⟨zg_1 HB.out⟩⟩
      ·rw [if_neg c7] at H
       exact absurd H (by simp)
     ·rw [if_neg c6] at H
      exact absurd H (by simp)
    ·rw [if_neg c5] at H
     exact absurd H (by simp)
   ·rw [if_neg c4] at H
    have c4b0 := decide_eq_false c4; clear c4; obtain rfl := Option.some.inj H; have hcv12 := own_string (P := Tryz.prog) Tryz.underlying22 Tryz.underlying5 Tryz.underlying9 (Kd.own_of_R Zb.out)
    go_wp2
    go_ret
    exact ⟨ze, zg_1 HB.out⟩
def impl_sumOf.l0 : Nat → ByteArray → Int → Int → Int → Option (Int)
  | 0, _, _, _, _ => none
  | k + 1, x0, x3, x6, x7 => if x7 < x6 then (if 0 ≤ x7 then (if x7 < (x0.size : Int) then (impl_sumOf.l0 k x0 (Int.tmod (wrap64 (x3 + (wrap64 ((wrap64 (x7 + 1)) * (wrap64 ((wrap64 (bt x0 x7)) + 1)))))) 251) x6 (wrap64 (x7 + 1))) else (none)) else (none)) else (some x3)
def impl_sumOf.f (k : Nat) (a0 : ByteArray) : Option (Int) := impl_sumOf.l0 k a0 0 (a0.size : Int) 0
theorem impl_sumOf.mono_l : ∀ k, (∀ y0 y1 y2 y3, LeO (impl_sumOf.l0 k y0 y1 y2 y3) (impl_sumOf.l0 (k + 1) y0 y1 y2 y3))
  | 0 => fun _ _ _ _ r h => by simp [impl_sumOf.l0] at h
  | k + 1 => by
    have ih0 := impl_sumOf.mono_l k
    · intro y0 y1 y2 y3
      unfold impl_sumOf.l0
      repeat' first| (with_reducible first | exact ih0 _ _ _ _ | exact LeO.refl _ | exact LeO.none _ | refine LeO.ite ?_ ?_ | refine LeO.bind ?_ (fun _ => ?_)) | exact ih0 _ _ _ _ | exact LeO.none _ | refine LeO.ite ?_ ?_ | refine LeO.bind ?_ (fun _ => ?_)
theorem impl_sumOf.mono : ∀ a0 k, LeO (impl_sumOf.f k a0) (impl_sumOf.f (k + 1) a0) := by
  intro a0 k
  have ih0 := impl_sumOf.mono_l k
  unfold impl_sumOf.f
  repeat' first| (with_reducible first | exact ih0 _ _ _ _ | exact LeO.refl _ | exact LeO.none _ | refine LeO.ite ?_ ?_ | refine LeO.bind ?_ (fun _ => ?_)) | exact ih0 _ _ _ _ | exact LeO.none _ | refine LeO.ite ?_ ?_ | refine LeO.bind ?_ (fun _ => ?_)
set_option maxHeartbeats 8000000 in
set_option maxRecDepth 100000 in
theorem impl_sumOf.calls (k : Nat) (a0 : ByteArray) (r : Int) (w : World) (h : impl_sumOf.f k a0 = some r) :
    Calls Tryz.prog 134 #[.string a0] w fun e w' => e = .returned (.int .i64 r) ∧ Drawn0 w w' := by
 have H : (impl_sumOf.l0 k a0 0 (a0.size : Int) 0) = some r := h
 clear h
 have H' := zm H
 clear H
 go_enter Tryz.func134, Tryz.ntmps134
 go_wp2
 go_loopg [3, 7] k (fun kq v3 v7 w' => ∃ (x3_1 : Int) (x7_1 : Int), v3 = .int .i64 x3_1 ∧ v7 = .int .i64 x7_1 ∧ Aside0 (impl_sumOf.l0 kq a0 x3_1 (a0.size : Int) x7_1 = some r) ∧ Aside0 (kq ≤ k) ∧ Drawn0 w w')
 case atStart => exact ⟨(0), (0), zr, zr, H', ⟨Nat.le_refl _⟩, by repeat (first | exact Drawn0.refl _ | apply Drawn0.step)⟩
 case round =>
  clear H'
  try clear c1
  obtain ⟨x3_1, x7_1, rfl, rfl, HA, HK1, ⟨m1, rfl⟩⟩ := hrel
  cases gk with
  | zero => exact absurd HA.out (by simp [impl_sumOf.l0])
  | succ k1 =>
   have H := HA.out; clear HA
   simp only [impl_sumOf.l0] at H
   by_cases c2 : x7_1 < (a0.size : Int)
   ·rw [if_pos c2] at H
    have c2b0 := decide_eq_true c2; clear c2
    by_cases c3 : 0 ≤ x7_1
    ·rw [if_pos c3] at H
     have c3b0 := decide_eq_true c3; clear c3
     by_cases c4 : x7_1 < (a0.size : Int)
     ·rw [if_pos c4] at H
      have c4b0 := decide_eq_true c4; clear c4
      have H' := zm H
      clear H
      have p5 : 0 ≤ (x7_1 : Int) := zd
      have q5 : x7_1 < (a0.size : Int) := zd
      have hx5 := bt_at a0 x7_1; replace p5 := eq_true p5; replace q5 := eq_true q5
      go_wp2
      go_roundg k1
      case measure => have := HK1.out; omega
      case rel => exact ⟨(Int.tmod (wrap64 (x3_1 + (wrap64 ((wrap64 (x7_1 + 1)) * (wrap64 ((wrap64 (bt a0 x7_1)) + 1)))))) 251), (wrap64 (x7_1 + 1)), zr, zr, H', ⟨by have := HK1.out; omega⟩, by repeat (first | exact Drawn0.refl _ | apply Drawn0.step)⟩
     ·rw [if_neg c4] at H
      exact absurd H (by simp)
    ·rw [if_neg c3] at H
     exact absurd H (by simp)
   ·rw [if_neg c2] at H
    have c2b0 := decide_eq_false c2; clear c2; obtain rfl := Option.some.inj H
    go_wp2
    go_ret
    exact ⟨zr, by repeat (first | exact Drawn0.refl _ | apply Drawn0.step)⟩
def impl_seal.f (k : Nat) (a0 : Int) (l1 : List Int) : Option (ByteArray) := (some (([(a0) % 256, ((l1.length : Int)) % 256] : List Int) : List Int)).bind fun y762 => ((impl_pack.f k l1).bind fun t765 => (if (strOfNums y762).size + t765.size ≤ 9223372036854775807 then ((impl_sumOf.f k ((strOfNums y762) ++ t765)).bind fun t766 => ((some (([(t766) % 256, 0] : List Int) : List Int)).bind fun y767 => (if (strOfNums y762).size + (strOfNums y767).size ≤ 9223372036854775807 then (if ((strOfNums y762) ++ (strOfNums y767)).size + t765.size ≤ 9223372036854775807 then (some (((strOfNums y762) ++ (strOfNums y767)) ++ t765)) else (none)) else (none)))) else (none)))
theorem impl_seal.mono : ∀ a0 a1 k, LeO (impl_seal.f k a0 a1) (impl_seal.f (k + 1) a0 a1) := by
  intro a0 a1 k
  unfold impl_seal.f
  repeat' first| (with_reducible first | exact impl_pack.mono _ _ | exact impl_sumOf.mono _ _ | exact LeO.refl _ | exact LeO.none _ | refine LeO.ite ?_ ?_ | refine LeO.bind ?_ (fun _ => ?_)) | exact impl_pack.mono _ _ | exact impl_sumOf.mono _ _ | exact LeO.none _ | refine LeO.ite ?_ ?_ | refine LeO.bind ?_ (fun _ => ?_)
def impl_seal.T1 : Bool × List (List Nat × List Nat) := (true, [([], []), ([0], [0]), ([], []), ([2], [2]), ([3], [3]), ([1, 4], [1, 4]), ([5], [5]), ([], []), ([7], [7]), ([6, 8, 0, 1, 2, 3, 4, 5, 6], [6]), ([8, 9, 0, 1, 2, 3, 4, 5, 6, 7, 8, 9], [8])])
def impl_seal.B1 : List Nat := [0, 1, 0, 4, 12, 31, 63, 0, 128, 511, 1023]
theorem impl_seal.tab1 : rtab .any (opsOf Tryz.f98 1) = impl_seal.T1 := by kernel_rfl
theorem impl_seal.bits1 : waitsOk impl_seal.T1.2 impl_seal.B1 = true := by kernel_rfl
set_option maxHeartbeats 8000000 in
set_option maxRecDepth 100000 in
theorem impl_seal.calls (k : Nat) (a0 : Int) (A1 : Option Addr) (c1 : Nat) (l1 : List Int) (r : ByteArray) (w : World) (hr1 : Kd.C (Kd.int .i64) w A1 l1.length l1) (hc1 : l1.length ≤ c1) (h : impl_seal.f k a0 l1 = some r) :
    Calls Tryz.prog 98 #[.int .i64 a0, .slice A1 l1.length c1] w fun e w' => e = .returned (.string r) ∧ Below w.heap.size w w' := by
 have HR1 := zm hr1; have HC1 := zm hc1; clear hr1 hc1; have HB := zm (Below.refl w.heap.size w); have H := h
 unfold impl_seal.f at H
 clear h
 obtain ⟨y762, hy762⟩ : ∃ y_ : List Int, y_ = (([(a0) % 256, ((l1.length : Int)) % 256] : List Int)) := ⟨_, rfl⟩
 replace H : ((impl_pack.f k l1).bind fun t765 => (if (strOfNums y762).size + t765.size ≤ 9223372036854775807 then ((impl_sumOf.f k ((strOfNums y762) ++ t765)).bind fun t766 => ((some (([(t766) % 256, 0] : List Int) : List Int)).bind fun y767 => (if (strOfNums y762).size + (strOfNums y767).size ≤ 9223372036854775807 then (if ((strOfNums y762) ++ (strOfNums y767)).size + t765.size ≤ 9223372036854775807 then (some (((strOfNums y762) ++ (strOfNums y767)) ++ t765)) else (none)) else (none)))) else (none))) = some r := by first | (rw [hy762]; with_reducible exact H) | (have H2_ := (Option.bind_some _ _).symm.trans H; rw [hy762]; with_reducible exact H2_) | (have H2_ := (Option.bind_some _ _).symm.trans H; with_reducible exact H2_) | with_reducible exact H | (rw [hy762]; exact H) | exact H
 have Ny762 := zm hy762; clear hy762; replace H := Option.bind_eq_some_iff.mp H
 obtain ⟨t765, A30, H⟩ := H
 try dsimp only at H
 have A3 := zm A30; clear A30
 by_cases c4 : (strOfNums y762).size + t765.size ≤ 9223372036854775807
 ·rw [if_pos c4] at H
  have c4b0 := eq_true c4; have c4b1 := decide_eq_true c4
  try have c4b2 : (9223372036854775807 < (strOfNums y762).size + t765.size) = False := eq_false (Nat.not_lt.2 c4)
  replace H := Option.bind_eq_some_iff.mp H
  obtain ⟨t766, A50, H⟩ := H
  try dsimp only at H
  have A5 := zm A50; clear A50
  obtain ⟨y767, hy767⟩ : ∃ y_ : List Int, y_ = (([(t766) % 256, 0] : List Int)) := ⟨_, rfl⟩
  replace H : (if (strOfNums y762).size + (strOfNums y767).size ≤ 9223372036854775807 then (if ((strOfNums y762) ++ (strOfNums y767)).size + t765.size ≤ 9223372036854775807 then (some (((strOfNums y762) ++ (strOfNums y767)) ++ t765)) else (none)) else (none)) = some r := by first | (rw [hy767]; with_reducible exact H) | (have H2_ := (Option.bind_some _ _).symm.trans H; rw [hy767]; with_reducible exact H2_) | (have H2_ := (Option.bind_some _ _).symm.trans H; with_reducible exact H2_) | with_reducible exact H | (rw [hy767]; exact H) | exact H
  have Ny767 := zm hy767; clear hy767
  by_cases c6 : (strOfNums y762).size + (strOfNums y767).size ≤ 9223372036854775807
  ·rw [if_pos c6] at H
   have c6b0 := eq_true c6; have c6b1 := decide_eq_true c6
   try have c6b2 : (9223372036854775807 < (strOfNums y762).size + (strOfNums y767).size) = False := eq_false (Nat.not_lt.2 c6)
   by_cases c7 : ((strOfNums y762) ++ (strOfNums y767)).size + t765.size ≤ 9223372036854775807
   ·rw [if_pos c7] at H
    have c7b0 := eq_true c7; have c7b1 := decide_eq_true c7
    try have c7b2 : (9223372036854775807 < ((strOfNums y762) ++ (strOfNums y767)).size + t765.size) = False := eq_false (Nat.not_lt.2 c7)
    obtain rfl := Option.some.inj H
    go_enter Tryz.func98, Tryz.ntmps98
    try go_wp2
    have n0_ := zm (below_drew1 HB.out); clear HB; have HB := n0_; clear n0_
    refine start_ (n := 11) (S := fun w' => True) (ds := []) #[false, false, false, false, false, false, false, false, false, false, false] (by kernel_rfl) rfl rfl trivial (fun hHeld => ?_); refine with_tabW impl_seal.tab1 impl_seal.bits1 (fun HT_ HW_ => ?_)
    generalize w.drew = w8 at HB hHeld ⊢
    refine pure_ (i := 0) (N := some 7) (v := ?_) (a' := ?_) #[true, false, false, false, false, false, false, false, false, false, false] rfl rfl (any_of HT_.out (by kernel_rfl)) (fun _ _ _ h => h) (Or.inl ⟨by rfl, ?_⟩) ?_ ?_
    rotate_left
    ·intro w'
     go_simp
     with_reducible rfl
    rotate_left
    ·simp only [Act.put, zs, zz, zt, i64_w, i32_w]
     rfl
    refine pure_ (i := 1) (N := some 8) (v := ?_) (a' := ?_) #[true, true, false, false, false, false, false, false, false, false, false] rfl rfl (any_of HT_.out (by kernel_rfl)) (fun _ _ _ h => h) (Or.inl ⟨by rfl, ?_⟩) ?_ ?_
    rotate_left
    ·intro w'
     go_simp
     with_reducible rfl
    rotate_left
    ·simp only [Act.put, zs, zz, zt, i64_w, i32_w]
     rfl
    refine pure_ (i := 2) (N := some 9) (v := ?_) (a' := ?_) #[true, true, true, false, false, false, false, false, false, false, false] rfl rfl (any_of HT_.out (by kernel_rfl)) (fun _ _ _ h => h) (Or.inl ⟨by rfl, ?_⟩) ?_ ?_
    rotate_left
    ·intro w'
     go_simp
     with_reducible rfl
    rotate_left
    ·simp only [Act.put, zs, zz, zt, i64_w, i32_w]
     rfl
    refine pure_ (i := 3) (N := some 10) (v := ?_) (a' := ?_) #[true, true, true, true, false, false, false, false, false, false, false] rfl rfl (any_of HT_.out (by kernel_rfl)) (fun _ _ _ h => h) (Or.inl ⟨by rfl, ?_⟩) ?_ ?_
    rotate_left
    ·intro w'
     go_simp
     with_reducible rfl
    rotate_left
    ·simp only [Act.put, zs, zz, zt, i64_w, i32_w]
     rfl
    refine pure_ (i := 4) (N := some 11) (v := ?_) (a' := ?_) #[true, true, true, true, true, false, false, false, false, false, false] rfl rfl (any_of HT_.out (by kernel_rfl)) (fun _ _ _ h => h) (Or.inl ⟨by rfl, ?_⟩) ?_ ?_
    rotate_left
    ·intro w'
     go_simp
     with_reducible rfl
    rotate_left
    ·simp only [Act.put, zs, zz, zt, i64_w, i32_w]
     rfl
    refine pure_ (i := 7) (N := some 14) (v := ?_) (a' := ?_) #[true, true, true, true, true, false, false, true, false, false, false] rfl rfl (any_of HT_.out (by kernel_rfl)) (fun _ _ _ h => h) (Or.inl ⟨by rfl, ?_⟩) ?_ ?_
    rotate_left
    ·intro w'
     go_simp
     with_reducible rfl
    rotate_left
    ·simp only [Act.put, zs, zz, zt, i64_w, i32_w]
     rfl
    refine join_ (σ := Value) 2 #[true, true, true, true, true, true, true, true, true, false, false] (fun s_ => [(12, s_), (13, .string (strOfNums y762)), (15, .string t765)]) (fun s_ w' => (Kd.R (Kd.int .u8) 5 w' w.heap.size (fun _ => True) s_ y762) ∧ (Below w.heap.size w w')) ?_ ?_
    rotate_left
    ·intro hCont
     refine two_ (i := 5) (j := 8) (Ni := some 12) (Nj := some 15) #[true, true, true, true, true, true, false, true, false, false, false] #[true, true, true, true, true, false, false, true, true, false, false] rfl rfl rfl rfl (two_of HT_.out (by kernel_rfl)) (by decide) (by decide) (fun K hK => ?_) (fun K hK => ?_)
     ·skip
      refine Kd.R_lit_step (Kd.int .u8) _ 5 ?hg (N := 12) ?hd (xs := ([(a0) % 256, ((l1.length : Int)) % 256] : List Int)) (inner := [.int .u8 ((a0) % 256), .int .u8 (((l1.length : Int)) % 256)]) (ok := fun _ => True) (okp := fun _ => True) ?hr ?hp (fun _ hk => hk) trivial (Below.refl _ _) (Nat.le_refl _) (by simp) ?_; (case hd => rfl); (case hg => rfl); (case hr => first | (go_simp; done) | (go_simp; rfl)); (case hp => exact (Reps.one (show Kd.M (Kd.int .u8) _ _ _ ((a0) % 256) [.int .u8 ((a0) % 256)] from rfl) (Reps.one (show Kd.M (Kd.int .u8) _ _ _ (((l1.length : Int)) % 256) [.int .u8 (((l1.length : Int)) % 256)] from rfl) (Reps.none _ _))))
      intro v763 w9 ho10 hb hg_ hnew_
      clear hg_ hnew_
      (first | rw [← Ny762.out] at ho10 | (simp only [Int.reduceToNat] at ho10; rw [← Ny762.out] at ho10))
      have n0_ := zm (Kd.R_lower ho10 (below_size (zg_1 HB.out))); have n1_ := zm (below_step (zg_1 HB.out) hb); clear HB; have Za := n0_; have HB := n1_; clear n0_ n1_; clear hb ho10
      refine hK.out _ _ trivial (fun hHeld => ?_)
      clear hK K
      refine norm_ (a' := ?_) ?_ ?_
      rotate_left
      ·show Act.put _ (some 12) _ = _
       simp only [Act.put, zs, zz, zt, i64_w, i32_w]
       rfl
      refine two_ (i := 6) (j := 8) (Ni := some 13) (Nj := some 15) #[true, true, true, true, true, true, true, true, false, false, false] #[true, true, true, true, true, true, false, true, true, false, false] rfl rfl rfl rfl (two_of HT_.out (by kernel_rfl)) (by decide) (by decide) (fun K hK => ?_) (fun K hK => ?_)
      ·skip
       have hcv11 := own_string (P := Tryz.prog) Tryz.underlying22 Tryz.underlying5 Tryz.underlying9 (Kd.own_of_R Za.out)
       refine value_ (w1 := ?_) (v := ?_) (by rfl) rfl ?_ ?_
       rotate_left 2
       ·go_simp
        constructor
        ·rfl
        ·rfl
       clear hcv11
       refine hK.out _ _ trivial (fun hHeld => ?_)
       clear hK K
       refine norm_ (a' := ?_) ?_ ?_
       rotate_left
       ·show Act.put _ (some 13) _ = _
        simp only [Act.put, zs, zz, zt, i64_w, i32_w]
        rfl
       refine one_ (i := 8) (N := some 15) #[true, true, true, true, true, true, true, true, true, false, false] rfl rfl (one_of HT_.out (by kernel_rfl)) (by decide) (fun K hK => ?_)
       refine goes_ Tryz.func133 (by kernel_rfl) rfl #[.slice A1 l1.length c1] (by rfl) rfl rfl zq ?_
       with_reducible refine (impl_pack.calls k _ _ l1 t765 _ ?side1 ?side2 A3.out).mono ?_
       (case side1 => exact zC (Kd.C_below HR1.out HB.out))
       (case side2 => exact HC1.out)
       rintro e w12 ⟨rfl, hb⟩
       refine ⟨_, rfl, ?_⟩
       have n0_ := zm (Kd.R_below (zg_6 Za.out) hb); have n1_ := zm (below_step (zg_1 HB.out) hb); clear Za; clear HB; have Za := n0_; have HB := n1_; clear n0_ n1_
       (try clear hb)
       (try clear hb2)
       (try clear hk)
       (try clear hi)
       refine hK.out _ _ trivial (fun hHeld => ?_)
       clear hK K
       refine norm_ (a' := ?_) ?_ ?_
       rotate_left
       ·show Act.put _ (some 15) _ = _
        simp only [Act.put, zs, zz, zt, i64_w, i32_w]
        rfl
       exact norm_ (by simp only [putAll, Act.put, zs, zz, zt]) (hCont (v763) _ ⟨(zg_6 Za.out), (zg_1 HB.out)⟩)
      ·skip
       refine goes_ Tryz.func133 (by kernel_rfl) rfl #[.slice A1 l1.length c1] (by rfl) rfl rfl zq ?_
       with_reducible refine (impl_pack.calls k _ _ l1 t765 _ ?side1 ?side2 A3.out).mono ?_
       (case side1 => exact zC (Kd.C_below HR1.out HB.out))
       (case side2 => exact HC1.out)
       rintro e w11 ⟨rfl, hb⟩
       refine ⟨_, rfl, ?_⟩
       have n0_ := zm (Kd.R_below (zg_6 Za.out) hb); have n1_ := zm (below_step (zg_1 HB.out) hb); clear Za; clear HB; have Za := n0_; have HB := n1_; clear n0_ n1_
       (try clear hb)
       (try clear hb2)
       (try clear hk)
       (try clear hi)
       refine hK.out _ _ trivial (fun hHeld => ?_)
       clear hK K
       refine norm_ (a' := ?_) ?_ ?_
       rotate_left
       ·show Act.put _ (some 15) _ = _
        simp only [Act.put, zs, zz, zt, i64_w, i32_w]
        rfl
       refine one_ (i := 6) (N := some 13) #[true, true, true, true, true, true, true, true, true, false, false] rfl rfl (one_of HT_.out (by kernel_rfl)) (by decide) (fun K hK => ?_)
       have hcv12 := own_string (P := Tryz.prog) Tryz.underlying22 Tryz.underlying5 Tryz.underlying9 (Kd.own_of_R Za.out)
       refine value_ (w1 := ?_) (v := ?_) (by rfl) rfl ?_ ?_
       rotate_left 2
       ·go_simp
        constructor
        ·rfl
        ·rfl
       clear hcv12
       refine hK.out _ _ trivial (fun hHeld => ?_)
       clear hK K
       refine norm_ (a' := ?_) ?_ ?_
       rotate_left
       ·show Act.put _ (some 13) _ = _
        simp only [Act.put, zs, zz, zt, i64_w, i32_w]
        rfl
       exact norm_ (by simp only [putAll, Act.put, zs, zz, zt]) (hCont (v763) _ ⟨(zg_6 Za.out), (zg_1 HB.out)⟩)
     ·skip
      refine goes_ Tryz.func133 (by kernel_rfl) rfl #[.slice A1 l1.length c1] (by rfl) rfl rfl zq ?_
      with_reducible refine (impl_pack.calls k _ _ l1 t765 _ ?side1 ?side2 A3.out).mono ?_
      (case side1 => exact zC (Kd.C_below HR1.out HB.out))
      (case side2 => exact HC1.out)
      rintro e w9 ⟨rfl, hb⟩
      refine ⟨_, rfl, ?_⟩
      have n0_ := zm (below_step (zg_1 HB.out) hb); clear HB; have HB := n0_; clear n0_
      (try clear hb)
      (try clear hb2)
      (try clear hk)
      (try clear hi)
      refine hK.out _ _ trivial (fun hHeld => ?_)
      clear hK K
      refine norm_ (a' := ?_) ?_ ?_
      rotate_left
      ·show Act.put _ (some 15) _ = _
       simp only [Act.put, zs, zz, zt, i64_w, i32_w]
       rfl
      refine one_ (i := 5) (N := some 12) #[true, true, true, true, true, true, false, true, true, false, false] rfl rfl (one_of HT_.out (by kernel_rfl)) (by decide) (fun K hK => ?_)
      refine Kd.R_lit_step (Kd.int .u8) _ 5 ?hg (N := 12) ?hd (xs := ([(a0) % 256, ((l1.length : Int)) % 256] : List Int)) (inner := [.int .u8 ((a0) % 256), .int .u8 (((l1.length : Int)) % 256)]) (ok := fun _ => True) (okp := fun _ => True) ?hr ?hp (fun _ hk => hk) trivial (Below.refl _ _) (Nat.le_refl _) (by simp) ?_; (case hd => rfl); (case hg => rfl); (case hr => first | (go_simp; done) | (go_simp; rfl)); (case hp => exact (Reps.one (show Kd.M (Kd.int .u8) _ _ _ ((a0) % 256) [.int .u8 ((a0) % 256)] from rfl) (Reps.one (show Kd.M (Kd.int .u8) _ _ _ (((l1.length : Int)) % 256) [.int .u8 (((l1.length : Int)) % 256)] from rfl) (Reps.none _ _))))
      intro v763 w10 ho11 hb hg_ hnew_
      clear hg_ hnew_
      (first | rw [← Ny762.out] at ho11 | (simp only [Int.reduceToNat] at ho11; rw [← Ny762.out] at ho11))
      have n0_ := zm (Kd.R_lower ho11 (below_size (zg_1 HB.out))); have n1_ := zm (below_step (zg_1 HB.out) hb); clear HB; have Za := n0_; have HB := n1_; clear n0_ n1_; clear hb ho11
      refine hK.out _ _ trivial (fun hHeld => ?_)
      clear hK K
      refine norm_ (a' := ?_) ?_ ?_
      rotate_left
      ·show Act.put _ (some 12) _ = _
       simp only [Act.put, zs, zz, zt, i64_w, i32_w]
       rfl
      refine one_ (i := 6) (N := some 13) #[true, true, true, true, true, true, true, true, true, false, false] rfl rfl (one_of HT_.out (by kernel_rfl)) (by decide) (fun K hK => ?_)
      have hcv12 := own_string (P := Tryz.prog) Tryz.underlying22 Tryz.underlying5 Tryz.underlying9 (Kd.own_of_R Za.out)
      refine value_ (w1 := ?_) (v := ?_) (by rfl) rfl ?_ ?_
      rotate_left 2
      ·go_simp
       constructor
       ·rfl
       ·rfl
      clear hcv12
      refine hK.out _ _ trivial (fun hHeld => ?_)
      clear hK K
      refine norm_ (a' := ?_) ?_ ?_
      rotate_left
      ·show Act.put _ (some 13) _ = _
       simp only [Act.put, zs, zz, zt, i64_w, i32_w]
       rfl
      exact norm_ (by simp only [putAll, Act.put, zs, zz, zt]) (hCont (v763) _ ⟨(zg_6 Za.out), (zg_1 HB.out)⟩)
    rintro v763 w13 ⟨h0_, h1_⟩
    have n0_ : Aside0 (Kd.R (Kd.int .u8) 5 w13 w.heap.size (fun _ => True) v763 y762) := ⟨h0_⟩
    have n1_ : Aside0 (Below w.heap.size w w13) := ⟨h1_⟩
    clear HB; clear h0_ h1_; have Za := n0_; have HB := n1_; clear n0_ n1_; have hHeld := trivial
    refine norm_ (a' := ?_) ?_ ?_
    rotate_left
    ·simp only [putAll, Act.put, zs, zz, zt]
     rfl
    refine pure_ (i := 9) (N := some 5) (v := ?_) (a' := ?_) #[true, true, true, true, true, true, true, true, true, true, false] rfl rfl (any_of HT_.out (by kernel_rfl)) (fun _ _ _ h => h) (Or.inl ⟨by rfl, ?_⟩) ?_ ?_
    rotate_left
    ·intro w'
     go_simp
     with_reducible rfl
    rotate_left
    ·simp only [Act.put, zs, zz, zt, i64_w, i32_w]
     rfl
    refine pure_ (i := 10) (N := some 6) (v := ?_) (a' := ?_) #[true, true, true, true, true, true, true, true, true, true, true] rfl rfl (any_of HT_.out (by kernel_rfl)) (fun _ _ _ h => h) (Or.inl ⟨by rfl, ?_⟩) ?_ ?_
    rotate_left
    ·intro w'
     go_simp
     with_reducible rfl
    rotate_left
    ·simp only [Act.put, zs, zz, zt, i64_w, i32_w]
     rfl
    refine done_ (done_of HT_.out (by kernel_rfl)) ?_
    try go_wp2_with (first | ((with_reducible refine gate_callee (f := 134) rfl ?_); refine goesL_ (some 20) rfl rfl Tryz.func134 (by kernel_rfl) rfl #[.string ((strOfNums y762) ++ t765)] rfl zq ?_; (with_reducible refine (impl_sumOf.calls k ((strOfNums y762) ++ t765) t766 _ A5.out).mono ?_); rintro e w' ⟨rfl, ⟨nd, rfl⟩⟩; refine ⟨_, rfl, ?_⟩) | ((with_reducible refine gate_dst (N := 22) rfl ?_); refine Kd.R_lit (Kd.int .u8) _ 5 ?hg (N := 22) ?hd (xs := ([(t766) % 256, 0] : List Int)) (inner := [.int .u8 ((t766) % 256), .int .u8 0]) (ok := fun _ => True) (okp := fun _ => True) ?hr ?hp (fun _ hk => hk) trivial (Below.refl _ _) (Nat.le_refl _) (by simp) ?_; (case hd => rfl); (case hg => rfl); (case hr => first | (go_simp; done) | (go_simp; rfl)); (case hp => exact (Reps.one (show Kd.M (Kd.int .u8) _ _ _ ((t766) % 256) [.int .u8 ((t766) % 256)] from rfl) (Reps.one (show Kd.M (Kd.int .u8) _ _ _ 0 [.int .u8 0] from rfl) (Reps.none _ _)))); intro v768 w14 ho15 hb hg_ hnew_; clear hg_ hnew_; (first | rw [← Ny767.out] at ho15 | (simp only [Int.reduceToNat] at ho15; rw [← Ny767.out] at ho15)); have n0_ := zm (Kd.R_elder' (zg_6 Za.out) (Kd.R_base ho15) hb); have n1_ := zm (Kd.R_lower (Kd.R_new' ho15 (Kd.R_lt (zg_6 Za.out))) (below_size (zg_1 HB.out))); have n2_ := zm (below_step (zg_1 HB.out) hb); replace Za := n0_; have Zb := n1_; replace HB := n2_; clear n0_ n1_ n2_; clear hb ho15; have hcv16 := own_string (P := Tryz.prog) Tryz.underlying22 Tryz.underlying5 Tryz.underlying9 (Kd.own_of_R Zb.out)))
    go_ret
    exact ⟨ze, zg_1 HB.out⟩
   ·rw [if_neg c7] at H
    exact absurd H (by simp)
  ·rw [if_neg c6] at H
   exact absurd H (by simp)
 ·rw [if_neg c4] at H
  exact absurd H (by simp)
section
attribute [local go_sem] Oper.semAt_some
def impl_refsText_upto {α : Type} (f : Nat → α) (k : Nat) : List α := (List.range k).map f
theorem impl_refsText_upto_succ {α : Type} (f : Nat → α) (k : Nat) : impl_refsText_upto f (k + 1) = impl_refsText_upto f k ++ [f k] := by simp [impl_refsText_upto, List.range_succ]
theorem impl_refsText_upto_length {α : Type} (f : Nat → α) (k : Nat) : (impl_refsText_upto f k).length = k := by simp [impl_refsText_upto]
/-- What comes k-th: the numbers from behind. -/
structure impl_refsText_E where
  c : Int
  v : Int
  h : 0 ≤ c ∧ c < 24
def impl_refsText_f (xs : List Int) (k : Nat) : impl_refsText_E := if h : 0 ≤ (xs.length : Int) - 1 - (k : Int) ∧ (xs.length : Int) - 1 - (k : Int) < 24 then ⟨(xs.length : Int) - 1 - (k : Int), rd xs ((xs.length : Int) - 1 - (k : Int)), h⟩ else ⟨0, 0, by decide⟩
def impl_refsText_encs (x : impl_refsText_E) : Array Value := #[.int .i64 x.c, .int .i64 x.v]
/-- What the rounds keep: all that lay when the function was entered, and the iterator's box. -/
def impl_refsText_kp (n₀ Bs : Nat) (X Y : World) : Prop := Below n₀ X Y ∧ Y.cell? ⟨Bs, 0, none⟩ = X.cell? ⟨Bs, 0, none⟩
theorem impl_refsText_kp_t (n₀ Bs : Nat) {X Y Z : World} (h : impl_refsText_kp n₀ Bs X Y) (k : impl_refsText_kp n₀ Bs Y Z) : impl_refsText_kp n₀ Bs X Z := ⟨h.1.trans k.1, k.2.trans h.2⟩
set_option maxRecDepth 100000 in
set_option maxHeartbeats 4000000 in
theorem impl_refsText_back1 (F : Fence) (n : Nat) (h7 : F.fn 146) (hro : F.round = none) (hn : 1 ≤ n) (l Bs n₀ : Nat) (A : Option Addr) (cap : Nat) (xs : List Int) (w0 : World) (hw : w0.heap.size = n₀) (hC : (Kd.int .i64).C w0 A xs.length xs) (hreach : xs.length ≤ 24) (J Jx : List impl_refsText_E → World → Prop)
    (hY : ∀ pre x W, J pre W → pre.length < xs.length → YieldAt F (n - 1) Tryz.prog l (impl_refsText_encs x) W fun e W' =>
      (e = .returned (.bool true) ∧ J (pre ++ [x]) W' ∧ impl_refsText_kp n₀ Bs W W') ∨ (e = .returned (.bool false) ∧ Jx (pre ++ [x]) W'))
    (W : World) (hWw : Below n₀ w0 W) (hBs : W.cell? ⟨Bs, 0, none⟩ = some (.slice A xs.length cap)) (h0 : J [] W) :
    CallsIn F n Tryz.prog 146 #[.func (.yield l) #[] #[], .pointer (some ⟨Bs, 0, none⟩)] W fun e W' => (∃ v, e = .returned v) ∧
      ((∃ ys, ys = impl_refsText_upto (impl_refsText_f xs) xs.length ∧ J ys W') ∨ (∃ pre, (∃ k, k ≤ xs.length ∧ pre = impl_refsText_upto (impl_refsText_f xs) k) ∧ Jx pre W')) := by
  have hb0 := hBs
  have hwr : wrap64 ((xs.length : Int) - 1) = (xs.length : Int) - 1 := by unfold wrap64; omega
  refine callsIn_of_wp Tryz.func146 rfl h7 ?_ hro
  simp only [Tryz.ntmps146, List.size_toArray, List.length_cons, List.length_nil, Nat.reduceAdd, Nat.reduceSub, Array.replicate_succ, Array.replicate_zero, List.push_toArray, List.append_toArray, List.nil_append, List.cons_append]
  gi_wp2
  gi_loopw [3] (fun i wr => ∃ k : Nat, k ≤ xs.length ∧ i = .int .i64 ((xs.length : Int) - 1 - (k : Int)) ∧ J (impl_refsText_upto (impl_refsText_f xs) k) wr ∧ Below n₀ w0 wr ∧ wr.cell? ⟨Bs, 0, none⟩ = some (.slice A xs.length cap))
    (fun i _ => (intOf i + 1).toNat)
  case atStart => exact ⟨0, Nat.zero_le _, by simp, h0, hWw, hBs⟩
  case round =>
    obtain ⟨k, hk, rfl, hJs, hnx, hbr⟩ := hrel
    by_cases hlt : k < xs.length
    · have h0i : 0 ≤ (xs.length : Int) - 1 - (k : Int) := by omega
      have h1i : (xs.length : Int) - 1 - (k : Int) < (xs.length : Int) := by omega
      obtain ⟨i, hi⟩ : ∃ i : Int, i = (xs.length : Int) - 1 - (k : Int) := ⟨_, rfl⟩
      rw [← hi] at h0i h1i
      obtain ⟨ad, rfl, hx0⟩ := Kd.at_int (Kd.C_below hC (hw.symm ▸ hnx)) i h0i h1i
      obtain ⟨fn, tmps, assign, body, hy, hR⟩ := hY _ (impl_refsText_f xs k) wr hJs (by rw [impl_refsText_upto_length]; exact hlt)
      obtain ⟨hh, hf⟩ : ∃ hh, impl_refsText_f xs k = ⟨i, rd xs i, hh⟩ := ⟨by omega, by subst hi; unfold impl_refsText_f; rw [dif_pos (by omega)]⟩
      rw [hf] at hy hR
      dsimp only [impl_refsText_encs] at hy
      have hwi : wrap64 (i - 1) = i - 1 := by unfold wrap64; omega
      rw [← hi]
      have HI := zm hi; have HF := zm hf; have HL := zm hlt
      have d0 : decide (0 ≤ i) = true := decide_eq_true h0i
      have p0 := eq_true h0i; have p1 := eq_true h1i; clear hi hf hlt h0i h1i hk hb0 hBs
      gi_wp2
      refine hR.mono ?_
      rintro e W3 (⟨rfl, hJ3, hk3⟩ | ⟨rfl, hJx3⟩)
      · gi_wp2
        go_roundw
        case rel => exact ⟨k + 1, by have := HL.out; omega, by have := HI.out; first | (rw [hwi, this]; congr 1; omega) | (rw [this]; congr 1; omega), by rw [impl_refsText_upto_succ, HF.out]; exact hJ3, hnx.trans hk3.1, hk3.2.trans hbr⟩
        case measure => have := HI.out; have := HL.out; first | (simp only [intOf, hwi]; omega) | (simp only [intOf]; omega)
      · gi_wp2
        refine bodyPost_ret (results_none rfl _ _ _) rfl ?_
        exact ⟨⟨_, rfl⟩, .inr ⟨_, ⟨k + 1, by have := HL.out; omega, by rw [impl_refsText_upto_succ, HF.out]⟩, hJx3⟩⟩
    · obtain rfl : k = xs.length := by omega
      have e1 : ((xs.length : Int) - 1 - (xs.length : Int)) = -1 := by omega
      rw [e1]
      gi_wp2
      go_end0
      exact ⟨⟨_, rfl⟩, .inl ⟨_, rfl, hJs⟩⟩
set_option maxHeartbeats 1000000 in
theorem impl_refsText_back (F : Fence) (n : Nat) (h5 : F.fn 135) (hro : F.round = none) (a : Option Addr) (len cap : Nat) (w : World) :
    CallsIn F n Tryz.prog 135 #[.slice a len cap] w fun e w' => e = .returned (.func (.func 146) #[] #[.pointer (some ⟨w.heap.size, 0, none⟩)]) ∧ w' = w.alloc (.cells #[.slice a len cap] 23) := by
  refine callsIn_of_wp Tryz.func135 rfl h5 ?_ hro
  simp only [Tryz.ntmps135, List.size_toArray, List.length_cons, List.length_nil, Nat.reduceAdd, Nat.reduceSub, Array.replicate_succ, Array.replicate_zero, List.push_toArray, List.append_toArray, List.nil_append, List.cons_append]
  gi_wp2
  go_ret
  exact ⟨rfl, rfl⟩
theorem impl_refsText_stops (F : Fence) (n : Nat) (h7 : F.fn 146) (hro : F.round = none) (hn : 1 ≤ n) (Bs n₀ : Nat) (A : Option Addr) (cap : Nat) (xs : List Int) (hreach : xs.length ≤ 24) (we w : World) (hwe : we.heap.size = n₀) (hew : Below n₀ we w) (hBs : Bs < w.heap.size)
    (hc : w.cell? ⟨Bs, 0, none⟩ = some (.slice A xs.length cap)) (hC : (Kd.int .i64).C we A xs.length xs) :
    SeqStopsK F n Tryz.prog 146 #[.pointer (some ⟨Bs, 0, none⟩)] impl_refsText_encs (impl_refsText_kp n₀ Bs) (fun ys => ys = impl_refsText_upto (impl_refsText_f xs) xs.length) (fun pre => ∃ k, k ≤ xs.length ∧ pre = impl_refsText_upto (impl_refsText_f xs) k) xs.length w := fun l J Jx W hW _ _ hY h0 =>
  impl_refsText_back1 F n h7 hro hn l Bs n₀ A cap xs we hwe hC hreach J Jx hY W (hew.trans (hW.mono (hwe ▸ hew.size))) ((hW.cell (p := ⟨Bs, 0, none⟩) hBs).trans hc) h0
def impl_refsText_step (s : Int × Int × Int × Int) (q : impl_refsText_E) : Int × Int × Int × Int :=
  if Int.tdiv q.c 6 = 0 then (wrap64 (wrap64 (16 * s.1) + q.v), s.2.1, s.2.2.1, s.2.2.2)
  else if Int.tdiv q.c 6 = 1 then (s.1, wrap64 (wrap64 (16 * s.2.1) + q.v), s.2.2.1, s.2.2.2)
  else if Int.tdiv q.c 6 = 2 then (s.1, s.2.1, wrap64 (wrap64 (16 * s.2.2.1) + q.v), s.2.2.2)
  else (s.1, s.2.1, s.2.2.1, wrap64 (wrap64 (16 * s.2.2.2) + q.v))
def impl_refsText_sel (s : Int × Int × Int × Int) (q : Int) : Int := if q = 0 then s.1 else if q = 1 then s.2.1 else if q = 2 then s.2.2.1 else s.2.2.2
def impl_refsText_fold (pre : List impl_refsText_E) : Int × Int × Int × Int := pre.foldl impl_refsText_step (0, 0, 0, 0)
def impl_refsText_arr (s : Int × Int × Int × Int) : Obj := .cells #[.int .i64 s.1, .int .i64 s.2.1, .int .i64 s.2.2.1, .int .i64 s.2.2.2] 3 (0, 0)
def impl_refsText_pack (xs : List Int) : List Int := [(impl_refsText_fold (impl_refsText_upto (impl_refsText_f xs) xs.length)).1, (impl_refsText_fold (impl_refsText_upto (impl_refsText_f xs) xs.length)).2.1, (impl_refsText_fold (impl_refsText_upto (impl_refsText_f xs) xs.length)).2.2.1, (impl_refsText_fold (impl_refsText_upto (impl_refsText_f xs) xs.length)).2.2.2]
def impl_refsText.f (k : Nat) (l0 : List Int) : Option ByteArray := if l0.length ≤ 24 then impl_seal.f k 2 (impl_refsText_pack l0) else none
def impl_refsText_plain : Op → Bool
  | .defer _ => false
  | _ => true
/-- What a region without defer statements does in a round's frame is what it does in a plain one. -/
theorem impl_refsText_op_in {P : Program} {ops : Array Oper} {Q : Exit → Act → World → Prop} {l n : Nat} (hd : ops.all (fun o => impl_refsText_plain o.op) = true) (hL : ¬ LetsOut Q) {i : Nat} {K K' : Act → World → Prop} (hK : ∀ a w, K a w → K' a w) {a : Act} {w : World} (h : wpOp P ops Q i K a w) : wpOpIn (Fence.wide.inRound l) n P ops Q i K' a w := by
  unfold wpOp at h
  unfold wpOpIn
  cases ho : ops[i]? with
  | none => rw [ho] at h; exact hK _ _ h
  | some o =>
    rw [ho] at h
    dsimp only at h ⊢
    by_cases hw : Region.wanted o (yielded ops a.tmps) = true
    · rw [if_pos hw] at h ⊢
      rcases h with h | ⟨_, h⟩
      · unfold Oper.wpIn
        refine ⟨fun _ _ => trivial, ?_⟩
        rw [show (Fence.wide.inRound l).round = some l from rfl, Oper.semAt_some l _ _ (fun c hc => by
          have h1 := Array.all_eq_true_iff_forall_mem.1 hd o (Array.mem_of_getElem? ho)
          rw [hc] at h1; cases h1)]
        unfold Oper.wp at h
        generalize (execOp a.eval o).run P w = r at h
        cases r with
        | ok x w' =>
          cases x with
          | value v => exact hK _ _ h
          | skip => exact hK _ _ h
          | defer d => exact hK _ _ h
          | enter f args => exact ⟨fun hx => (by cases hx), CallsIn.inRound l ((callsIn_wide (n := n - 1)).2 (Calls.mono h (fun e w hh => by cases e <;> first | exact hK _ _ hh | exact hh)))⟩
          | row row args => exact ⟨fun hx => (by cases hx), fun c cs _ => by obtain ⟨v, w1, r1, s1⟩ := h c cs; exact ⟨v, w1, hK _ _ r1, stepsIn_wide.2 s1⟩⟩
          | _ => exact h.elim
        | halt x w' => cases x <;> exact h
      · exact absurd h hL
    · rw [if_neg hw] at h ⊢
      exact ⟨fun _ _ => trivial, hK _ _ h⟩
theorem impl_refsText_any_in {P : Program} {ops : Array Oper} {Q : Exit → Act → World → Prop} {md : Region.Mode} {l n : Nat} (hd : ops.all (fun o => impl_refsText_plain o.op) = true) (hL : ¬ LetsOut Q) : ∀ (fuel : Nat) (listed : Array Bool) (a : Act) (w : World), wpAny P md ops Q fuel listed a w → wpAnyIn (Fence.wide.inRound l) n P md ops Q fuel listed a w
  | 0, _, _, _, h => h
  | fuel + 1, listed, a, w, h => ⟨h.1, fun i hi => impl_refsText_op_in hd hL (impl_refsText_any_in hd hL fuel _) (h.2 i hi)⟩
theorem impl_refsText_region {P : Program} {ops : Array Oper} {Q : Exit → Act → World → Prop} {S : World → Prop} {ds : List Nat} {id l n m : Nat} (hm : P.follows .mixedOrders = true) (hs : ops.size = m) (hd : ops.all (fun o => impl_refsText_plain o.op) = true) (hL : ¬ LetsOut Q) {a : Act} {w : World} (lst : Array Bool) (hl : Array.replicate m false = lst)
    (h : wpAnyLast P .any ops Q S ds m lst a w.drew) : (Code.region id ops true).wpIn (Fence.wide.inRound l) n P Q a w := by
  subst hs; subst hl
  exact wpIn_region_any hm (impl_refsText_any_in hd hL _ _ _ _ (wpAny_of_last _ _ _ _ h))
theorem impl_refsText_chain (w : World) (o0 o1 o2 : Obj) : ∃ W0, ((w.alloc o0).alloc o1).alloc o2 = W0 ∧ W0.heap.size = w.heap.size + 3 ∧ W0.heap[w.heap.size]? = some o0 ∧ W0.heap[w.heap.size + 1]? = some o1 ∧ W0.heap[w.heap.size + 1 + 1]? = some o2 ∧ Below w.heap.size w W0 := by
  refine ⟨_, rfl, by simp, blk_alloc (blk_alloc (blk_new w _) _) _, ?_, ?_, ?_⟩
  · have := blk_new (w.alloc o0) o1
    rw [World.size_alloc] at this
    exact blk_alloc this _
  · have := blk_new ((w.alloc o0).alloc o1) o2
    rw [World.size_alloc, World.size_alloc] at this
    exact this
  · exact below_alloc (below_alloc (below_alloc (Below.refl _ _) _) _) _
set_option maxRecDepth 100000 in
set_option maxHeartbeats 8000000 in
theorem impl_refsText.calls (k : Nat) (A0 : Option Addr) (c0 : Nat) (l0 : List Int) (r : ByteArray) (w : World) (hr0 : Kd.C (Kd.int .i64) w A0 l0.length l0) (hc0 : l0.length ≤ c0) (h : impl_refsText.f k l0 = some r) :
    Calls Tryz.prog 99 #[.slice A0 l0.length c0] w fun e w' => e = .returned (.string r) ∧ Below w.heap.size w w' := by
 have hl : l0.length ≤ 24 := by
  by_cases c : l0.length ≤ 24
  ·exact c
  ·unfold impl_refsText.f at h; rw [if_neg c] at h; cases h
 unfold impl_refsText.f at h
 rw [if_pos hl] at h
 refine (callsIn_wide (n := 9)).1 ?_
 have hSeal : ∀ (A1 : Option Addr) (c1 : Nat) (l1 : List Int) (r : ByteArray) (w : World), Kd.C (Kd.int .i64) w A1 l1.length l1 → l1.length ≤ c1 → impl_seal.f k 2 l1 = some r → CallsIn Fence.wide (9 - 1) Tryz.prog 98 #[.int .i64 2, .slice A1 l1.length c1] w fun e w' => e = .returned (.string r) ∧ Below w.heap.size w w' := fun A1 c1 l1 r w h1 h2 h3 => callsIn_wide.2 (impl_seal.calls k 2 A1 c1 l1 r w h1 h2 h3)
 have hK : Fence.wide.fn 99 := trivial
 have h6 : Fence.wide.fn 135 := trivial
 have h8 : Fence.wide.fn 146 := trivial
 have h9 : Fence.wide.fn 98 := trivial
 have hro : Fence.wide.round = none := rfl
 obtain ⟨F, hF⟩ : ∃ F, F = Fence.wide := ⟨_, rfl⟩
 rw [← hF] at hSeal hK h6 h8 h9 hro ⊢
 have HF := zm hF; clear hF
 refine callsIn_of_wp_marks Tryz.func99 rfl hK ?_ hro
 simp only [Tryz.ntmps99, List.size_toArray, List.length_cons, List.length_nil, Nat.reduceAdd, Nat.reduceSub, Array.replicate_succ, Array.replicate_zero, List.push_toArray, List.append_toArray, List.nil_append, List.cons_append]
 have em : madeCells #[Value.int .i64 0] 4 = #[.int .i64 0, .int .i64 0, .int .i64 0, .int .i64 0] := by kernel_rfl
 have hm : ∀ W : World, (Instr.makeSlice 23 (.int .i64 4) (.int .i64 4)).run Tryz.prog W = .ok (.slice (some ⟨W.heap.size, 0, none⟩) 4 4) (W.alloc (.cells #[.int .i64 0, .int .i64 0, .int .i64 0, .int .i64 0] 3 (0, 0))) := fun W => by
  have := print_make (P := Tryz.prog) 23 3 .i64 8 Tryz.underlying23 info3 (by decide) 4 (by decide) W
  rw [em] at this
  exact this
 gi_wp2_with (gi_at_call 135; refine (impl_refsText_back F (9 - 1) h6 hro _ _ _ _).mono ?_; rintro e w' ⟨rfl, rfl⟩)
 obtain ⟨W0, hW0, hsz, b0, b1, b2, hB0⟩ := impl_refsText_chain w (.cells #[.int .i64 0, .int .i64 0, .int .i64 0, .int .i64 0] 3 (0, 0)) (.cells #[.slice (some ⟨w.heap.size, 0, none⟩) 4 4] 23 (0, 0)) (.cells #[.slice A0 l0.length c0] 23 (0, 0))
 rw [hW0]
 clear hW0
 have h1 : 1 ≤ 9 := by omega
 refine wpIn_rangeFunc_ownH hro h1 (gf := 146) (lb := #[.pointer (some ⟨w.heap.size + 1 + 1, 0, none⟩)]) rfl h8 (enters_of Tryz.func146 (by kernel_rfl) rfl)
  (impl_refsText_stops F (9 - 1) h8 hro (by omega) (w.heap.size + 1 + 1) w.heap.size A0 c0 l0 hl w W0 rfl hB0 (by omega) ((blk_cell b2 0).trans rfl) hr0)
  (impl_refsText_kp_t _ _) (fun W l o o' h1 h2 h3 h4 => ⟨belowK_b (w := W0) (by omega) W l o o' h1 h2 h3 h4, (belowK_b (w := W0) (Nat.le_refl _) W l o o' h1 h2 h3 h4).cell (p := ⟨w.heap.size + 1 + 1, 0, none⟩) (by simp; omega)⟩) (Below.refl _ _) (fun _ => rfl)
  (fun pre W => W.heap[w.heap.size]? = some (impl_refsText_arr (impl_refsText_fold pre)) ∧ W.heap[w.heap.size + 1]? = some (.cells #[.slice (some ⟨w.heap.size, 0, none⟩) 4 4] 23 (0, 0)) ∧ Below w.heap.size w W)
  (fun c pre W => False)
  (fun s X Y row hs hg hr => ⟨(grownBy_keeps_cells hg (fun r e => (hr r e).2) hs.1 rfl).trans hs.1, (grownBy_keeps_cells hg (fun r e => (hr r e).2) hs.2.1 rfl).trans hs.2.1, ownFrom_below (β := Unit) (Nat.le_refl _) (by omega) () X Y row hs.2.2 hg hr⟩)
  (fun c s X Y row hs hg hr => hs)
  ⟨b0, b1, hB0⟩
  (fun x a' _ => a' = { tmps := #[.slice A0 l0.length c0, undef, .string ⟨#[]⟩, .pointer (some ⟨w.heap.size + 1, 0, none⟩), .int .i64 x.c, .int .i64 x.v, .slice (some ⟨w.heap.size, 0, none⟩) 4 4, .slice A0 l0.length c0, .func (.func 146) #[] #[.pointer (some ⟨w.heap.size + 1 + 1, 0, none⟩)], .int .i64 x.c, .int .i64 x.v, undef, undef, undef, undef, undef, undef, undef, undef, undef, undef, undef, undef, undef, undef], defers := [] })
  (fun _ _ _ _ _ _ hs _ _ => hs)
  ?assign ?body ?done ?stop
 case assign =>
  rintro l pre x W K hi hK
  dsimp only [impl_refsText_encs]
  gi_wp2
  exact hK _ _ (KeepsFrom.refl _ _) ⟨Below.refl _ _, rfl⟩ hi rfl
 case body =>
  rintro l pre ⟨c, v, hc0, hc1⟩ a' W hl2 ⟨r2, hr2⟩ ⟨e0, e1, hB⟩ rfl hlt
  obtain ⟨⟨s0, s1, s2, s3⟩, hs⟩ : ∃ s, s = impl_refsText_fold pre := ⟨_, rfl⟩
  rw [← hs] at e0
  have cL : W.cell? ⟨w.heap.size + 1, 0, none⟩ = some (.slice (some ⟨w.heap.size, 0, none⟩) 4 4) := (blk_cell e1 0).trans rfl
  have x0 : W.cell? ⟨w.heap.size, 0, none⟩ = some (.int .i64 s0) := (blk_cell e0 0).trans rfl
  have x1 : W.cell? ⟨w.heap.size, 1, none⟩ = some (.int .i64 s1) := (blk_cell e0 1).trans rfl
  have x2 : W.cell? ⟨w.heap.size, 2, none⟩ = some (.int .i64 s2) := (blk_cell e0 2).trans rfl
  have x3 : W.cell? ⟨w.heap.size, 3, none⟩ = some (.int .i64 s3) := (blk_cell e0 3).trans rfl
  have fz := blk_frozen e0 0
  have ed : Int.tdiv c 6 = c / 6 := Int.tdiv_eq_ediv_of_nonneg hc0
  obtain ⟨q, hq⟩ : ∃ q, q = Int.tdiv c 6 := ⟨_, rfl⟩
  have q0 : 0 ≤ q := by omega
  have q1 : q < 4 := by omega
  obtain ⟨sv, hsv⟩ : ∃ sv, sv = impl_refsText_sel (s0, s1, s2, s3) q := ⟨_, rfl⟩
  have cQ : W.cell? ⟨w.heap.size, q.toNat, none⟩ = some (.int .i64 sv) := by
   have : q = 0 ∨ q = 1 ∨ q = 2 ∨ q = 3 := by omega
   rcases this with h | h | h | h <;> rw [h] at hsv ⊢ <;> subst hsv <;> assumption
  have hwq : wrap64 (Int.tdiv c 6) = q := by rw [← hq]; unfold wrap64; omega
  have eq_ : Int.tdiv c 6 = q := hq.symm
  have wQ : IntKind.i64.wrap q = q := by rw [IntKind.wrap_i64]; omega
  dsimp only
  have P0 := eq_true q0; have P1 := eq_true q1; have HSV := zm hsv; have HS := zm hs; clear ed q0 q1 hq x0 x1 x2 x3 hsv hs
  gi_wp2
  rw [HF.out]
  refine impl_refsText_region (S := fun w' => w'.cell? ⟨w.heap.size + 1, 0, none⟩ = some (.slice (some ⟨w.heap.size, 0, none⟩) 4 4) ∧ w'.cell? ⟨w.heap.size, q.toNat, none⟩ = some (.int .i64 sv)) (ds := [12]) (m := 13) (by kernel_rfl) rfl ?rd ?rL #[false, false, false, false, false, false, false, false, false, false, false, false, false] rfl ?rw
  case rd => kernel_rfl
  case rL => rintro ⟨a, w, h⟩; exact h
  case rw =>
  have hH : W.drew.cell? ⟨w.heap.size + 1, 0, none⟩ = some (.slice (some ⟨w.heap.size, 0, none⟩) 4 4) ∧ W.drew.cell? ⟨w.heap.size, q.toNat, none⟩ = some (.int .i64 sv) := ⟨cL, cQ⟩
  refine pure_ (i := 1) (N := some 12) (v := ?_) (a' := ?_) #[false, true, false, false, false, false, false, false, false, false, false, false, false] rfl rfl (by kernel_rfl) (fun _ _ _ h => h) (Or.inl ⟨by rfl, ?_⟩) ?_ ?_
  rotate_left
  ·intro w'
   go_simp
   with_reducible rfl
  rotate_left
  ·simp only [Act.put, zs, zz, zt]
   rfl
  refine pure_ (i := 2) (N := some 13) (v := ?_) (a' := ?_) #[false, true, true, false, false, false, false, false, false, false, false, false, false] rfl rfl (by kernel_rfl) (fun _ _ _ h => h) (Or.inl ⟨by rfl, ?_⟩) ?_ ?_
  rotate_left
  ·intro w'
   go_simp
   with_reducible rfl
  rotate_left
  ·simp only [Act.put, zs, zz, zt]
   rfl
  refine pure_ (i := 4) (N := some 15) (v := ?_) (a' := ?_) #[false, true, true, false, true, false, false, false, false, false, false, false, false] rfl rfl (by kernel_rfl) (fun _ _ _ h => h) (Or.inl ⟨by rfl, ?_⟩) ?_ ?_
  rotate_left
  ·intro w'
   go_simp
   with_reducible rfl
  rotate_left
  ·simp only [Act.put, zs, zz, zt]
   rfl
  refine pure_ (i := 5) (N := some 16) (v := ?_) (a' := ?_) #[false, true, true, false, true, true, false, false, false, false, false, false, false] rfl rfl (by kernel_rfl) (fun _ _ _ h => h) (Or.inl ⟨by rfl, ?_⟩) ?_ ?_
  rotate_left
  ·intro w'
   go_simp
   with_reducible rfl
  rotate_left
  ·simp only [Act.put, zs, zz, zt]
   rfl
  refine pure_ (i := 9) (N := some 20) (v := ?_) (a' := ?_) #[false, true, true, false, true, true, false, false, false, true, false, false, false] rfl rfl (by kernel_rfl) (fun _ _ _ h => h) (Or.inl ⟨by rfl, ?_⟩) ?_ ?_
  rotate_left
  ·intro w'
   go_simp
   with_reducible rfl
  rotate_left
  ·simp only [Act.put, zs, zz, zt]
   rfl
  refine take_ (i := 0) (N := some 11) (v := ?_) (a' := ?_) #[true, true, true, false, true, true, false, false, false, true, false, false, false] rfl rfl (by kernel_rfl) (fun _ _ _ h => h) (Or.inl ⟨by rfl, ?_⟩) hH ?_ ?_
  rotate_left
  ·rintro w' ⟨h1_, h2_⟩
   go_simp
   with_reducible rfl
  rotate_left
  ·simp only [Act.put, zs, zz, zt]
   rfl
  refine take_ (i := 3) (N := some 14) (v := ?_) (a' := ?_) #[true, true, true, true, true, true, false, false, false, true, false, false, false] rfl rfl (by kernel_rfl) (fun _ _ _ h => h) (Or.inl ⟨by rfl, ?_⟩) hH ?_ ?_
  rotate_left
  ·rintro w' ⟨h1_, h2_⟩
   go_simp
   with_reducible rfl
  rotate_left
  ·simp only [Act.put, zs, zz, zt]
   rfl
  refine pure_ (i := 6) (N := some 17) (v := ?_) (a' := ?_) #[true, true, true, true, true, true, true, false, false, true, false, false, false] rfl rfl (by kernel_rfl) (fun _ _ _ h => h) (Or.inl ⟨by rfl, ?_⟩) ?_ ?_
  rotate_left
  ·intro w'
   go_simp
   with_reducible rfl
  rotate_left
  ·simp only [Act.put, zs, zz, zt]
   rfl
  refine take_ (i := 7) (N := some 18) (v := ?_) (a' := ?_) #[true, true, true, true, true, true, true, true, false, true, false, false, false] rfl rfl (by kernel_rfl) (fun _ _ _ h => h) (Or.inl ⟨by rfl, ?_⟩) hH ?_ ?_
  rotate_left
  ·rintro w' ⟨h1_, h2_⟩
   go_simp
   with_reducible rfl
  rotate_left
  ·simp only [Act.put, zs, zz, zt]
   rfl
  refine pure_ (i := 8) (N := some 19) (v := ?_) (a' := ?_) #[true, true, true, true, true, true, true, true, true, true, false, false, false] rfl rfl (by kernel_rfl) (fun _ _ _ h => h) (Or.inl ⟨by rfl, ?_⟩) ?_ ?_
  rotate_left
  ·intro w'
   go_simp
   with_reducible rfl
  rotate_left
  ·simp only [Act.put, zs, zz, zt]
   rfl
  refine pure_ (i := 10) (N := some 21) (v := ?_) (a' := ?_) #[true, true, true, true, true, true, true, true, true, true, true, false, false] rfl rfl (by kernel_rfl) (fun _ _ _ h => h) (Or.inl ⟨by rfl, ?_⟩) ?_ ?_
  rotate_left
  ·intro w'
   go_simp
   with_reducible rfl
  rotate_left
  ·simp only [Act.put, zs, zz, zt]
   rfl
  refine pure_ (i := 11) (N := some 22) (v := ?_) (a' := ?_) #[true, true, true, true, true, true, true, true, true, true, true, true, false] rfl rfl (by kernel_rfl) (fun _ _ _ h => h) (Or.inl ⟨by rfl, ?_⟩) ?_ ?_
  rotate_left
  ·intro w'
   go_simp
   with_reducible rfl
  rotate_left
  ·simp only [Act.put, zs, zz, zt]
   rfl
  have wE : ∀ x, IntKind.i64.wrap x = wrap64 x := fun x => by rw [IntKind.wrap_i64]; unfold wrap64; omega
  have wv : IntKind.i64.wrap (IntKind.i64.wrap (16 * sv) + v) = wrap64 (wrap64 (16 * sv) + v) := by rw [wE, wE]
  refine last_ (i := 12) (N := none) #[true, true, true, true, true, true, true, true, true, true, true, true, true] rfl rfl (by kernel_rfl) (by decide) (fun K hK => ?_)
  have cQ' : W.drew.cell? ⟨w.heap.size, q.toNat, none⟩ = some (.int .i64 sv) := cQ
  have fQ' : W.drew.frozen? ⟨w.heap.size, q.toNat, none⟩ = false := blk_frozen e0 _
  refine skip_ (w1 := ?_) (by rfl) rfl ?_ ?_
  rotate_left
  ·go_simp
   rfl
  refine hK.out _ _ ?_
  clear hK K
  refine done_ (by kernel_rfl) ?_
  have hsv := HSV.out; have hs := HS.out
  have hp := blk_put (blk_drew e0) q.toNat (.int .i64 (wrap64 (wrap64 (16 * sv) + v))) (cs' := #[.int .i64 (impl_refsText_step (s0, s1, s2, s3) ⟨c, v, hc0, hc1⟩).1, .int .i64 (impl_refsText_step (s0, s1, s2, s3) ⟨c, v, hc0, hc1⟩).2.1, .int .i64 (impl_refsText_step (s0, s1, s2, s3) ⟨c, v, hc0, hc1⟩).2.2.1, .int .i64 (impl_refsText_step (s0, s1, s2, s3) ⟨c, v, hc0, hc1⟩).2.2.2]) (by
   unfold impl_refsText_step
   dsimp only
   rw [eq_]
   have : q = 0 ∨ q = 1 ∨ q = 2 ∨ q = 3 := by have := of_eq_true P0; have := of_eq_true P1; omega
   rcases this with h | h | h | h <;> rw [h] at hsv ⊢ <;> subst hsv <;> rfl)
  rw [wv]
  refine ⟨((KeepsOthers.drew W).trans (KeepsOthers.setCell _ _ _)).from _, ⟨(Below.drew (Below.refl _ W)).setCell (p := ⟨w.heap.size, q.toNat, none⟩) (Nat.le_refl _) _, World.cell?_setCell_other _ _ _ _ (by intro e; have := congrArg Addr.block e; dsimp only at this; omega)⟩, ?_, ?_, ?_⟩
  ·rw [impl_refsText_fold, List.foldl_append, List.foldl_cons, List.foldl_nil, ← impl_refsText_fold, ← hs]; exact hp
  ·exact blk_far (blk_drew e1) (by simp) _
  ·exact (Below.drew hB).setCell (p := ⟨w.heap.size, q.toNat, none⟩) (Nat.le_refl _) _
 case done =>
  rintro D ys W hD rfl ⟨e0, e1, hB⟩ hK
  have cL : W.cell? ⟨w.heap.size + 1, 0, none⟩ = some (.slice (some ⟨w.heap.size, 0, none⟩) 4 4) := (blk_cell e1 0).trans rfl
  have hC : Kd.C (Kd.int .i64) W (some ⟨w.heap.size, 0, none⟩) (impl_refsText_pack l0).length (impl_refsText_pack l0) := by
   refine Kd.C_of_reads (enc := Value.int .i64) (d := (0 : Int)) (h1 := fun _ => rfl) ⟨rfl, (show 4 ≤ 9223372036854775807 by omega), fun _ => ⟨_, rfl, fun j hj => ?_⟩⟩
   have hj' : j < 4 := hj
   have : j = 0 ∨ j = 1 ∨ j = 2 ∨ j = 3 := by omega
   rcases this with rfl | rfl | rfl | rfl <;> exact (blk_cell e0 _).trans rfl
  gi_wp2_with (gi_at_call 98; refine (hSeal (some ⟨w.heap.size, 0, none⟩) 4 (impl_refsText_pack l0) r W hC (Nat.le_refl 4) h).mono ?_; rintro e w' ⟨rfl, hb⟩)
  have hK' : w'.heap[D]? = some (.deferred (some [])) := (hb.block D (blk_lt hK)).trans hK
  refine ⟨by simp, .inl ⟨_, _, rfl, run_takeDeferred hK', ?_⟩⟩
  refine ⟨.string r, ?_, rfl, (hB.trans (hb.mono hB.size)).trans (belowK_b (w := w) (Nat.le_refl _) w' D _ _ (by omega) hK' rfl rfl)⟩
  simp [results, Tryz.f99, go_sem]
 case stop => rintro D c pre W hD hp hx hK; exact hx.elim
theorem impl_refsText.mono : ∀ a0 k, LeO (impl_refsText.f k a0) (impl_refsText.f (k + 1) a0) := fun _ _ => LeO.ite (impl_seal.mono _ _ _) (LeO.none _)
end
end Go.Proofs.YtglcnnmobkocmaaGreat.Q
