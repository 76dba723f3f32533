/- What laws.FnExactReadReq reaches, part 2: the functions as Lean functions, the proofs that the program's functions answer so, and plain laws about them. -/
import Derived.Test.YtniceoohmhjjlaaDoorKFnExactReadReq1
namespace Go.Proofs.YtniceoohmhjjlaaDoor.Q
open Go.RowKit Go.Proofs.YtniceoohmhjjlaaDoor.Ext Go.Proofs.YtniceoohmhjjlaaDoorW.PrintWords Go.Proofs.YtniceoohmhjjlaaDoorW.PrintLast Go.Proofs.YtniceoohmhjjlaaDoorW.PrintMore
attribute [local go_sem] max2_int min2_int max_two min_two max_three min_three max_four min_four   -- for this text's walks alone
set_option linter.unusedVariables false
set_option linter.unusedSimpArgs false

set_option linter.unusedVariables false
set_option linter.unusedSimpArgs false
/-! ### impl_readNumber: function 69 -/
def impl_readNumber.f (a0 : ByteArray) : Option (Int × Bool) := if a0.size ≤ 1000000 then (match Lib.atoiAll a0.data.toList with
  | .ok v => (impl_isNumber.f v).bind fun b => if b = true then (strconv_Itoa_95.f v).bind fun t => some (v, t.toList == a0.toList) else some (v, false)
  | .range => some (Lib.atoiSat a0.data.toList, false)
  | _ => some (0, false)) else none
set_option maxHeartbeats 4000000 in
set_option maxRecDepth 100000 in
theorem impl_readNumber.calls (a0 : ByteArray) (r0 : Int) (r1 : Bool) (w : World) (h : impl_readNumber.f a0 = some (r0, r1)) (HTB_ : TrydTab w := by first | exact HTB_ | exact TrydTab.to HTB_ HB.out | exact TrydTab.to HTB_ (by repeat (first | exact HB.out | apply below_alloc | apply pw_below_drewN | apply below_drew1 | refine below_set ?_ (Aside0.out (by assumption))))) :
    Calls Tryd.prog 69 #[.string a0] w fun e w' => e = .returned (.tuple #[.int .i64 r0, .bool r1]) ∧ Below w.heap.size w w' := by
 unfold impl_readNumber.f at h
 by_cases hs : a0.size ≤ 1000000
 ·rw [if_pos hs] at h
  have HS := zm hs
  have HB := zm (Below.refl w.heap.size w)
  cases hx : Lib.atoiAll a0.data.toList with
  | ok v =>
   rw [hx] at h
   have h := h
   obtain ⟨b, hb, h⟩ := Option.bind_eq_some_iff.mp h
   have HX := zm (Any.strconv_Atoi_ok Tryd.laysAtoi a0 (by omega) v hx w)
   have HI := zm hb
   clear hx hb hs
   cases b with
   | true =>
    rw [if_pos rfl] at h
    obtain ⟨t, ht, h⟩ := Option.bind_eq_some_iff.mp h
    have HT := zm ht
    obtain ⟨rfl, rfl⟩ := Prod.mk.inj (Option.some.inj h)
    clear h ht
    go_enter Tryd.func69, Tryd.ntmps69
    go_wp2_with (first
     | ((with_reducible refine gate_callee (f := 94) rfl ?_); refine goesL_ (some 8) rfl rfl Tryd.func94 (by kernel_rfl) rfl #[.string a0] rfl (by (try simp only [List.map_toArray, List.map_cons, List.map_nil]); first | done | rfl) ?_; refine HX.out.mono ?_; rintro e w2 ⟨rfl, hw⟩; refine ⟨_, rfl, ?_⟩; have B2 := zm (show Below w.heap.size w w2 from by (rcases hw with rfl | ⟨t_, rfl⟩ <;> first | exact Below.refl _ _ | exact Lib.bytesWorld_below _ _ _)); have T2 := zm (TrydTab.to HTB_ B2.out); clear hw HB HX)
     | (go_at_call 48; (with_reducible refine (impl_isNumber.calls v true _ HI.out).mono ?_); rintro e w' ⟨rfl, ⟨nd, rfl⟩⟩)
     | (go_at_call 95; (with_reducible refine (strconv_Itoa_95.calls v t _ HT.out (HTB_ := ?tab)).mono ?_); (case tab => exact TrydTab.to T2.out (by repeat (first | exact (Below.refl _ _) | apply below_alloc | apply pw_below_drewN | apply below_drew1))); rintro e w3 ⟨rfl, hb⟩; have B3 := zm (below_step (by repeat (with_reducible first | exact B2.out | apply below_alloc | apply pw_below_drewN | apply below_drew1)) hb); clear hb))
    go_ret2
    exact ⟨zr, by repeat (with_reducible first | exact B3.out | apply below_alloc | apply pw_below_drewN | apply below_drew1)⟩
   | false =>
    rw [if_neg (by decide)] at h
    obtain ⟨rfl, rfl⟩ := Prod.mk.inj (Option.some.inj h)
    clear h
    go_enter Tryd.func69, Tryd.ntmps69
    go_wp2_with (first
     | ((with_reducible refine gate_callee (f := 94) rfl ?_); refine goesL_ (some 8) rfl rfl Tryd.func94 (by kernel_rfl) rfl #[.string a0] rfl (by (try simp only [List.map_toArray, List.map_cons, List.map_nil]); first | done | rfl) ?_; refine HX.out.mono ?_; rintro e w2 ⟨rfl, hw⟩; refine ⟨_, rfl, ?_⟩; have B2 := zm (show Below w.heap.size w w2 from by (rcases hw with rfl | ⟨t_, rfl⟩ <;> first | exact Below.refl _ _ | exact Lib.bytesWorld_below _ _ _)); clear hw HB HX)
     | (go_at_call 48; (with_reducible refine (impl_isNumber.calls v false _ HI.out).mono ?_); rintro e w' ⟨rfl, ⟨nd, rfl⟩⟩))
    go_ret2
    exact ⟨zr, by repeat (with_reducible first | exact B2.out | apply below_alloc | apply pw_below_drewN | apply below_drew1)⟩
  | range =>
   rw [hx] at h
   obtain ⟨ev, hv, hev⟩ := HTB_.2.2.2
   have HX := zm (Any.strconv_Atoi_range Tryd.laysAtoi a0 (by omega) hx ev w hv hev)
   obtain ⟨rfl, rfl⟩ := Prod.mk.inj (Option.some.inj h)
   clear hx h hs hv hev
   go_enter Tryd.func69, Tryd.ntmps69
   go_wp2_with (first
    | ((with_reducible refine gate_callee (f := 94) rfl ?_); refine goesL_ (some 8) rfl rfl Tryd.func94 (by kernel_rfl) rfl #[.string a0] rfl (by (try simp only [List.map_toArray, List.map_cons, List.map_nil]); first | done | rfl) ?_; refine HX.out.mono ?_; rintro e w2 ⟨N_, rfl, _, _, hb⟩; refine ⟨_, rfl, ?_⟩; have B2 := zm hb; clear hb HB HX))
   go_ret2
   exact ⟨zr, by repeat (with_reducible first | exact B2.out | apply below_alloc | apply pw_below_drewN | apply below_drew1)⟩
  | _ =>
   rw [hx] at h
   obtain ⟨ev, hv, hev⟩ := HTB_.2.2.1
   have HX := zm (Any.strconv_Atoi_syntax Tryd.laysAtoi a0 (by omega) hx ev w hv hev)
   obtain ⟨rfl, rfl⟩ := Prod.mk.inj (Option.some.inj h)
   clear hx h hs hv hev
   go_enter Tryd.func69, Tryd.ntmps69
   go_wp2_with (first
    | ((with_reducible refine gate_callee (f := 94) rfl ?_); refine goesL_ (some 8) rfl rfl Tryd.func94 (by kernel_rfl) rfl #[.string a0] rfl (by (try simp only [List.map_toArray, List.map_cons, List.map_nil]); first | done | rfl) ?_; refine HX.out.mono ?_; rintro e w2 ⟨N_, rfl, _, _, hb⟩; refine ⟨_, rfl, ?_⟩; have B2 := zm hb; clear hb HB HX))
   go_ret2
   exact ⟨zr, by repeat (with_reducible first | exact B2.out | apply below_alloc | apply pw_below_drewN | apply below_drew1)⟩
 ·rw [if_neg hs] at h; cases h
end Go.Proofs.YtniceoohmhjjlaaDoor.Q
