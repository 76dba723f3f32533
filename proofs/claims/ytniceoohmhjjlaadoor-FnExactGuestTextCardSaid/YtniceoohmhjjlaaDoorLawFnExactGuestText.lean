/- The row of laws.FnExactGuestText: whatever the input, it returns true and leaves its arguments as they were. No condition. -/
import Derived.Test.YtniceoohmhjjlaaDoorCards
import Derived.Test.YtniceoohmhjjlaaDoorTie
import Derived.LaidMore
import Derived.Lay
import Derived.SevenTiedAt
import Derived.Stop.Joined
import Derived.Handed
import Derived.MakeChecks
import Derived.Lib.LaidTab
import Derived.Stop.LaidErr
import Derived.Test.YtniceoohmhjjlaaDoorPureFnExactGuestText
import Derived.Test.YtniceoohmhjjlaaDoorVFnExactGuestTextOpn
import Derived.WalkKit
import Derived.ProofKit
import Derived.OpenShut
import Derived.ShutString
import Derived.ChangeOld
import Derived.Below
import Derived.SizedLaws
namespace Go.Proofs.YtniceoohmhjjlaaDoor.fnExactGuestText
open Go.ChangeShapes Go.WideShapes Go.ChangeAt Go.RowKit
open Go.Proofs.YtniceoohmhjjlaaDoor.Opn Go.Proofs.YtniceoohmhjjlaaDoor.Ext Go.Proofs.YtniceoohmhjjlaaDoor.Q Go.Proofs.YtniceoohmhjjlaaDoor.Q.FnExactGuestText Go.Proofs.YtniceoohmhjjlaaDoorW.PrintWords Go.Proofs.YtniceoohmhjjlaaDoorW.PrintLast Go.Proofs.YtniceoohmhjjlaaDoorW.PrintMore
set_option linter.unusedVariables false
set_option linter.unusedSimpArgs false
theorem own : ownKnob Tryd.prog.godebug = none := by kernel_rfl
theorem laidOut : laidOutB Tryd.prog = true := by kernel_rfl
instance : Inhabited S100 := ⟨z100⟩
theorem o100 : Opn Tryd.prog 100 k100 ok100 := opn_iso (opn_struct Tryd.underlying100 (by kernel_rfl) (opnF_cons (opn_string Tryd.underlying9 (by kernel_rfl)) (by rfl) (opnF_one (opn_slice Tryd.underlying46 (by kernel_rfl) (opn_int Tryd.underlying3 (by kernel_rfl))) (by rfl)))) (fun x : S100 => (x.f0, x.f1)) (fun a => ⟨a.1, a.2⟩) (fun _ => rfl)
set_option maxRecDepth 100000 in
set_option maxHeartbeats 1000000 in
theorem lifted (os : Os) (started : os.Started) (H : Type) (enc : TypeId × Value → H) :
    ReturnsInHanded {} Tryd.checked os 7 .any (fun w args => (Rows.fnExactGuestTextSpec.pre enc Tryd.prog Tryd.f7 Rows.fnExactGuestTextRow.domain false w args ∧ laidMetH Tryd.prog Rows.fnExactGuestTextRow.laid w) ∧ sizedMet enc Tryd.prog Tryd.f7 (OpenSpec.ofChange Rows.fnExactGuestTextSpec) false w args) (Rows.fnExactGuestTextSpec.post enc Tryd.prog Tryd.f7 false true false false) := by
  refine returnsInHanded_of_change_and (C := Tryd.checked) (X := fun w _ => laidMetH Tryd.prog Rows.fnExactGuestTextRow.laid w) (fun _ _ _ hh h => h.of_heap hh) own started (by kernel_rfl) Tryd.func7
    (ChangeSpec.witness_shaped (enc := enc) (C := Tryd.checked) (os := os) (X := fun w _ => laidMetH Tryd.prog Rows.fnExactGuestTextRow.laid w) false (World.laidAll Tryd.prog os Rows.fnExactGuestTextRow.laid) #[.agg #[.slice none 0 0, .slice none 0 0]] 8 (World.laidAll_os _ _ _)
      (World.shaped_of_ZipB (by kernel_rfl) (by kernel_rfl)) (by kernel_rfl) (by kernel_rfl) (by kernel_rfl)
      (by rw [MakeChecks.laidMetH_plain _ _ _ (by kernel_rfl)]; exact laidMet_laidAll _ (by kernel_rfl) (by kernel_rfl))) ?_
  intro W base args ds gs before hval0 hW hcnd _ hL _
  have htab : TrydTab W := by
    have hL2 := hL
    rw [MakeChecks.laidMetH_plain _ _ _ (by kernel_rfl)] at hL2
    exact Lib.tabIs_of_head (g := 3) (t := 180) (e := 155) (by kernel_rfl) (by kernel_rfl) Tryd.underlying180 Tryd.underlying155 (by kernel_rfl) (by kernel_rfl) (laidMet.tail (laidMet.tail hL2))
  clear hL
  have hval : ∀ (j : Nat) t v, Tryd.f7.params[j]? = some t → args[j]? = some v → Value.okWide Tryd.prog W .any base t v := hval0
  have hW' := hW
  obtain ⟨p, q, hA0, hV, rfl, hfz, hnd⟩ := hW
  have hA : DataW.TrodAll enc Tryd.prog W 0 (fun _ => true) true Tryd.f7.params.toList args.toList ds p := hA0
  rw [Tryd.params7] at hA hval
  obtain ⟨v0, vs0, d0, ds0, p0, q0, hargs, rfl, rfl, h0, r0⟩ := trodAll_cons hA
  obtain ⟨rfl, rfl, rfl⟩ := trodAll_nil r0
  obtain rfl : args = #[v0] := by cases args; simp_all
  obtain ⟨rfl, rfl⟩ := trodVars_none hV
  have k0 := h0
  have lt0 : ∀ x ∈ p0, x.block < W.heap.size := by obtain ⟨m, hm⟩ := k0; exact DataW.trod_lt m _ _ _ hm
  obtain ⟨cs0, rfl, hsz0⟩ := okWide_struct Tryd.underlying49 (hval 0 49 v0 rfl rfl)
  obtain ⟨fu0, hf0⟩ := h0
  obtain ⟨x0, hK0, hok0⟩ := ((opn_struct Tryd.underlying49 (by kernel_rfl) (opnF_cons (opn_slice Tryd.underlying46 (by kernel_rfl) (opn_int Tryd.underlying3 (by kernel_rfl))) (by rfl) (opnF_one (opn_slice Tryd.underlying47 (by kernel_rfl) o100) (by rfl))))).op hf0
  have hK0' : ∃ cs, cs0.toList = cs ∧ Kd.K (Kd.pair (Kd.slice 3 (Kd.int .i64)) (Kd.slice 100 k100)) W x0 cs := ⟨_, rfl, hK0⟩
  clear hK0
  obtain ⟨_, e0, hK0⟩ := hK0'
  obtain ⟨_, _, rfl, hK0_0, hK0_1⟩ := hK0
  obtain ⟨A0_0, c0_0, hK0_0, hc0_0, hr0_0⟩ := hK0_0
  obtain ⟨A0_1, c0_1, hK0_1, hc0_1, hr0_1⟩ := hK0_1
  subst hK0_0 hK0_1
  obtain rfl : cs0 = #[.slice A0_0 x0.1.length c0_0, .slice A0_1 x0.2.length c0_1] := by apply Array.toList_inj.1; rw [e0]; rfl
  clear hA0 hval0
  obtain ⟨k, hp⟩ := pure (x0.1) (x0.2) hok0.1 hok0.2
  refine (laws_FnExactGuestText.calls k _ _ (x0.1) _ _ (x0.2) true W hr0_0 hc0_0 hr0_1 hc0_1 hp ⟨rfl⟩ htab).mono fun e W' ⟨he, bel0⟩ => ?_
  have bel : Below W.heap.size W W' := bel0
  subst he
  exact ⟨_, rfl, _, _, _, [], _, [], hW', trodAll_mk1 (shut_bool Tryd.underlying4 _), (trodAll_cons_mk (Below.trod laidOut (by kernel_rfl) (of_decide_eq_true (by kernel_rfl)) k0 bel lt0) trodAll_mk0), rfl, bel.frame _, fun h => by cases h⟩
theorem over : Rows.fnExactGuestTextRow.holds Tryd.pinned (OpenSpec.ofChange Rows.fnExactGuestTextSpec) :=
  OpenClaim.holds_of_wide 7 Tryd.f7 rfl rfl rfl rfl rfl rfl rfl ⟨rfl, rfl, rfl, rfl, rfl⟩ rfl rfl rfl rfl rfl (by kernel_rfl) Tryd.func7 (by kernel_rfl)
    (of_decide_eq_true (by kernel_rfl)) (by unfold Func.isWrapper; first | (rw [if_pos (by decide +kernel)]; kernel_rfl) | (rw [if_neg (by decide +kernel)]; exact ⟨rfl, rfl⟩))
    (fun os started H enc _ => lifted os started H enc)
theorem proved : Rows.FnExactGuestTextSaid := over
#print axioms proved
end Go.Proofs.YtniceoohmhjjlaaDoor.fnExactGuestText
namespace Go.Proofs.YtniceoohmhjjlaaDoor
theorem fnExactGuestText_row_holds : Rows.FnExactGuestTextSaid := fnExactGuestText.proved
theorem fnExactGuestText_holds : Rows.FnExactGuestTextCardSaid :=
  Claim7.holds_tied_plain_at .later [] [.data, .data, .data] true (true, "a70e6f9c3d73d59c4e3cdffbf282935af71a7cba78a1de181424bf8af6721979") true fnExactGuestText_row_holds (fun _ h => by cases h) (by kernel_rfl) (fun _ h => by cases h) fnExactGuestText_row_tie rfl ⟨rfl, rfl⟩ (by kernel_rfl) rfl
    (fun f fn hf hfn => by
      obtain rfl : f = 7 := Option.some.inj ((show Tryd.prog.funcNamed "loop.example/g00456/laws.FnExactGuestText" = some 7 by kernel_rfl).symm.trans hf) |>.symm
      obtain rfl : fn = Tryd.f7 := (Option.some.inj (Tryd.func7.symm.trans hfn)).symm
      exact ⟨by kernel_rfl, fun j t ht => by
        rw [Tryd.params7] at ht
        have hm : t ∈ [49] := by simpa using Array.mem_of_getElem? ht
        have hall : ([49].all fun u => !Tryd.prog.wantsStandIn u) = true := by kernel_rfl
        exact (show Tryd.prog.wantsStandIn t = false by simpa using List.all_eq_true.1 hall t hm)⟩)
    (by kernel_rfl)
#print axioms fnExactGuestText_holds
end Go.Proofs.YtniceoohmhjjlaaDoor
