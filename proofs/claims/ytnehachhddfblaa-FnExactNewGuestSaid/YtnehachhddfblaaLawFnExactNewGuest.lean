/- The row of laws.FnExactNewGuest: whatever the input, it returns true and leaves its arguments as they were. No condition. -/
import Derived.Test.YtnehachhddfblaaRows
import Derived.Test.YtnehachhddfblaaPureFnExactNewGuest
import Derived.Test.YtnehachhddfblaaVFnExactNewGuestOpn
import Derived.WalkKit
import Derived.ProofKit
import Derived.OpenShut
import Derived.ShutString
import Derived.ChangeOld
import Derived.Below
import Derived.SizedLaws
namespace Go.Proofs.Ytnehachhddfblaa.fnExactNewGuest
open Go.ChangeShapes Go.WideShapes Go.ChangeAt Go.RowKit
open Go.Proofs.Ytnehachhddfblaa.Opn Go.Proofs.Ytnehachhddfblaa.Ext Go.Proofs.Ytnehachhddfblaa.Q Go.Proofs.Ytnehachhddfblaa.Q.FnExactNewGuest Go.Proofs.YtnehachhddfblaaW.PrintWords Go.Proofs.YtnehachhddfblaaW.PrintLast Go.Proofs.YtnehachhddfblaaW.PrintMore
set_option linter.unusedVariables false
set_option linter.unusedSimpArgs false
theorem own : ownKnob Try.prog.godebug = none := by kernel_rfl
theorem laidOut : laidOutB Try.prog = true := by kernel_rfl
set_option maxRecDepth 100000 in
set_option maxHeartbeats 1000000 in
theorem lifted (os : Os) (started : os.Started) (H : Type) (enc : TypeId × Value → H) :
    ReturnsInHanded {} Try.checked os 3 .any (Rows.fnExactNewGuestSpec.pre6 enc Try.prog Try.f3 Rows.fnExactNewGuestRow.domain false) (Rows.fnExactNewGuestSpec.post enc Try.prog Try.f3 false true false false) := by
  refine returnsInHanded_of_change_sized (C := Try.checked) own started (by kernel_rfl) Try.func3
    (ChangeSpec.witness6 (enc := enc) (C := Try.checked) false ⟨#[], #[.int .i64 0], []⟩ 8 (by kernel_rfl) (by kernel_rfl) (by kernel_rfl) (by kernel_rfl)) ?_
  intro W base args ds gs before hval0 hW hcnd hsz0 _
  have hval : ∀ (j : Nat) t v, Try.f3.params[j]? = some t → args[j]? = some v → Value.okWide Try.prog W .any base t v := hval0
  have hW' := hW
  obtain ⟨p, q, hA0, hV, rfl, hfz, hnd⟩ := hW
  have hA : DataW.TrodAll enc Try.prog W 0 (fun _ => true) true Try.f3.params.toList args.toList ds p := hA0
  rw [Try.params3] at hA hval
  obtain ⟨v0, vs0, d0, ds0, p0, q0, hargs, rfl, rfl, h0, r0⟩ := trodAll_cons hA
  obtain ⟨rfl, rfl, rfl⟩ := trodAll_nil r0
  obtain rfl : args = #[v0] := by cases args; simp_all
  obtain ⟨rfl, rfl⟩ := trodVars_none hV
  have k0 := h0
  have lt0 : ∀ x ∈ p0, x.block < W.heap.size := by obtain ⟨m, hm⟩ := k0; exact DataW.trod_lt m _ _ _ hm
  obtain ⟨b0, rfl, _⟩ := open_int Try.underlying3 (hval 0 3 v0 rfl rfl) h0
  obtain ⟨fu0, hf0⟩ := h0
  obtain ⟨x0, hK0, hok0⟩ := ((opn_int Try.underlying3 (by kernel_rfl))).op hf0
  have e0 : [(.int .i64 b0 : Value)] = [.int .i64 x0] := hK0
  cases e0
  clear hA0 hval0 hsz0
  obtain ⟨k, hp⟩ := pure b0 hok0
  refine (laws_FnExactNewGuest.calls k b0 true W  hp).mono fun e W' ⟨he, bel0⟩ => ?_
  have bel : Below W.heap.size W W' := bel0
  subst he
  exact ⟨_, rfl, _, _, _, [], _, [], hW', trodAll_mk1 (shut_bool Try.underlying4 _), (trodAll_cons_mk (Below.trod laidOut (by kernel_rfl) (of_decide_eq_true (by kernel_rfl)) k0 bel lt0) trodAll_mk0), rfl, bel.frame _, fun h => by cases h⟩
theorem over : Rows.fnExactNewGuestRow.holds Try.pinned (OpenSpec.ofChange Rows.fnExactNewGuestSpec) :=
  OpenClaim.holds_of_wide 3 Try.f3 rfl rfl rfl rfl rfl rfl rfl ⟨rfl, rfl, rfl, rfl, rfl⟩ rfl rfl rfl rfl rfl (by kernel_rfl) Try.func3 (by kernel_rfl)
    (of_decide_eq_true (by kernel_rfl)) (by unfold Func.isWrapper; first | (rw [if_pos (by decide +kernel)]; kernel_rfl) | (rw [if_neg (by decide +kernel)]; exact ⟨rfl, rfl⟩))
    (fun os started H enc _ => lifted os started H enc)
theorem proved : Rows.FnExactNewGuestSaid := over
#print axioms proved
end Go.Proofs.Ytnehachhddfblaa.fnExactNewGuest
namespace Go.Proofs.Ytnehachhddfblaa
theorem fnExactNewGuest_holds : Rows.FnExactNewGuestSaid := fnExactNewGuest.proved
end Go.Proofs.Ytnehachhddfblaa
