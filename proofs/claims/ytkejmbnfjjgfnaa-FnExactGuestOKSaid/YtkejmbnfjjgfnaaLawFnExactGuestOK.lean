/- The row of laws.FnExactGuestOK: whatever the input, it returns true and leaves its arguments as they were. No condition. -/
import Derived.Test.YtkejmbnfjjgfnaaRows
import Derived.Test.YtkejmbnfjjgfnaaPureFnExactGuestOK
import Derived.Test.YtkejmbnfjjgfnaaVFnExactGuestOKOpn
import Derived.WalkKit
import Derived.ProofKit
import Derived.OpenShut
import Derived.ShutString
import Derived.ChangeOld
import Derived.Below
import Derived.SizedLaws
namespace Go.Proofs.Ytkejmbnfjjgfnaa.fnExactGuestOK
open Go.ChangeShapes Go.WideShapes Go.ChangeAt Go.RowKit
open Go.Proofs.Ytkejmbnfjjgfnaa.Opn Go.Proofs.Ytkejmbnfjjgfnaa.Ext Go.Proofs.Ytkejmbnfjjgfnaa.Q Go.Proofs.Ytkejmbnfjjgfnaa.Q.FnExactGuestOK Go.Proofs.YtkejmbnfjjgfnaaW.PrintWords Go.Proofs.YtkejmbnfjjgfnaaW.PrintLast Go.Proofs.YtkejmbnfjjgfnaaW.PrintMore
set_option linter.unusedVariables false
set_option linter.unusedSimpArgs false
theorem own : ownKnob Try.prog.godebug = none := by kernel_rfl
theorem laidOut : laidOutB Try.prog = true := by kernel_rfl
instance : Inhabited S50 := ⟨z50⟩
theorem o50 : Opn Try.prog 50 k50 ok50 := opn_iso (opn_struct Try.underlying50 (by kernel_rfl) (opnF_cons (opn_string Try.underlying9 (by kernel_rfl)) (by rfl) (opnF_one (opn_slice Try.underlying22 (by kernel_rfl) (opn_int Try.underlying3 (by kernel_rfl))) (by rfl)))) (fun x : S50 => (x.f0, x.f1)) (fun a => ⟨a.1, a.2⟩) (fun _ => rfl)
set_option maxRecDepth 100000 in
set_option maxHeartbeats 1000000 in
theorem lifted (os : Os) (started : os.Started) (H : Type) (enc : TypeId × Value → H) :
    ReturnsInHanded {} Try.checked os 3 .any (Rows.fnExactGuestOKSpec.pre6 enc Try.prog Try.f3 Rows.fnExactGuestOKRow.domain false) (Rows.fnExactGuestOKSpec.post enc Try.prog Try.f3 false true false false) := by
  refine returnsInHanded_of_change_sized (C := Try.checked) own started (by kernel_rfl) Try.func3
    (ChangeSpec.witness6 (enc := enc) (C := Try.checked) false ⟨#[], #[.agg #[.slice none 0 0, .slice none 0 0]], []⟩ 8 (by kernel_rfl) (by kernel_rfl) (by kernel_rfl) (by kernel_rfl)) ?_
  intro W base args ds gs before hval0 hW hcnd hsz0 _
  have hval : ∀ (j : Nat) t v, Try.f3.params[j]? = some t → args[j]? = some v → Value.okWide Try.prog W .any base t v := hval0
  have hW' := hW
  obtain ⟨p, q, hA0, hV, rfl, hfz, hnd⟩ := hW
  have hA : DataW.TrodAll enc Try.prog W 0 (fun _ => true) true Try.f3.params.toList args.toList ds p := hA0
  rw [Try.params3] at hA hval
  obtain ⟨v0, vs0, d0, ds0, p0, q0, hargs, rfl, rfl, h0, r0⟩ := trodAll_cons hA
  obtain ⟨rfl, rfl, rfl⟩ := trodAll_nil r0
  obtain rfl : args = #[v0] := by cases args; simp_all
  obtain ⟨rfl, rfl⟩ := trodVars_none hV
  have k0 := h0
  have lt0 : ∀ x ∈ p0, x.block < W.heap.size := by obtain ⟨m, hm⟩ := k0; exact DataW.trod_lt m _ _ _ hm
  obtain ⟨cs0, rfl, hsz0⟩ := okWide_struct Try.underlying25 (hval 0 25 v0 rfl rfl)
  obtain ⟨fu0, hf0⟩ := h0
  obtain ⟨x0, hK0, hok0⟩ := ((opn_struct Try.underlying25 (by kernel_rfl) (opnF_cons (opn_slice Try.underlying22 (by kernel_rfl) (opn_int Try.underlying3 (by kernel_rfl))) (by rfl) (opnF_one (opn_slice Try.underlying23 (by kernel_rfl) o50) (by rfl))))).op hf0
  have hK0' : ∃ cs, cs0.toList = cs ∧ Kd.K (Kd.pair (Kd.slice 3 (Kd.int .i64)) (Kd.slice 50 k50)) W x0 cs := ⟨_, rfl, hK0⟩
  clear hK0
  obtain ⟨_, e0, hK0⟩ := hK0'
  obtain ⟨_, _, rfl, hK0_0, hK0_1⟩ := hK0
  obtain ⟨A0_0, c0_0, hK0_0, hc0_0, hr0_0⟩ := hK0_0
  obtain ⟨A0_1, c0_1, hK0_1, hc0_1, hr0_1⟩ := hK0_1
  subst hK0_0 hK0_1
  obtain rfl : cs0 = #[.slice A0_0 x0.1.length c0_0, .slice A0_1 x0.2.length c0_1] := by apply Array.toList_inj.1; rw [e0]; rfl
  clear hA0 hval0 hsz0
  obtain ⟨k, hp⟩ := pure (x0.1) (x0.2) hok0.1 hok0.2
  refine (laws_FnExactGuestOK.calls k _ _ (x0.1) _ _ (x0.2) true W hr0_0 hc0_0 hr0_1 hc0_1 hp).mono fun e W' ⟨he, bel0⟩ => ?_
  have bel : Below W.heap.size W W' := bel0
  subst he
  exact ⟨_, rfl, _, _, _, [], _, [], hW', trodAll_mk1 (shut_bool Try.underlying4 _), (trodAll_cons_mk (Below.trod laidOut (by kernel_rfl) (of_decide_eq_true (by kernel_rfl)) k0 bel lt0) trodAll_mk0), rfl, bel.frame _, fun h => by cases h⟩
theorem over : Rows.fnExactGuestOKRow.holds Try.pinned (OpenSpec.ofChange Rows.fnExactGuestOKSpec) :=
  OpenClaim.holds_of_wide 3 Try.f3 rfl rfl rfl rfl rfl rfl rfl ⟨rfl, rfl, rfl, rfl, rfl⟩ rfl rfl rfl rfl rfl (by kernel_rfl) Try.func3 (by kernel_rfl)
    (of_decide_eq_true (by kernel_rfl)) (by unfold Func.isWrapper; first | (rw [if_pos (by decide +kernel)]; kernel_rfl) | (rw [if_neg (by decide +kernel)]; exact ⟨rfl, rfl⟩))
    (fun os started H enc _ => lifted os started H enc)
theorem proved : Rows.FnExactGuestOKSaid := over
#print axioms proved
end Go.Proofs.Ytkejmbnfjjgfnaa.fnExactGuestOK
namespace Go.Proofs.Ytkejmbnfjjgfnaa
theorem fnExactGuestOK_holds : Rows.FnExactGuestOKSaid := fnExactGuestOK.proved
end Go.Proofs.Ytkejmbnfjjgfnaa
