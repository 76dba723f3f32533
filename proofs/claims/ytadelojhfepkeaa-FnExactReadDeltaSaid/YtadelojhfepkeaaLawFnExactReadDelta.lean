/- The row of laws.FnExactReadDelta: whatever the input, it returns true and leaves its arguments as they were. No condition. -/
import Derived.Test.YtadelojhfepkeaaRows
import Derived.Test.YtadelojhfepkeaaPureFnExactReadDelta
import Derived.Test.YtadelojhfepkeaaVFnExactReadDeltaOpn
import Derived.WalkKit
import Derived.ProofKit
import Derived.OpenShut
import Derived.ShutString
import Derived.ChangeOld
import Derived.Below
import Derived.SizedLaws
namespace Go.Proofs.Ytadelojhfepkeaa.fnExactReadDelta
open Go.ChangeShapes Go.WideShapes Go.ChangeAt Go.RowKit
open Go.Proofs.Ytadelojhfepkeaa.Opn Go.Proofs.Ytadelojhfepkeaa.Ext Go.Proofs.Ytadelojhfepkeaa.Q Go.Proofs.Ytadelojhfepkeaa.Q.FnExactReadDelta Go.Proofs.YtadelojhfepkeaaW.PrintWords Go.Proofs.YtadelojhfepkeaaW.PrintLast Go.Proofs.YtadelojhfepkeaaW.PrintMore
set_option linter.unusedVariables false
set_option linter.unusedSimpArgs false
theorem own : ownKnob Try.prog.godebug = none := by kernel_rfl
theorem laidOut : laidOutB Try.prog = true := by kernel_rfl
instance : Inhabited S75 := ⟨z75⟩
theorem o75 : Opn Try.prog 75 k75 ok75 := opn_iso (opn_struct Try.underlying75 (by kernel_rfl) (opnF_cons (opn_int Try.underlying3 (by kernel_rfl)) (by rfl) (opnF_cons (opn_int Try.underlying3 (by kernel_rfl)) (by rfl) (opnF_one (opn_string Try.underlying9 (by kernel_rfl)) (by rfl))))) (fun x : S75 => (x.f0, x.f1, x.f2)) (fun a => ⟨a.1, a.2.1, a.2.2⟩) (fun _ => rfl)
set_option maxRecDepth 100000 in
set_option maxHeartbeats 1000000 in
theorem lifted (os : Os) (started : os.Started) (H : Type) (enc : TypeId × Value → H) :
    ReturnsInHanded {} Try.checked os 8 .any (Rows.fnExactReadDeltaSpec.pre6 enc Try.prog Try.f8 Rows.fnExactReadDeltaRow.domain false) (Rows.fnExactReadDeltaSpec.post enc Try.prog Try.f8 false true false false) := by
  refine returnsInHanded_of_change_sized (C := Try.checked) own started (by kernel_rfl) Try.func8
    (ChangeSpec.witness6 (enc := enc) (C := Try.checked) false ⟨#[], #[.agg #[.slice none 0 0, .slice none 0 0], .int .i64 0, .int .i64 0], []⟩ 8 (by kernel_rfl) (by kernel_rfl) (by kernel_rfl) (by kernel_rfl)) ?_
  intro W base args ds gs before hval0 hW hcnd hsz0 _
  have hval : ∀ (j : Nat) t v, Try.f8.params[j]? = some t → args[j]? = some v → Value.okWide Try.prog W .any base t v := hval0
  have hW' := hW
  obtain ⟨p, q, hA0, hV, rfl, hfz, hnd⟩ := hW
  have hA : DataW.TrodAll enc Try.prog W 0 (fun _ => true) true Try.f8.params.toList args.toList ds p := hA0
  rw [Try.params8] at hA hval
  obtain ⟨v0, vs0, d0, ds0, p0, q0, hargs, rfl, rfl, h0, r0⟩ := trodAll_cons hA
  obtain ⟨v1, vs1, d1, ds1, p1, q1, rfl, rfl, rfl, h1, r1⟩ := trodAll_cons r0
  obtain ⟨v2, vs2, d2, ds2, p2, q2, rfl, rfl, rfl, h2, r2⟩ := trodAll_cons r1
  obtain ⟨rfl, rfl, rfl⟩ := trodAll_nil r2
  obtain rfl : args = #[v0, v1, v2] := by cases args; simp_all
  obtain ⟨rfl, rfl⟩ := trodVars_none hV
  have k0 := h0
  have lt0 : ∀ x ∈ p0, x.block < W.heap.size := by obtain ⟨m, hm⟩ := k0; exact DataW.trod_lt m _ _ _ hm
  obtain ⟨cs0, rfl, hsz0⟩ := okWide_struct Try.underlying25 (hval 0 25 v0 rfl rfl)
  obtain ⟨fu0, hf0⟩ := h0
  obtain ⟨x0, hK0, hok0⟩ := ((opn_struct Try.underlying25 (by kernel_rfl) (opnF_cons (opn_slice Try.underlying22 (by kernel_rfl) (opn_string Try.underlying9 (by kernel_rfl))) (by rfl) (opnF_one (opn_slice Try.underlying23 (by kernel_rfl) o75) (by rfl))))).op hf0
  have hK0' : ∃ cs, cs0.toList = cs ∧ Kd.K (Kd.pair (Kd.slice 9 Kd.string) (Kd.slice 75 k75)) W x0 cs := ⟨_, rfl, hK0⟩
  clear hK0
  obtain ⟨_, e0, hK0⟩ := hK0'
  obtain ⟨_, _, rfl, hK0_0, hK0_1⟩ := hK0
  obtain ⟨A0_0, c0_0, hK0_0, hc0_0, hr0_0⟩ := hK0_0
  obtain ⟨A0_1, c0_1, hK0_1, hc0_1, hr0_1⟩ := hK0_1
  subst hK0_0 hK0_1
  obtain rfl : cs0 = #[.slice A0_0 x0.1.length c0_0, .slice A0_1 x0.2.length c0_1] := by apply Array.toList_inj.1; rw [e0]; rfl
  have k1 := h1
  have lt1 : ∀ x ∈ p1, x.block < W.heap.size := by obtain ⟨m, hm⟩ := k1; exact DataW.trod_lt m _ _ _ hm
  obtain ⟨b1, rfl, _⟩ := open_int Try.underlying3 (hval 1 3 v1 rfl rfl) h1
  obtain ⟨fu1, hf1⟩ := h1
  obtain ⟨x1, hK1, hok1⟩ := ((opn_int Try.underlying3 (by kernel_rfl))).op hf1
  have e1 : [(.int .i64 b1 : Value)] = [.int .i64 x1] := hK1
  cases e1
  have k2 := h2
  have lt2 : ∀ x ∈ p2, x.block < W.heap.size := by obtain ⟨m, hm⟩ := k2; exact DataW.trod_lt m _ _ _ hm
  obtain ⟨b2, rfl, _⟩ := open_int Try.underlying3 (hval 2 3 v2 rfl rfl) h2
  obtain ⟨fu2, hf2⟩ := h2
  obtain ⟨x2, hK2, hok2⟩ := ((opn_int Try.underlying3 (by kernel_rfl))).op hf2
  have e2 : [(.int .i64 b2 : Value)] = [.int .i64 x2] := hK2
  cases e2
  clear hA0 hval0 hsz0
  obtain ⟨k, hp⟩ := pure (x0.1) (x0.2) b1 b2 hok0.1 hok0.2 hok1 hok2
  refine (laws_FnExactReadDelta.calls k _ _ (x0.1) _ _ (x0.2) b1 b2 true W hr0_0 hc0_0 hr0_1 hc0_1 hp).mono fun e W' ⟨he, bel0⟩ => ?_
  have bel : Below W.heap.size W W' := bel0
  subst he
  exact ⟨_, rfl, _, _, _, [], _, [], hW', trodAll_mk1 (shut_bool Try.underlying4 _), (trodAll_cons_mk (Below.trod laidOut (by kernel_rfl) (of_decide_eq_true (by kernel_rfl)) k0 bel lt0) (trodAll_cons_mk (Below.trod laidOut (by kernel_rfl) (of_decide_eq_true (by kernel_rfl)) k1 bel lt1) (trodAll_cons_mk (Below.trod laidOut (by kernel_rfl) (of_decide_eq_true (by kernel_rfl)) k2 bel lt2) trodAll_mk0))), rfl, bel.frame _, fun h => by cases h⟩
theorem over : Rows.fnExactReadDeltaRow.holds Try.pinned (OpenSpec.ofChange Rows.fnExactReadDeltaSpec) :=
  OpenClaim.holds_of_wide 8 Try.f8 rfl rfl rfl rfl rfl rfl rfl ⟨rfl, rfl, rfl, rfl, rfl⟩ rfl rfl rfl rfl rfl (by kernel_rfl) Try.func8 (by kernel_rfl)
    (of_decide_eq_true (by kernel_rfl)) (by unfold Func.isWrapper; first | (rw [if_pos (by decide +kernel)]; kernel_rfl) | (rw [if_neg (by decide +kernel)]; exact ⟨rfl, rfl⟩))
    (fun os started H enc _ => lifted os started H enc)
theorem proved : Rows.FnExactReadDeltaSaid := over
#print axioms proved
end Go.Proofs.Ytadelojhfepkeaa.fnExactReadDelta
namespace Go.Proofs.Ytadelojhfepkeaa
theorem fnExactReadDelta_holds : Rows.FnExactReadDeltaSaid := fnExactReadDelta.proved
end Go.Proofs.Ytadelojhfepkeaa
