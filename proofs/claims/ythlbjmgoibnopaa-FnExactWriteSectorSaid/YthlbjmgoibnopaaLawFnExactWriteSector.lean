/- The row of laws.FnExactWriteSector: whatever the input, it returns true and leaves its arguments as they were. No condition. -/
import Derived.Test.YthlbjmgoibnopaaRows
import Derived.Test.YthlbjmgoibnopaaPureFnExactWriteSector
import Derived.Test.YthlbjmgoibnopaaVFnExactWriteSectorOpn
import Derived.WalkKit
import Derived.ProofKit
import Derived.OpenShut
import Derived.ShutString
import Derived.ChangeOld
import Derived.Below
import Derived.SizedLaws
namespace Go.Proofs.Ythlbjmgoibnopaa.fnExactWriteSector
open Go.ChangeShapes Go.WideShapes Go.ChangeAt Go.RowKit
open Go.Proofs.Ythlbjmgoibnopaa.Opn Go.Proofs.Ythlbjmgoibnopaa.Ext Go.Proofs.Ythlbjmgoibnopaa.Q Go.Proofs.Ythlbjmgoibnopaa.Q.FnExactWriteSector Go.Proofs.YthlbjmgoibnopaaW.PrintWords Go.Proofs.YthlbjmgoibnopaaW.PrintLast Go.Proofs.YthlbjmgoibnopaaW.PrintMore
set_option linter.unusedVariables false
set_option linter.unusedSimpArgs false
theorem own : ownKnob Try.prog.godebug = none := by kernel_rfl
theorem laidOut : laidOutB Try.prog = true := by kernel_rfl
instance : Inhabited S166 := ⟨z166⟩
theorem o166 : Opn Try.prog 166 k166 ok166 := opn_iso (opn_struct Try.underlying166 (by kernel_rfl) (opnF_cons (opn_int Try.underlying3 (by kernel_rfl)) (by rfl) (opnF_cons (opn_int Try.underlying3 (by kernel_rfl)) (by rfl) (opnF_one (opn_string Try.underlying9 (by kernel_rfl)) (by rfl))))) (fun x : S166 => (x.f0, x.f1, x.f2)) (fun a => ⟨a.1, a.2.1, a.2.2⟩) (fun _ => rfl)
set_option maxRecDepth 100000 in
set_option maxHeartbeats 1000000 in
theorem lifted (os : Os) (started : os.Started) (H : Type) (enc : TypeId × Value → H) :
    ReturnsInHanded {} Try.checked os 14 .any (Rows.fnExactWriteSectorSpec.pre6 enc Try.prog Try.f14 Rows.fnExactWriteSectorRow.domain false) (Rows.fnExactWriteSectorSpec.post enc Try.prog Try.f14 false true false false) := by
  refine returnsInHanded_of_change_sized (C := Try.checked) own started (by kernel_rfl) Try.func14
    (ChangeSpec.witness6 (enc := enc) (C := Try.checked) false ⟨#[], #[.agg #[.slice none 0 0, .slice none 0 0], .int .i64 0, .int .i64 0, .string ByteArray.empty], []⟩ 8 (by kernel_rfl) (by kernel_rfl) (by kernel_rfl) (by kernel_rfl)) ?_
  intro W base args ds gs before hval0 hW hcnd hsz0 _
  have hval : ∀ (j : Nat) t v, Try.f14.params[j]? = some t → args[j]? = some v → Value.okWide Try.prog W .any base t v := hval0
  have hW' := hW
  obtain ⟨p, q, hA0, hV, rfl, hfz, hnd⟩ := hW
  have hA : DataW.TrodAll enc Try.prog W 0 (fun _ => true) true Try.f14.params.toList args.toList ds p := hA0
  rw [Try.params14] at hA hval
  obtain ⟨v0, vs0, d0, ds0, p0, q0, hargs, rfl, rfl, h0, r0⟩ := trodAll_cons hA
  obtain ⟨v1, vs1, d1, ds1, p1, q1, rfl, rfl, rfl, h1, r1⟩ := trodAll_cons r0
  obtain ⟨v2, vs2, d2, ds2, p2, q2, rfl, rfl, rfl, h2, r2⟩ := trodAll_cons r1
  obtain ⟨v3, vs3, d3, ds3, p3, q3, rfl, rfl, rfl, h3, r3⟩ := trodAll_cons r2
  obtain ⟨rfl, rfl, rfl⟩ := trodAll_nil r3
  obtain rfl : args = #[v0, v1, v2, v3] := by cases args; simp_all
  obtain ⟨rfl, rfl⟩ := trodVars_none hV
  have k0 := h0
  have lt0 : ∀ x ∈ p0, x.block < W.heap.size := by obtain ⟨m, hm⟩ := k0; exact DataW.trod_lt m _ _ _ hm
  obtain ⟨cs0, rfl, hsz0⟩ := okWide_struct Try.underlying85 (hval 0 85 v0 rfl rfl)
  obtain ⟨fu0, hf0⟩ := h0
  obtain ⟨x0, hK0, hok0⟩ := ((opn_struct Try.underlying85 (by kernel_rfl) (opnF_cons (opn_slice Try.underlying57 (by kernel_rfl) (opn_string Try.underlying9 (by kernel_rfl))) (by rfl) (opnF_one (opn_slice Try.underlying83 (by kernel_rfl) o166) (by rfl))))).op hf0
  have hK0' : ∃ cs, cs0.toList = cs ∧ Kd.K (Kd.pair (Kd.slice 9 Kd.string) (Kd.slice 166 k166)) W x0 cs := ⟨_, rfl, hK0⟩
  clear hK0
  obtain ⟨_, e0, hK0⟩ := hK0'
  obtain ⟨_, _, rfl, hK0_0, hK0_1⟩ := hK0
  obtain ⟨A0_0, c0_0, hK0_0, hc0_0, hr0_0⟩ := hK0_0
  obtain ⟨A0_1, c0_1, hK0_1, hc0_1, hr0_1⟩ := hK0_1
  subst hK0_0 hK0_1
  obtain rfl : cs0 = #[.slice A0_0 x0.1.length c0_0, .slice A0_1 x0.2.length c0_1] := by apply Array.toList_inj.1; rw [e0]; rfl
  have k1 := h1
  have lt1 : ∀ x ∈ p1, x.block < W.heap.size := by obtain ⟨m, hm⟩ := k1; exact DataW.trod_lt m _ _ _ hm
  obtain ⟨b1, rfl, _⟩ := open_int Try.underlying3 (hval 1 3 v1 rfl rfl) h1
  obtain ⟨fu1, hf1⟩ := h1
  obtain ⟨x1, hK1, hok1⟩ := ((opn_int Try.underlying3 (by kernel_rfl))).op hf1
  have e1 : [(.int .i64 b1 : Value)] = [.int .i64 x1] := hK1
  cases e1
  have k2 := h2
  have lt2 : ∀ x ∈ p2, x.block < W.heap.size := by obtain ⟨m, hm⟩ := k2; exact DataW.trod_lt m _ _ _ hm
  obtain ⟨b2, rfl, _⟩ := open_int Try.underlying3 (hval 2 3 v2 rfl rfl) h2
  obtain ⟨fu2, hf2⟩ := h2
  obtain ⟨x2, hK2, hok2⟩ := ((opn_int Try.underlying3 (by kernel_rfl))).op hf2
  have e2 : [(.int .i64 b2 : Value)] = [.int .i64 x2] := hK2
  cases e2
  have k3 := h3
  have lt3 : ∀ x ∈ p3, x.block < W.heap.size := by obtain ⟨m, hm⟩ := k3; exact DataW.trod_lt m _ _ _ hm
  obtain ⟨b3, rfl, _⟩ := Go.ChangeMaps.open_string Try.underlying9 (hval 3 9 v3 rfl rfl) h3
  obtain ⟨fu3, hf3⟩ := h3
  obtain ⟨x3, hK3, hok3⟩ := ((opn_string Try.underlying9 (by kernel_rfl))).op hf3
  have e3 : [(.string b3 : Value)] = [.string x3] := hK3
  cases e3
  clear hA0 hval0 hsz0
  obtain ⟨k, hp⟩ := pure (x0.1) (x0.2) b1 b2 b3 hok0.1 hok0.2 hok1 hok2 hok3
  refine (laws_FnExactWriteSector.calls k _ _ (x0.1) _ _ (x0.2) b1 b2 b3 true W hr0_0 hc0_0 hr0_1 hc0_1 hp).mono fun e W' ⟨he, bel0⟩ => ?_
  have bel : Below W.heap.size W W' := bel0
  subst he
  exact ⟨_, rfl, _, _, _, [], _, [], hW', trodAll_mk1 (shut_bool Try.underlying4 _), (trodAll_cons_mk (Below.trod laidOut (by kernel_rfl) (of_decide_eq_true (by kernel_rfl)) k0 bel lt0) (trodAll_cons_mk (Below.trod laidOut (by kernel_rfl) (of_decide_eq_true (by kernel_rfl)) k1 bel lt1) (trodAll_cons_mk (Below.trod laidOut (by kernel_rfl) (of_decide_eq_true (by kernel_rfl)) k2 bel lt2) (trodAll_cons_mk (Below.trod laidOut (by kernel_rfl) (of_decide_eq_true (by kernel_rfl)) k3 bel lt3) trodAll_mk0)))), rfl, bel.frame _, fun h => by cases h⟩
theorem over : Rows.fnExactWriteSectorRow.holds Try.pinned (OpenSpec.ofChange Rows.fnExactWriteSectorSpec) :=
  OpenClaim.holds_of_wide 14 Try.f14 rfl rfl rfl rfl rfl rfl rfl ⟨rfl, rfl, rfl, rfl, rfl⟩ rfl rfl rfl rfl rfl (by kernel_rfl) Try.func14 (by kernel_rfl)
    (of_decide_eq_true (by kernel_rfl)) (by unfold Func.isWrapper; first | (rw [if_pos (by decide +kernel)]; kernel_rfl) | (rw [if_neg (by decide +kernel)]; exact ⟨rfl, rfl⟩))
    (fun os started H enc _ => lifted os started H enc)
theorem proved : Rows.FnExactWriteSectorSaid := over
#print axioms proved
end Go.Proofs.Ythlbjmgoibnopaa.fnExactWriteSector
namespace Go.Proofs.Ythlbjmgoibnopaa
theorem fnExactWriteSector_holds : Rows.FnExactWriteSectorSaid := fnExactWriteSector.proved
end Go.Proofs.Ythlbjmgoibnopaa
