/- The row of laws.FnExactGuestOf: whatever the input, it returns true and leaves its arguments as they were. No condition. -/
import Derived.Test.YtglcnnmobkocmaaGreatRows
import Derived.Test.YtglcnnmobkocmaaGreatPureFnExactGuestOf
import Derived.Test.YtglcnnmobkocmaaGreatVFnExactGuestOfOpn
import Derived.WalkKit
import Derived.ProofKit
import Derived.OpenShut
import Derived.ShutString
import Derived.ChangeOld
import Derived.Below
import Derived.SizedLaws
namespace Go.Proofs.YtglcnnmobkocmaaGreat.fnExactGuestOf
open Go.ChangeShapes Go.WideShapes Go.ChangeAt Go.RowKit
open Go.Proofs.YtglcnnmobkocmaaGreat.Opn Go.Proofs.YtglcnnmobkocmaaGreat.Ext Go.Proofs.YtglcnnmobkocmaaGreat.Q Go.Proofs.YtglcnnmobkocmaaGreat.Q.FnExactGuestOf Go.Proofs.YtglcnnmobkocmaaGreatW.PrintWords Go.Proofs.YtglcnnmobkocmaaGreatW.PrintLast Go.Proofs.YtglcnnmobkocmaaGreatW.PrintMore
set_option linter.unusedVariables false
set_option linter.unusedSimpArgs false
theorem own : ownKnob Tryz.prog.godebug = none := by kernel_rfl
theorem laidOut : laidOutB Tryz.prog = true := by kernel_rfl
instance : Inhabited S102 := ⟨z102⟩
theorem o102 : Opn Tryz.prog 102 k102 ok102 := opn_iso (opn_struct Tryz.underlying102 (by kernel_rfl) (opnF_cons (opn_string Tryz.underlying9 (by kernel_rfl)) (by rfl) (opnF_one (opn_slice Tryz.underlying23 (by kernel_rfl) (opn_int Tryz.underlying3 (by kernel_rfl))) (by rfl)))) (fun x : S102 => (x.f0, x.f1)) (fun a => ⟨a.1, a.2⟩) (fun _ => rfl)
set_option maxRecDepth 100000 in
set_option maxHeartbeats 1000000 in
theorem lifted (os : Os) (started : os.Started) (H : Type) (enc : TypeId × Value → H) :
    ReturnsInHanded {} Tryz.checked os 4 .any (Rows.fnExactGuestOfSpec.pre6 enc Tryz.prog Tryz.f4 Rows.fnExactGuestOfRow.domain false) (Rows.fnExactGuestOfSpec.post enc Tryz.prog Tryz.f4 false true false false) := by
  refine returnsInHanded_of_change_sized (C := Tryz.checked) own started (by kernel_rfl) Tryz.func4
    (ChangeSpec.witness6 (enc := enc) (C := Tryz.checked) false ⟨#[], #[.agg #[.slice none 0 0, .slice none 0 0, .slice none 0 0, .slice none 0 0]], []⟩ 8 (by kernel_rfl) (by kernel_rfl) (by kernel_rfl) (by kernel_rfl)) ?_
  intro W base args ds gs before hval0 hW hcnd hsz0 _
  have hval : ∀ (j : Nat) t v, Tryz.f4.params[j]? = some t → args[j]? = some v → Value.okWide Tryz.prog W .any base t v := hval0
  have hW' := hW
  obtain ⟨p, q, hA0, hV, rfl, hfz, hnd⟩ := hW
  have hA : DataW.TrodAll enc Tryz.prog W 0 (fun _ => true) true Tryz.f4.params.toList args.toList ds p := hA0
  rw [Tryz.params4] at hA hval
  obtain ⟨v0, vs0, d0, ds0, p0, q0, hargs, rfl, rfl, h0, r0⟩ := trodAll_cons hA
  obtain ⟨rfl, rfl, rfl⟩ := trodAll_nil r0
  obtain rfl : args = #[v0] := by cases args; simp_all
  obtain ⟨rfl, rfl⟩ := trodVars_none hV
  have k0 := h0
  have lt0 : ∀ x ∈ p0, x.block < W.heap.size := by obtain ⟨m, hm⟩ := k0; exact DataW.trod_lt m _ _ _ hm
  obtain ⟨cs0, rfl, hsz0⟩ := okWide_struct Tryz.underlying36 (hval 0 36 v0 rfl rfl)
  obtain ⟨fu0, hf0⟩ := h0
  obtain ⟨x0, hK0, hok0⟩ := ((opn_struct Tryz.underlying36 (by kernel_rfl) (opnF_cons (opn_slice Tryz.underlying23 (by kernel_rfl) (opn_int Tryz.underlying3 (by kernel_rfl))) (by rfl) (opnF_cons (opn_slice Tryz.underlying23 (by kernel_rfl) (opn_int Tryz.underlying3 (by kernel_rfl))) (by rfl) (opnF_cons (opn_slice Tryz.underlying34 (by kernel_rfl) o102) (by rfl) (opnF_one (opn_slice Tryz.underlying23 (by kernel_rfl) (opn_int Tryz.underlying3 (by kernel_rfl))) (by rfl))))))).op hf0
  have hK0' : ∃ cs, cs0.toList = cs ∧ Kd.K (Kd.pair (Kd.slice 3 (Kd.int .i64)) (Kd.pair (Kd.slice 3 (Kd.int .i64)) (Kd.pair (Kd.slice 102 k102) (Kd.slice 3 (Kd.int .i64))))) W x0 cs := ⟨_, rfl, hK0⟩
  clear hK0
  obtain ⟨_, e0, hK0⟩ := hK0'
  obtain ⟨_, _, rfl, hK0_0, ⟨_, _, rfl, hK0_1, ⟨_, _, rfl, hK0_2, hK0_3⟩⟩⟩ := hK0
  obtain ⟨A0_0, c0_0, hK0_0, hc0_0, hr0_0⟩ := hK0_0
  obtain ⟨A0_1, c0_1, hK0_1, hc0_1, hr0_1⟩ := hK0_1
  obtain ⟨A0_2, c0_2, hK0_2, hc0_2, hr0_2⟩ := hK0_2
  obtain ⟨A0_3, c0_3, hK0_3, hc0_3, hr0_3⟩ := hK0_3
  subst hK0_0 hK0_1 hK0_2 hK0_3
  obtain rfl : cs0 = #[.slice A0_0 x0.1.length c0_0, .slice A0_1 x0.2.1.length c0_1, .slice A0_2 x0.2.2.1.length c0_2, .slice A0_3 x0.2.2.2.length c0_3] := by apply Array.toList_inj.1; rw [e0]; rfl
  clear hA0 hval0 hsz0
  obtain ⟨k, hp⟩ := pure (x0.1) (x0.2.1) (x0.2.2.1) (x0.2.2.2) hok0.1 hok0.2.1 hok0.2.2.1 hok0.2.2.2
  refine (laws_FnExactGuestOf.calls k _ _ (x0.1) _ _ (x0.2.1) _ _ (x0.2.2.1) _ _ (x0.2.2.2) true W hr0_0 hc0_0 hr0_1 hc0_1 hr0_2 hc0_2 hr0_3 hc0_3 hp ⟨rfl⟩).mono fun e W' ⟨he, bel0⟩ => ?_
  have bel : Below W.heap.size W W' := bel0
  subst he
  exact ⟨_, rfl, _, _, _, [], _, [], hW', trodAll_mk1 (shut_bool Tryz.underlying4 _), (trodAll_cons_mk (Below.trod laidOut (by kernel_rfl) (of_decide_eq_true (by kernel_rfl)) k0 bel lt0) trodAll_mk0), rfl, bel.frame _, fun h => by cases h⟩
theorem over : Rows.fnExactGuestOfRow.holds Tryz.pinned (OpenSpec.ofChange Rows.fnExactGuestOfSpec) :=
  OpenClaim.holds_of_wide 4 Tryz.f4 rfl rfl rfl rfl rfl rfl rfl ⟨rfl, rfl, rfl, rfl, rfl⟩ rfl rfl rfl rfl rfl (by kernel_rfl) Tryz.func4 (by kernel_rfl)
    (of_decide_eq_true (by kernel_rfl)) (by unfold Func.isWrapper; first | (rw [if_pos (by decide +kernel)]; kernel_rfl) | (rw [if_neg (by decide +kernel)]; exact ⟨rfl, rfl⟩))
    (fun os started H enc _ => lifted os started H enc)
theorem proved : Rows.FnExactGuestOfSaid := over
#print axioms proved
end Go.Proofs.YtglcnnmobkocmaaGreat.fnExactGuestOf
namespace Go.Proofs.YtglcnnmobkocmaaGreat
theorem fnExactGuestOf_holds : Rows.FnExactGuestOfSaid := fnExactGuestOf.proved
end Go.Proofs.YtglcnnmobkocmaaGreat
