import Derived.Test.YtglcnnmobkocmaaGreatRows
import Derived.Test.YtglcnnmobkocmaaGreatPureFnExactDiffUpdates
import Derived.Test.YtglcnnmobkocmaaGreatVFnExactDiffUpdatesOpn
import Derived.WalkKit
import Derived.ProofKit
import Derived.OpenShut
import Derived.ShutString
import Derived.ChangeOld
import Derived.Below
import Derived.SizedLaws
namespace Go.Proofs.YtglcnnmobkocmaaGreat.fnExactDiffUpdates
open Go.ChangeShapes Go.WideShapes Go.ChangeAt Go.RowKit
open Go.Proofs.YtglcnnmobkocmaaGreat.Opn Go.Proofs.YtglcnnmobkocmaaGreat.Ext Go.Proofs.YtglcnnmobkocmaaGreat.Q Go.Proofs.YtglcnnmobkocmaaGreat.Q.FnExactDiffUpdates Go.Proofs.YtglcnnmobkocmaaGreatW.PrintWords Go.Proofs.YtglcnnmobkocmaaGreatW.PrintLast Go.Proofs.YtglcnnmobkocmaaGreatW.PrintMore
set_option linter.unusedVariables false
set_option linter.unusedSimpArgs false
theorem own : ownKnob Tryz.prog.godebug = none := by kernel_rfl
theorem laidOut : laidOutB Tryz.prog = true := by kernel_rfl
instance : Inhabited S102 := ⟨z102⟩
theorem o102 : Opn Tryz.prog 102 k102 ok102 := opn_iso (opn_struct Tryz.underlying102 (by kernel_rfl) (opnF_cons (opn_string Tryz.underlying9 (by kernel_rfl)) (by rfl) (opnF_one (opn_slice Tryz.underlying23 (by kernel_rfl) (opn_int Tryz.underlying3 (by kernel_rfl))) (by rfl)))) (fun x : S102 => (x.f0, x.f1)) (fun a => ⟨a.1, a.2⟩) (fun _ => rfl)
set_option maxRecDepth 100000 in
set_option maxHeartbeats 1000000 in
theorem lifted (os : Os) (started : os.Started) (H : Type) (enc : TypeId × Value → H) :
    ReturnsInHanded {} Tryz.checked os 6 .any (Rows.fnExactDiffUpdatesSpec.pre6 enc Tryz.prog Tryz.f6 Rows.fnExactDiffUpdatesRow.domain false) (Rows.fnExactDiffUpdatesSpec.post enc Tryz.prog Tryz.f6 false true false false) := by
  refine returnsInHanded_of_change_sized (C := Tryz.checked) own started (by kernel_rfl) Tryz.func6
    (ChangeSpec.witness6 (enc := enc) (C := Tryz.checked) false ⟨#[], #[.agg #[.slice none 0 0, .slice none 0 0, .slice none 0 0, .slice none 0 0], .agg #[.slice none 0 0, .slice none 0 0, .slice none 0 0, .slice none 0 0]], []⟩ 8 (by kernel_rfl) (by kernel_rfl) (by kernel_rfl) (by kernel_rfl)) ?_
  intro W base args ds gs before hval0 hW hcnd hsz0 _
  have hval : ∀ (j : Nat) t v, Tryz.f6.params[j]? = some t → args[j]? = some v → Value.okWide Tryz.prog W .any base t v := hval0
  have hW' := hW
  obtain ⟨p, q, hA0, hV, rfl, hfz, hnd⟩ := hW
  have hA : DataW.TrodAll enc Tryz.prog W 0 (fun _ => true) true Tryz.f6.params.toList args.toList ds p := hA0
  rw [Tryz.params6] at hA hval
  obtain ⟨v0, vs0, d0, ds0, p0, q0, hargs, rfl, rfl, h0, r0⟩ := trodAll_cons hA
  obtain ⟨v1, vs1, d1, ds1, p1, q1, rfl, rfl, rfl, h1, r1⟩ := trodAll_cons r0
  obtain ⟨rfl, rfl, rfl⟩ := trodAll_nil r1
  obtain rfl : args = #[v0, v1] := by cases args; simp_all
  obtain ⟨rfl, rfl⟩ := trodVars_none hV
  have k0 := h0
  have lt0 : ∀ x ∈ p0, x.block < W.heap.size := by obtain ⟨m, hm⟩ := k0; exact DataW.trod_lt m _ _ _ hm
  obtain ⟨cs0, rfl, hsz0⟩ := okWide_struct Tryz.underlying36 (hval 0 36 v0 rfl rfl)
  obtain ⟨fu0, hf0⟩ := h0
  obtain ⟨x0, hK0, hok0⟩ := ((opn_struct Tryz.underlying36 (by kernel_rfl) (opnF_cons (opn_slice Tryz.underlying23 (by kernel_rfl) (opn_int Tryz.underlying3 (by kernel_rfl))) (by rfl) (opnF_cons (opn_slice Tryz.underlying23 (by kernel_rfl) (opn_int Tryz.underlying3 (by kernel_rfl))) (by rfl) (opnF_cons (opn_slice Tryz.underlying34 (by kernel_rfl) o102) (by rfl) (opnF_one (opn_slice Tryz.underlying23 (by kernel_rfl) (opn_int Tryz.underlying3 (by kernel_rfl))) (by rfl))))))).op hf0
  have hK0' : ∃ cs, cs0.toList = cs ∧ Kd.K (Kd.pair (Kd.slice 3 (Kd.int .i64)) (Kd.pair (Kd.slice 3 (Kd.int .i64)) (Kd.pair (Kd.slice 102 k102) (Kd.slice 3 (Kd.int .i64))))) W x0 cs := ⟨_, rfl, hK0⟩
  clear hK0
  obtain ⟨_, e0, hK0⟩ := hK0'
  obtain ⟨_, _, rfl, hK0_0, ⟨_, _, rfl, hK0_1, ⟨_, _, rfl, hK0_2, hK0_3⟩⟩⟩ := hK0
  obtain ⟨A0_0, c0_0, hK0_0, hc0_0, hr0_0⟩ := hK0_0
  obtain ⟨A0_1, c0_1, hK0_1, hc0_1, hr0_1⟩ := hK0_1
  obtain ⟨A0_2, c0_2, hK0_2, hc0_2, hr0_2⟩ := hK0_2
  obtain ⟨A0_3, c0_3, hK0_3, hc0_3, hr0_3⟩ := hK0_3
  subst hK0_0 hK0_1 hK0_2 hK0_3
  obtain rfl : cs0 = #[.slice A0_0 x0.1.length c0_0, .slice A0_1 x0.2.1.length c0_1, .slice A0_2 x0.2.2.1.length c0_2, .slice A0_3 x0.2.2.2.length c0_3] := by apply Array.toList_inj.1; rw [e0]; rfl
  have k1 := h1
  have lt1 : ∀ x ∈ p1, x.block < W.heap.size := by obtain ⟨m, hm⟩ := k1; exact DataW.trod_lt m _ _ _ hm
  obtain ⟨cs1, rfl, hsz1⟩ := okWide_struct Tryz.underlying36 (hval 1 36 v1 rfl rfl)
  obtain ⟨fu1, hf1⟩ := h1
  obtain ⟨x1, hK1, hok1⟩ := ((opn_struct Tryz.underlying36 (by kernel_rfl) (opnF_cons (opn_slice Tryz.underlying23 (by kernel_rfl) (opn_int Tryz.underlying3 (by kernel_rfl))) (by rfl) (opnF_cons (opn_slice Tryz.underlying23 (by kernel_rfl) (opn_int Tryz.underlying3 (by kernel_rfl))) (by rfl) (opnF_cons (opn_slice Tryz.underlying34 (by kernel_rfl) o102) (by rfl) (opnF_one (opn_slice Tryz.underlying23 (by kernel_rfl) (opn_int Tryz.underlying3 (by kernel_rfl))) (by rfl))))))).op hf1
  have hK1' : ∃ cs, cs1.toList = cs ∧ Kd.K (Kd.pair (Kd.slice 3 (Kd.int .i64)) (Kd.pair (Kd.slice 3 (Kd.int .i64)) (Kd.pair (Kd.slice 102 k102) (Kd.slice 3 (Kd.int .i64))))) W x1 cs := ⟨_, rfl, hK1⟩
  clear hK1
  obtain ⟨_, e1, hK1⟩ := hK1'
  obtain ⟨_, _, rfl, hK1_0, ⟨_, _, rfl, hK1_1, ⟨_, _, rfl, hK1_2, hK1_3⟩⟩⟩ := hK1
  obtain ⟨A1_0, c1_0, hK1_0, hc1_0, hr1_0⟩ := hK1_0
  obtain ⟨A1_1, c1_1, hK1_1, hc1_1, hr1_1⟩ := hK1_1
  obtain ⟨A1_2, c1_2, hK1_2, hc1_2, hr1_2⟩ := hK1_2
  obtain ⟨A1_3, c1_3, hK1_3, hc1_3, hr1_3⟩ := hK1_3
  subst hK1_0 hK1_1 hK1_2 hK1_3
  obtain rfl : cs1 = #[.slice A1_0 x1.1.length c1_0, .slice A1_1 x1.2.1.length c1_1, .slice A1_2 x1.2.2.1.length c1_2, .slice A1_3 x1.2.2.2.length c1_3] := by apply Array.toList_inj.1; rw [e1]; rfl
  clear hA0 hval0 hsz0
  obtain ⟨k, hp⟩ := pure (x0.1) (x0.2.1) (x0.2.2.1) (x0.2.2.2) (x1.1) (x1.2.1) (x1.2.2.1) (x1.2.2.2) hok0.1 hok0.2.1 hok0.2.2.1 hok0.2.2.2 hok1.1 hok1.2.1 hok1.2.2.1 hok1.2.2.2
  refine (laws_FnExactDiffUpdates.calls k _ _ (x0.1) _ _ (x0.2.1) _ _ (x0.2.2.1) _ _ (x0.2.2.2) _ _ (x1.1) _ _ (x1.2.1) _ _ (x1.2.2.1) _ _ (x1.2.2.2) true W hr0_0 hc0_0 hr0_1 hc0_1 hr0_2 hc0_2 hr0_3 hc0_3 hr1_0 hc1_0 hr1_1 hc1_1 hr1_2 hc1_2 hr1_3 hc1_3 hp ⟨rfl⟩).mono fun e W' ⟨he, bel0⟩ => ?_
  have bel : Below W.heap.size W W' := bel0
  subst he
  exact ⟨_, rfl, _, _, _, [], _, [], hW', trodAll_mk1 (shut_bool Tryz.underlying4 _), (trodAll_cons_mk (Below.trod laidOut (by kernel_rfl) (of_decide_eq_true (by kernel_rfl)) k0 bel lt0) (trodAll_cons_mk (Below.trod laidOut (by kernel_rfl) (of_decide_eq_true (by kernel_rfl)) k1 bel lt1) trodAll_mk0)), rfl, bel.frame _, fun h => by cases h⟩
theorem over : Rows.fnExactDiffUpdatesRow.holds Tryz.pinned (OpenSpec.ofChange Rows.fnExactDiffUpdatesSpec) :=
  OpenClaim.holds_of_wide 6 Tryz.f6 rfl rfl rfl rfl rfl rfl rfl ⟨rfl, rfl, rfl, rfl, rfl⟩ rfl rfl rfl rfl rfl (by kernel_rfl) Tryz.func6 (by kernel_rfl)
    (of_decide_eq_true (by kernel_rfl)) (by unfold Func.isWrapper; first | (rw [if_pos (by decide +kernel)]; kernel_rfl) | (rw [if_neg (by decide +kernel)]; exact ⟨rfl, rfl⟩))
    (fun os started H enc _ => lifted os started H enc)
theorem proved : Rows.FnExactDiffUpdatesSaid := over
#print axioms proved
end Go.Proofs.YtglcnnmobkocmaaGreat.fnExactDiffUpdates
namespace Go.Proofs.YtglcnnmobkocmaaGreat
theorem fnExactDiffUpdates_holds : Rows.FnExactDiffUpdatesSaid := fnExactDiffUpdates.proved
end Go.Proofs.YtglcnnmobkocmaaGreat
