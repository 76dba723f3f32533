/- The row of laws.FnExactReplyText: whatever the input, it returns true and leaves its arguments as they were. No condition. -/
import Derived.Test.YtniceoohmhjjlaaDoorCards
import Derived.Test.YtniceoohmhjjlaaDoorTie
import Derived.LaidMore
import Derived.Lay
import Derived.SevenTiedAt
import Derived.Stop.Joined
import Derived.Handed
import Derived.MakeChecks
import Derived.Lib.LaidTab
import Derived.Stop.LaidErr
import Derived.Test.YtniceoohmhjjlaaDoorPureFnExactReplyText
import Derived.Test.YtniceoohmhjjlaaDoorVFnExactReplyTextOpn
import Derived.WalkKit
import Derived.ProofKit
import Derived.OpenShut
import Derived.ShutString
import Derived.ChangeOld
import Derived.Below
import Derived.SizedLaws
namespace Go.Proofs.YtniceoohmhjjlaaDoor.fnExactReplyText
open Go.ChangeShapes Go.WideShapes Go.ChangeAt Go.RowKit
open Go.Proofs.YtniceoohmhjjlaaDoor.Opn Go.Proofs.YtniceoohmhjjlaaDoor.Ext Go.Proofs.YtniceoohmhjjlaaDoor.Q Go.Proofs.YtniceoohmhjjlaaDoor.Q.FnExactReplyText Go.Proofs.YtniceoohmhjjlaaDoorW.PrintWords Go.Proofs.YtniceoohmhjjlaaDoorW.PrintLast Go.Proofs.YtniceoohmhjjlaaDoorW.PrintMore
set_option linter.unusedVariables false
set_option linter.unusedSimpArgs false
theorem own : ownKnob Tryd.prog.godebug = none := by kernel_rfl
theorem laidOut : laidOutB Tryd.prog = true := by kernel_rfl
set_option maxRecDepth 100000 in
set_option maxHeartbeats 1000000 in
theorem lifted (os : Os) (started : os.Started) (H : Type) (enc : TypeId × Value → H) :
    ReturnsInHanded {} Tryd.checked os 6 .any (fun w args => (Rows.fnExactReplyTextSpec.pre enc Tryd.prog Tryd.f6 Rows.fnExactReplyTextRow.domain false w args ∧ laidMetH Tryd.prog Rows.fnExactReplyTextRow.laid w) ∧ sizedMet enc Tryd.prog Tryd.f6 (OpenSpec.ofChange Rows.fnExactReplyTextSpec) false w args) (Rows.fnExactReplyTextSpec.post enc Tryd.prog Tryd.f6 false true false false) := by
  refine returnsInHanded_of_change_and (C := Tryd.checked) (X := fun w _ => laidMetH Tryd.prog Rows.fnExactReplyTextRow.laid w) (fun _ _ _ hh h => h.of_heap hh) own started (by kernel_rfl) Tryd.func6
    (ChangeSpec.witness_shaped (enc := enc) (C := Tryd.checked) (os := os) (X := fun w _ => laidMetH Tryd.prog Rows.fnExactReplyTextRow.laid w) false (World.laidAll Tryd.prog os Rows.fnExactReplyTextRow.laid) #[.agg #[.int .i64 0, .int .i64 0, .int .i64 0, .string ByteArray.empty], .agg #[.int .i64 0, .int .i64 0, .slice none 0 0]] 8 (World.laidAll_os _ _ _)
      (World.shaped_of_ZipB (by kernel_rfl) (by kernel_rfl)) (by kernel_rfl) (by kernel_rfl) (by kernel_rfl)
      (by rw [MakeChecks.laidMetH_plain _ _ _ (by kernel_rfl)]; exact laidMet_laidAll _ (by kernel_rfl) (by kernel_rfl))) ?_
  intro W base args ds gs before hval0 hW hcnd _ hL _
  have htab : TrydTab W := by
    have hL2 := hL
    rw [MakeChecks.laidMetH_plain _ _ _ (by kernel_rfl)] at hL2
    exact Lib.tabIs_of_head (g := 3) (t := 180) (e := 155) (by kernel_rfl) (by kernel_rfl) Tryd.underlying180 Tryd.underlying155 (by kernel_rfl) (by kernel_rfl) (laidMet.tail (laidMet.tail hL2))
  clear hL
  have hval : ∀ (j : Nat) t v, Tryd.f6.params[j]? = some t → args[j]? = some v → Value.okWide Tryd.prog W .any base t v := hval0
  have hW' := hW
  obtain ⟨p, q, hA0, hV, rfl, hfz, hnd⟩ := hW
  have hA : DataW.TrodAll enc Tryd.prog W 0 (fun _ => true) true Tryd.f6.params.toList args.toList ds p := hA0
  rw [Tryd.params6] at hA hval
  obtain ⟨v0, vs0, d0, ds0, p0, q0, hargs, rfl, rfl, h0, r0⟩ := trodAll_cons hA
  obtain ⟨v1, vs1, d1, ds1, p1, q1, rfl, rfl, rfl, h1, r1⟩ := trodAll_cons r0
  obtain ⟨rfl, rfl, rfl⟩ := trodAll_nil r1
  obtain rfl : args = #[v0, v1] := by cases args; simp_all
  obtain ⟨rfl, rfl⟩ := trodVars_none hV
  have k0 := h0
  have lt0 : ∀ x ∈ p0, x.block < W.heap.size := by obtain ⟨m, hm⟩ := k0; exact DataW.trod_lt m _ _ _ hm
  obtain ⟨cs0, rfl, hsz0⟩ := okWide_struct Tryd.underlying33 (hval 0 33 v0 rfl rfl)
  obtain ⟨fu0, hf0⟩ := h0
  obtain ⟨x0, hK0, hok0⟩ := ((opn_struct Tryd.underlying33 (by kernel_rfl) (opnF_cons (opn_int Tryd.underlying3 (by kernel_rfl)) (by rfl) (opnF_cons (opn_int Tryd.underlying3 (by kernel_rfl)) (by rfl) (opnF_cons (opn_int Tryd.underlying3 (by kernel_rfl)) (by rfl) (opnF_one (opn_string Tryd.underlying9 (by kernel_rfl)) (by rfl))))))).op hf0
  have hK0' : ∃ cs, cs0.toList = cs ∧ Kd.K (Kd.pair (Kd.int .i64) (Kd.pair (Kd.int .i64) (Kd.pair (Kd.int .i64) Kd.string))) W x0 cs := ⟨_, rfl, hK0⟩
  clear hK0
  obtain ⟨_, e0, hK0⟩ := hK0'
  obtain ⟨_, _, rfl, hK0_0, ⟨_, _, rfl, hK0_1, ⟨_, _, rfl, hK0_2, hK0_3⟩⟩⟩ := hK0
  subst hK0_0 hK0_1 hK0_2 hK0_3
  obtain rfl : cs0 = #[.int .i64 x0.1, .int .i64 x0.2.1, .int .i64 x0.2.2.1, .string x0.2.2.2] := by apply Array.toList_inj.1; rw [e0]; rfl
  have k1 := h1
  have lt1 : ∀ x ∈ p1, x.block < W.heap.size := by obtain ⟨m, hm⟩ := k1; exact DataW.trod_lt m _ _ _ hm
  obtain ⟨cs1, rfl, hsz1⟩ := okWide_struct Tryd.underlying39 (hval 1 39 v1 rfl rfl)
  obtain ⟨fu1, hf1⟩ := h1
  obtain ⟨x1, hK1, hok1⟩ := ((opn_struct Tryd.underlying39 (by kernel_rfl) (opnF_cons (opn_int Tryd.underlying3 (by kernel_rfl)) (by rfl) (opnF_cons (opn_int Tryd.underlying3 (by kernel_rfl)) (by rfl) (opnF_one (opn_slice Tryd.underlying37 (by kernel_rfl) (opn_string Tryd.underlying9 (by kernel_rfl))) (by rfl)))))).op hf1
  have hK1' : ∃ cs, cs1.toList = cs ∧ Kd.K (Kd.pair (Kd.int .i64) (Kd.pair (Kd.int .i64) (Kd.slice 9 Kd.string))) W x1 cs := ⟨_, rfl, hK1⟩
  clear hK1
  obtain ⟨_, e1, hK1⟩ := hK1'
  obtain ⟨_, _, rfl, hK1_0, ⟨_, _, rfl, hK1_1, hK1_2⟩⟩ := hK1
  obtain ⟨A1_2, c1_2, hK1_2, hc1_2, hr1_2⟩ := hK1_2
  subst hK1_0 hK1_1 hK1_2
  obtain rfl : cs1 = #[.int .i64 x1.1, .int .i64 x1.2.1, .slice A1_2 x1.2.2.length c1_2] := by apply Array.toList_inj.1; rw [e1]; rfl
  clear hA0 hval0
  obtain ⟨k, hp⟩ := pure (x0.1) (x0.2.1) (x0.2.2.1) (x0.2.2.2) (x1.1) (x1.2.1) (x1.2.2) hok0.1 hok0.2.1 hok0.2.2.1 hok0.2.2.2 hok1.1 hok1.2.1 hok1.2.2
  refine (laws_FnExactReplyText.calls k (x0.1) (x0.2.1) (x0.2.2.1) (x0.2.2.2) (x1.1) (x1.2.1) _ _ (x1.2.2) true W hr1_2 hc1_2 hp ⟨rfl⟩ htab).mono fun e W' ⟨he, bel0⟩ => ?_
  have bel : Below W.heap.size W W' := bel0
  subst he
  exact ⟨_, rfl, _, _, _, [], _, [], hW', trodAll_mk1 (shut_bool Tryd.underlying4 _), (trodAll_cons_mk (Below.trod laidOut (by kernel_rfl) (of_decide_eq_true (by kernel_rfl)) k0 bel lt0) (trodAll_cons_mk (Below.trod laidOut (by kernel_rfl) (of_decide_eq_true (by kernel_rfl)) k1 bel lt1) trodAll_mk0)), rfl, bel.frame _, fun h => by cases h⟩
theorem over : Rows.fnExactReplyTextRow.holds Tryd.pinned (OpenSpec.ofChange Rows.fnExactReplyTextSpec) :=
  OpenClaim.holds_of_wide 6 Tryd.f6 rfl rfl rfl rfl rfl rfl rfl ⟨rfl, rfl, rfl, rfl, rfl⟩ rfl rfl rfl rfl rfl (by kernel_rfl) Tryd.func6 (by kernel_rfl)
    (of_decide_eq_true (by kernel_rfl)) (by unfold Func.isWrapper; first | (rw [if_pos (by decide +kernel)]; kernel_rfl) | (rw [if_neg (by decide +kernel)]; exact ⟨rfl, rfl⟩))
    (fun os started H enc _ => lifted os started H enc)
theorem proved : Rows.FnExactReplyTextSaid := over
#print axioms proved
end Go.Proofs.YtniceoohmhjjlaaDoor.fnExactReplyText
namespace Go.Proofs.YtniceoohmhjjlaaDoor
theorem fnExactReplyText_row_holds : Rows.FnExactReplyTextSaid := fnExactReplyText.proved
theorem fnExactReplyText_holds : Rows.FnExactReplyTextCardSaid :=
  Claim7.holds_tied_plain_at .later [] [.data, .data, .data] true (true, "a70e6f9c3d73d59c4e3cdffbf282935af71a7cba78a1de181424bf8af6721979") true fnExactReplyText_row_holds (fun _ h => by cases h) (by kernel_rfl) (fun _ h => by cases h) fnExactReplyText_row_tie rfl ⟨rfl, rfl⟩ (by kernel_rfl) rfl
    (fun f fn hf hfn => by
      obtain rfl : f = 6 := Option.some.inj ((show Tryd.prog.funcNamed "loop.example/g00456/laws.FnExactReplyText" = some 6 by kernel_rfl).symm.trans hf) |>.symm
      obtain rfl : fn = Tryd.f6 := (Option.some.inj (Tryd.func6.symm.trans hfn)).symm
      exact ⟨by kernel_rfl, fun j t ht => by
        rw [Tryd.params6] at ht
        have hm : t ∈ [33, 39] := by simpa using Array.mem_of_getElem? ht
        have hall : ([33, 39].all fun u => !Tryd.prog.wantsStandIn u) = true := by kernel_rfl
        exact (show Tryd.prog.wantsStandIn t = false by simpa using List.all_eq_true.1 hall t hm)⟩)
    (by kernel_rfl)
#print axioms fnExactReplyText_holds
end Go.Proofs.YtniceoohmhjjlaaDoor
